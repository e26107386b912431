import Derived.Test.YtjbcalbbhomkjaaGreatEZ2
set_option maxRecDepth 20000
set_option maxHeartbeats 2000000
namespace Go.Proofs.YtjbcalbbhomkjaaGreat
theorem rmin_l {a b : Rat} (h : a ≤ b) : min a b = a := by grind
theorem rmin_r {a b : Rat} (h : b ≤ a) : min a b = b := by grind
def S (t : Rat) : List Cl → Rat
 | [] => 0
 | x :: r => min ((x.cap : Int) : Rat) (t * x.w.q) + S t r
def csum : List Cl → Int
 | [] => 0
 | x :: r => x.cap + csum r
theorem wsum_map {r : List It} {t : Rat} (h : ∀ y ∈ r, t * y.c.w.q ≤ ((y.c.cap : Int) : Rat)) : S t (r.map It.c) = t * wsum r := by
 induction r with
 | nil => simp [S, wsum, Rat.mul_zero]
 | cons x r ih =>
  rw [List.map_cons, S, wsum, rmin_r (h x (by simp)), ih fun y hy => h y (by simp [hy])]
  grind
theorem lev_main {ys : List It} : ∀ {a : Int} {o : Rat}, (∀ y ∈ ys, y.good) → (ys.Pairwise fun x y => ltI y x = false) → 0 ≤ a → 0 ≤ o → (∀ y ∈ ys, o * y.c.w.q ≤ ((y.c.cap : Int) : Rat)) → o * wsum ys ≤ (a : Rat) →
  o ≤ lev a o ys ∧ S (lev a o ys) (ys.map It.c) = ((min (csum (ys.map It.c)) a : Int) : Rat) ∧ (lev a o ys = o ∨ ∃ y ∈ ys, lev a o ys * y.c.w.q ≤ ((y.c.cap : Int) : Rat)) := by
 induction ys with
 | nil =>
  intro a o _ _ ha _ _ _
  refine ⟨Rat.le_refl, ?_, .inl rfl⟩
  simp only [lev, List.map_nil, S, csum]
  rw [Int.min_eq_left ha]; rfl
 | cons x r ih =>
  intro a o hg hs ha ho hc hw
  have gx := hg x (by simp)
  have hW : 0 < wsum (x :: r) := wsum_pos (l := x :: r) (i := 0) hg rfl
  have hwr : 0 ≤ wsum r := wsum_nonneg fun y hy => hg y (by simp [hy])
  have hmax : max a 0 = a := by omega
  rw [List.pairwise_cons] at hs
  obtain ⟨hs1, hs2⟩ := hs
  have hsx : ∀ y ∈ r, ((x.c.cap : Int) : Rat) * y.c.w.q ≤ ((y.c.cap : Int) : Rat) * x.c.w.q := fun y hy => (ltI_f y x).1 (hs1 y hy)
  have px := gx.p
  unfold lev
  rw [hmax]
  split
  ·rename_i hlt
   generalize hT : (a : Rat) / wsum (x :: r) = t
   have hT' : t * wsum (x :: r) = (a : Rat) := by rw [← hT, Rat.div_mul_cancel (Rat.ne_of_pos hW)]
   have htx : t * x.c.w.q < ((x.c.cap : Int) : Rat) := by
    have h1 : (t * x.c.w.q) * wsum (x :: r) < ((x.c.cap : Int) : Rat) * wsum (x :: r) := by
     have : (t * x.c.w.q) * wsum (x :: r) = (t * wsum (x :: r)) * x.c.w.q := by grind
     rw [this, hT']; exact hlt
    exact Rat.lt_of_mul_lt_mul_right h1 (Rat.le_of_lt hW)
   have hall : ∀ y ∈ x :: r, t * y.c.w.q ≤ ((y.c.cap : Int) : Rat) := by
    intro y hy
    rcases List.mem_cons.1 hy with rfl | hy
    ·exact Rat.le_of_lt htx
    ·have gy := (hg y (by simp [hy])).p
     have h1 := Rat.mul_le_mul_of_nonneg_right (Rat.le_of_lt htx) (Rat.le_of_lt gy)
     have h2 := hsx y hy
     have h3 : (t * y.c.w.q) * x.c.w.q ≤ ((y.c.cap : Int) : Rat) * x.c.w.q := by
      have : (t * y.c.w.q) * x.c.w.q = t * x.c.w.q * y.c.w.q := by grind
      rw [this]; exact Rat.le_trans h1 h2
     exact Rat.le_of_mul_le_mul_right h3 px
   have hsum := wsum_map hall
   rw [hT'] at hsum
   have hle : (a : Rat) ≤ ((csum ((x :: r).map It.c) : Int) : Rat) := by
    rw [← hsum]
    have hgen : ∀ l : List Cl, S t l ≤ ((csum l : Int) : Rat) := by
     intro l
     induction l with
     | nil => simp [S, csum]
     | cons z l ihl =>
      simp only [S, csum, Rat.intCast_add]
      have : min ((z.cap : Int) : Rat) (t * z.w.q) ≤ ((z.cap : Int) : Rat) := by grind
      grind
    exact hgen _
   refine ⟨?_, ?_, .inr ⟨x, by simp, Rat.le_of_lt htx⟩⟩
   ·refine Rat.le_of_mul_le_mul_right ?_ hW
    rw [hT']; exact hw
   ·rw [hsum, Int.min_eq_right (Rat.intCast_le_intCast.1 hle)]
  ·rename_i hlt
   have hge := Rat.not_lt.1 hlt
   generalize hO : ((x.c.cap : Int) : Rat) / x.c.w.q = o'
   have hO' : o' * x.c.w.q = ((x.c.cap : Int) : Rat) := by rw [← hO, Rat.div_mul_cancel (Rat.ne_of_pos px)]
   have hcap0 : (0 : Rat) ≤ ((x.c.cap : Int) : Rat) := Rat.intCast_nonneg.2 gx.b0
   have hx1 : ((x.c.cap : Int) : Rat) ≤ (a : Rat) := by
    refine Rat.le_of_mul_le_mul_right ?_ px
    refine Rat.le_trans ?_ hge
    have : wsum (x :: r) = x.c.w.q + wsum r := rfl
    rw [this]
    have := Rat.mul_nonneg hcap0 hwr
    grind
   have ha' : 0 ≤ a - x.c.cap := by have := Rat.intCast_le_intCast.1 hx1; omega
   have ho' : 0 ≤ o' := by
    refine Rat.le_of_mul_le_mul_right ?_ px
    rw [hO', Rat.zero_mul]; exact hcap0
   have hoo : o ≤ o' := by
    refine Rat.le_of_mul_le_mul_right ?_ px
    rw [hO']; exact hc x (by simp)
   have hcr : ∀ y ∈ r, o' * y.c.w.q ≤ ((y.c.cap : Int) : Rat) := by
    intro y hy
    refine Rat.le_of_mul_le_mul_right ?_ px
    have : o' * y.c.w.q * x.c.w.q = o' * x.c.w.q * y.c.w.q := by grind
    rw [this, hO']; exact hsx y hy
   have hwr' : o' * wsum r ≤ ((a - x.c.cap : Int) : Rat) := by
    refine Rat.le_of_mul_le_mul_right ?_ px
    have e1 : o' * wsum r * x.c.w.q = o' * x.c.w.q * wsum r := by grind
    rw [e1, hO', Rat.intCast_sub]
    have e2 : wsum (x :: r) = x.c.w.q + wsum r := rfl
    rw [e2] at hge
    grind
   obtain ⟨h1, h2, h3⟩ := ih (a := a - x.c.cap) (o := o') (fun y hy => hg y (by simp [hy])) hs2 ha' ho' hcr hwr'
   have hmin : ((x.c.cap : Int) : Rat) ≤ lev (a - x.c.cap) o' r * x.c.w.q := by
    have := Rat.mul_le_mul_of_nonneg_right h1 (Rat.le_of_lt px)
    rwa [hO'] at this
   refine ⟨Rat.le_trans hoo h1, ?_, ?_⟩
   ·rw [List.map_cons, S, rmin_l hmin, h2, csum, ← Rat.intCast_add]
    congr 1
    omega
   ·rcases h3 with h3 | ⟨y, hy, h3⟩
    ·right
     refine ⟨x, by simp, ?_⟩
     rw [h3, hO']; exact Rat.le_refl
    ·exact .inr ⟨y, by simp [hy], h3⟩
end Go.Proofs.YtjbcalbbhomkjaaGreat
namespace Go.Proofs.YtjbcalbbhomkjaaGreat
theorem S_perm {t : Rat} {a b : List Cl} (h : a.Perm b) : S t a = S t b := by
 induction h with
 | nil => rfl
 | cons x _ ih => simp only [S, ih]
 | swap x y l => simp only [S]; grind
 | trans _ _ h1 h2 => exact h1.trans h2
theorem csum_perm {a b : List Cl} (h : a.Perm b) : csum a = csum b := by
 induction h with
 | nil => rfl
 | cons x _ ih => simp only [csum, ih]
 | swap x y l => simp only [csum]; omega
 | trans _ _ h1 h2 => exact h1.trans h2
theorem csum_append (a b : List Cl) : csum (a ++ b) = csum a + csum b := by
 induction a with
 | nil => simp [csum]
 | cons x r ih => simp only [List.cons_append, csum, ih]; omega
theorem S_filter {t : Rat} {l : List Cl} (h : ∀ x ∈ l, x.good) : S t (l.filter nz) = S t l := by
 induction l with
 | nil => rfl
 | cons x r ih =>
  have ih := ih fun y hy => h y (by simp [hy])
  cases hx : nz x
  ·rw [List.filter_cons_of_neg (by simp [hx]), ih, S]
   have : x.w.q = 0 := by simpa [nz] using hx
   have h0 : (0 : Rat) ≤ ((x.cap : Int) : Rat) := Rat.intCast_nonneg.2 (h x (by simp)).b0
   rw [this, Rat.mul_zero, rmin_r h0, Rat.zero_add]
  ·rw [List.filter_cons_of_pos hx, S, S, ih]
def tot (a : Int) (l : List Cl) : Int := min (csum (l.filter nz)) a
theorem LevOf.sum {a : Int} {l : List Cl} {t : Rat} (h : LevOf a l t) (hg : ∀ x ∈ l, x.good) (ha : 0 ≤ a) :
  0 ≤ t ∧ S t l = ((tot a l : Int) : Rat) ∧ (t = 0 ∨ ∃ x ∈ l, 0 < x.w.q ∧ t * x.w.q ≤ ((x.cap : Int) : Rat)) := by
 obtain ⟨ys, hp, hs, rfl⟩ := h
 have gy := LevOf.good hp hg
 have ha' : (0 : Rat) ≤ (a : Rat) := Rat.intCast_nonneg.2 ha
 obtain ⟨h1, h2, h3⟩ := lev_main (a := a) (o := 0) gy (Ins.pairwise hs) ha Rat.le_refl (fun y hy => by rw [Rat.zero_mul]; exact Rat.intCast_nonneg.2 (gy y hy).b0) (by rw [Rat.zero_mul]; exact ha')
 refine ⟨h1, ?_, ?_⟩
 ·rw [← S_filter hg, ← S_perm hp, h2, csum_perm hp]; rfl
 ·rcases h3 with h3 | ⟨y, hy, h3⟩
  ·exact .inl h3
  ·have h4 : y.c ∈ l.filter nz := hp.mem_iff.1 (List.mem_map_of_mem hy)
   exact .inr ⟨y.c, (List.mem_filter.1 h4).1, (gy y hy).p, h3⟩
theorem fl_eq (q : Rat) : fl q = q.num / (q.den : Int) := by
 unfold fl
 exact Int.fdiv_eq_ediv_of_nonneg _ (by omega)
theorem fl_le (q : Rat) : ((fl q : Int) : Rat) ≤ q := by
 rw [Rat.le_iff, fl_eq]
 simp only [Rat.num_intCast, Rat.den_intCast]
 have := Int.ediv_mul_le q.num (b := (q.den : Int)) (by have := q.den_nz; omega)
 simpa using this
theorem lt_fl (q : Rat) : q < ((fl q : Int) : Rat) + 1 := by
 have e : ((fl q : Int) : Rat) + 1 = ((fl q + 1 : Int) : Rat) := by rw [Rat.intCast_add]; rfl
 rw [e, Rat.lt_iff, fl_eq]
 simp only [Rat.num_intCast, Rat.den_intCast]
 have h0 : 0 < (q.den : Int) := by have := q.den_nz; omega
 have := Int.lt_ediv_add_one_mul_self q.num h0
 simpa using this
theorem fl_nonneg {q : Rat} (h : 0 ≤ q) : 0 ≤ fl q := by
 have h1 := lt_fl q
 have h2 : (0 : Rat) < ((fl q + 1 : Int) : Rat) := by rw [Rat.intCast_add]; have e1 : ((1 : Int) : Rat) = 1 := rfl; rw [e1]; grind
 have := Rat.intCast_lt_intCast.1 (show ((0 : Int) : Rat) < ((fl q + 1 : Int) : Rat) from h2)
 omega
theorem fl_cap {q : Rat} {c : Int} (h : q ≤ (c : Rat)) : fl q ≤ c := Rat.intCast_le_intCast.1 (Rat.le_trans (fl_le q) h)
def isum : List Int → Int
 | [] => 0
 | x :: r => x + isum r
def qsum : List Fr → Rat
 | [] => 0
 | x :: r => x.q + qsum r
theorem isum_append (a b : List Int) : isum (a ++ b) = isum a + isum b := by
 induction a with
 | nil => simp [isum]
 | cons x r ih => simp only [List.cons_append, isum, ih]; omega
theorem ExP.sum {l : List Cl} {t : Rat} : ∀ {xs : List Fr}, ExP l t xs → qsum xs = S t l := by
 induction l with
 | nil =>
  intro xs h
  have := List.eq_nil_of_length_eq_zero h.len
  subst this; rfl
 | cons x r ih =>
  intro xs h
  cases xs with
  | nil => have := h.len; simp at this
  | cons y ys =>
   have h1 := h.q 0 x y rfl rfl
   have h2 := ih (xs := ys) ⟨by have := h.len; simpa using this, fun j a b ha hb => h.q (j + 1) a b ha hb⟩
   simp only [qsum, S, h1, h2]
theorem fl_sum (xs : List Fr) : ((isum (xs.map fun x => fl x.q) : Int) : Rat) ≤ qsum xs ∧ qsum xs ≤ ((isum (xs.map fun x => fl x.q) + xs.length : Int) : Rat) := by
 induction xs with
 | nil => simp [isum, qsum]
 | cons x r ih =>
  have h1 := fl_le x.q
  have h2 := lt_fl x.q
  have e : ((isum ((x :: r).map fun x => fl x.q) + ((x :: r).length : Nat) : Int) : Rat) = ((fl x.q : Int) : Rat) + 1 + ((isum (r.map fun x => fl x.q) + (r.length : Nat) : Int) : Rat) := by
   have e2 : (isum ((x :: r).map fun x => fl x.q) + ((x :: r).length : Nat) : Int) = (fl x.q + 1) + (isum (r.map fun x => fl x.q) + (r.length : Nat)) := by simp only [List.map_cons, isum, List.length_cons]; omega
   rw [e2, Rat.intCast_add, Rat.intCast_add]; rfl
  refine ⟨?_, ?_⟩
  ·simp only [List.map_cons, isum, qsum, Rat.intCast_add]; grind
  ·rw [e, qsum]; grind
theorem left_ok {a : Int} {l : List Cl} {t : Rat} {xs : List Fr} (h : LevOf a l t) (hx : ExP l t xs) (hg : ∀ x ∈ l, x.good) (ha : 0 ≤ a) : 0 ≤ tot a l - isum (xs.map fun x => fl x.q) ∧ tot a l - isum (xs.map fun x => fl x.q) ≤ xs.length := by
 have h1 := (h.sum hg ha).2.1
 rw [← hx.sum] at h1
 obtain ⟨h2, h3⟩ := fl_sum xs
 rw [h1] at h2 h3
 have := Rat.intCast_le_intCast.1 h2
 have := Rat.intCast_le_intCast.1 h3
 omega
theorem ExP.bounds {l : List Cl} {t : Rat} {xs : List Fr} (hx : ExP l t xs) (hg : ∀ x ∈ l, x.good) (ht : 0 ≤ t) {j : Nat} {y : Fr} (hy : xs[j]? = some y) : 0 ≤ y.q ∧ ∃ x, l[j]? = some x ∧ y.q ≤ ((x.cap : Int) : Rat) ∧ 0 ≤ fl y.q ∧ fl y.q ≤ x.cap ∧ x ∈ l ∧ y.q = min ((x.cap : Int) : Rat) (t * x.w.q) := by
 have hl := (List.getElem?_eq_some_iff.1 hy).1
 rw [hx.len] at hl
 have hxj : l[j]? = some l[j] := List.getElem?_eq_getElem hl
 have gx := hg l[j] (List.getElem_mem hl)
 have e := hx.q j _ y hxj hy
 have h0 : 0 ≤ y.q := by
  rw [e]
  have h1 : (0 : Rat) ≤ ((l[j].cap : Int) : Rat) := Rat.intCast_nonneg.2 gx.b0
  have h2 := Rat.mul_nonneg ht gx.p
  grind
 have h1 : y.q ≤ ((l[j].cap : Int) : Rat) := by rw [e]; grind
 exact ⟨h0, _, hxj, h1, fl_nonneg h0, fl_cap h1, List.getElem_mem hl, e⟩
end Go.Proofs.YtjbcalbbhomkjaaGreat
namespace Go.Proofs.YtjbcalbbhomkjaaGreat
open Go.RowKit
attribute [local irreducible] RI.frame RI.act RI.Ob RI.Tail RI.out V.Wp V.Fn Oper.wp
theorem en15 : En 15 := en_ Tryz.func15
theorem en16 : En 16 := en_ Tryz.func16
theorem en40 : En 40 := en_ Tryz.func40
theorem en42 : En 42 := en_ Tryz.func42
theorem en43 : En 43 := en_ Tryz.func43
theorem en45 : En 45 := en_ Tryz.func45
theorem en88 : En 88 := en_ Tryz.func88
abbrev IntC (z : Int) : List Value := [.int .i64 z]
structure PartI (xs ps : List Fr) (os : List Int) (i : Nat) : Prop where
  lp : ps.length = xs.length
  lo : os.length = xs.length
  dn : ∀ (j : Nat) (x : Fr), j < i → xs[j]? = some x → os[j]? = some (fl x.q) ∧ ∃ y, ps[j]? = some y ∧ y.q = x.q - ((fl x.q : Int) : Rat)
  rs : ∀ (j : Nat), i ≤ j → ps[j]? = xs[j]?
theorem PartI.start (xs : List Fr) : PartI xs xs (List.replicate xs.length 0) 0 := ⟨rfl, by simp, fun j x h => by omega, fun j _ => rfl⟩
theorem PartI.step {xs ps : List Fr} {os : List Int} {i : Nat} {x y : Fr} (h : PartI xs ps os i) (hx : xs[i]? = some x) (hy : y.q = x.q - ((fl x.q : Int) : Rat)) : PartI xs (ps.set i y) (os.set i (fl x.q)) (i + 1) := by
  have hl := (List.getElem?_eq_some_iff.1 hx).1
  have h1 := h.lp
  have h2 := h.lo
  refine ⟨by simp [h1], by simp [h2], fun j z hj hz => ?_, fun j hj => ?_⟩
  · by_cases e : j = i
    · subst e
      rw [hx] at hz; cases hz
      exact ⟨by rw [List.getElem?_set_self (by omega)], y, by rw [List.getElem?_set_self (by omega)], hy⟩
    · rw [List.getElem?_set_ne (Ne.symm e), List.getElem?_set_ne (Ne.symm e)]
      exact h.dn j z (by omega) hz
  · rw [List.getElem?_set_ne (by omega)]; exact h.rs j (by omega)
theorem isum_take {xs : List Fr} {i : Nat} {x : Fr} (h : xs[i]? = some x) : isum ((xs.take (i + 1)).map fun x => fl x.q) = isum ((xs.take i).map fun x => fl x.q) + fl x.q := by
  rw [List.take_add_one, h, List.map_append, isum_append]; simp [isum]
theorem csum_take {ys : List It} {i : Nat} {y : It} (h : ys[i]? = some y) : csum ((ys.take (i + 1)).map It.c) = csum ((ys.take i).map It.c) + y.c.cap := by
  rw [List.take_add_one, h, List.map_append, csum_append]; simp [csum]
theorem Q.Sz.min {k : Nat} {a b : Rat} (h : Q.Sz k a) (h' : Q.Sz k b) : Q.Sz k (min a b) := by
  rcases (Rat.le_total : a ≤ b ∨ b ≤ a) with h1 | h1
  · rw [rmin_l h1]; exact h
  · rw [rmin_r h1]; exact h'
theorem Q.Sz.sub {k m : Nat} {a b : Rat} (h : Q.Sz k a) (h' : Q.Sz m b) : Q.Sz (k + m + 1) (a - b) := by rw [Rat.sub_eq_add_neg]; exact h.add h'.neg
theorem PartI.sz {xs ps : List Fr} {os : List Int} (h : PartI xs ps os xs.length) (hq : ∀ (j : Nat) (x : Fr), xs[j]? = some x → Q.Sz 103 x.q ∧ 0 ≤ fl x.q ∧ fl x.q ≤ 1099511627776) : ∀ x ∈ ps, Q.Sz 256 x.q := by
  intro y hy
  obtain ⟨j, hj⟩ := List.getElem?_of_mem hy
  have hl := (List.getElem?_eq_some_iff.1 hj).1
  rw [h.lp] at hl
  have hx : xs[j]? = some xs[j] := List.getElem?_eq_getElem hl
  obtain ⟨_, z, hz, e⟩ := h.dn j _ hl hx
  rw [hj] at hz; cases hz
  obtain ⟨q1, q2, q3⟩ := hq j _ hx
  rw [e]
  exact (q1.sub (Q.Sz.cap q2 q3)).mono (by decide)
theorem all_set {p : Fr → Prop} {ps : List Fr} {i : Nat} {z : Fr} (h : ∀ x ∈ ps, p x) (hz : p z) : ∀ x ∈ ps.set i z, p x := fun x hx => by
  rcases List.mem_or_eq_of_mem_set hx with hx | rfl
  · exact h x hx
  · exact hz
def incs (ys : List Nat) (os : List Int) (k : Nat) : List Int := (ys.take k).foldl (fun o i => o.set i (o[i]?.getD 0 + 1)) os
theorem incs_succ {ys : List Nat} {os : List Int} {k i : Nat} (h : ys[k]? = some i) : incs ys os (k + 1) = (incs ys os k).set i ((incs ys os k)[i]?.getD 0 + 1) := by
  unfold incs; rw [List.take_add_one, h, List.foldl_append]; rfl
theorem incs_length (ys : List Nat) (os : List Int) (k : Nat) : (incs ys os k).length = os.length := by
  unfold incs
  generalize ys.take k = l
  induction l generalizing os with
  | nil => rfl
  | cons a l ih => rw [List.foldl_cons, ih, List.length_set]
theorem Own.sim {W W' : World} {g k B : Nat} {T : TypeId} {xs : List (List Value)} {rest : List Value} (h : Own W g T k xs rest) (hs : Sim B W W') : Own W' g T k xs rest := ⟨h.blk.sim hs, h.sz⟩
theorem nl_intc (l : List Int) (rest : List Value) (h : rest.all noLimb = true) : (((l.map IntC).flatten ++ rest).toArray).all noLimb = true := nl_ints l rest h
theorem Parts_s {A : Option Addr} {c : Nat} {l : List Cl} {w : World} (hl : Ls w 6 A l.length c (l.map Cl.cells)) (hfr : ∀ x ∈ l, Fr.ok w x.w) (hV : ValidC l) (h10 : l.length ≤ 10) {a : Int} (h0 : 0 ≤ a) (h1 : a ≤ 1099511627776) :
    Calls Tryz.prog 13 #[.int .i64 a, .slice A l.length c] w fun e w' => ∃ (g : Nat) (xs : List Fr) (t : Rat) (ps : List Fr) (os : List Int) (ys : List Nat), e = .returned (.tuple #[.slice (some ⟨g, 0, none⟩) l.length l.length, .int .i64 0]) ∧ LevOf a l t ∧ ExP l t xs ∧ PartI xs ps os xs.length ∧ ys.Perm (List.range l.length) ∧ Ins.Upto (ltM ps) ys l.length ∧ Own w' g 3 1 ((incs ys os (tot a l - isum (xs.map fun x => fl x.q)).toNat).map IntC) [] ∧ w.heap.size ≤ g ∧ Below w.heap.size w w' := by
 have hgood := hV.g
 have h20 : l.length < 20 := by omega
 refine V.enterM Tryz.func13 rfl rfl (by simp) fun f0 hf => ?_
 have s0 : f0 0 = .int .i64 a := hf 0 (by simp)
 have s1 : f0 1 = .slice A l.length c := hf 1 (by simp)
 clear hf
 have hb := Below.refl w.heap.size w
 have w_hl := hl
 have w_hfr := hfr
 refine V.seq ?_
 refine V.reg 2 [V.E (.slice none 0 0), V.E (.int .i64 0)] [] (V.i hl (V.i hfr hb)) ?_ ?_
 ·refine V.a2 ?_ ?_
  ·exact V.z1 rfl fun h => V.xs rfl
  ·exact V.z1 rfl fun h => V.xs rfl
 intro f1 W2 e3
 clear hl hfr hb
 obtain ⟨⟨hl, hfr, hb⟩, z_⟩ := e3.g
 obtain ⟨s0, s1⟩ := V.e2 e3 s0 s1
 have s4 := V.es e3 0 4 rfl
 have s5 := V.es e3 1 5 rfl
 clear e3 z_
 refine V.t_done rfl (V.nx (V.seq (V.seq ?_)))
 refine V.reg 4 [V.E (.int .i64 a), V.E (.slice A l.length c), V.E (.bool true), V.E (.bool false)] [] (V.i hl (V.i hfr hb)) ?_ ?_
 ·refine V.a4 ?_ ?_ ?_ ?_
  ·exact V.mo rfl 0 s0
  ·exact V.mo rfl 1 s1
  ·refine V.s2 rfl fun f W h => ?_
   refine V.call en40 (V.args2 (V.ed h 0 19 rfl) (V.ed h 1 20 rfl)) (Calls.mono (allowed_t h.g.1.1 h.g.1.2.1 hV h0 h1) ?_)
   rintro e W' ⟨rfl, hb⟩
   exact ⟨_, rfl, rfl, hb⟩
  ·exact V.z1 rfl fun h => V.x_un (V.ed h 2 21 rfl)
 intro f4 W5 e6
 clear hl hfr hb
 obtain ⟨⟨hl, hfr, hb⟩, z_⟩ := e6.g
 obtain ⟨s0, s1, s4, s5⟩ := V.e4 e6 s0 s1 s4 s5
 have s22 := V.es e6 3 22 rfl
 clear e6 z_
 refine V.t_done rfl (V.nx ?_)
 refine V.cond_f (V.ev_tmp rfl s22) ?_
 refine V.skip ?_
 refine V.nx (V.seq ?_)
 refine V.reg 1 [V.E (.int .i64 0)] [] (V.i hl (V.i hfr hb)) ?_ ?_
 ·refine V.ac ?_ V.an
  ·exact V.z1 rfl fun h => V.xs rfl
 intro f7 W8 e9
 clear hl hfr hb
 obtain ⟨⟨hl, hfr, hb⟩, z_⟩ := e9.g
 obtain ⟨s0, s1, s4, s5⟩ := V.e4 e9 s0 s1 s4 s5
 have s6 := V.es e9 0 6 rfl
 clear e9 z_
 refine V.t_done rfl (V.nx (V.seq (V.seq ?_)))
 refine V.reg 2 [V.E (.slice A l.length c), (fun v W => ∃ A10 : Option Addr, ∃ c11 : Nat, ∃ ys12 : List It, v = .slice A10 ys12.length c11 ∧ Ls W 7 A10 ys12.length c11 (ys12.map It.cells) ∧ (∀ y ∈ ys12, Fr.ok W y.c.w) ∧ ((ys12.map It.c).Perm (l.filter nz)) ∧ (Ins.Upto ltI ys12 ys12.length) ∧ (∀ y ∈ ys12, y.good) ∧ (0 < ys12.length → W8.heap.size ≤ (adr A10).block))] [] (V.i hl (V.i hfr hb)) ?_ ?_
 ·refine V.a2 ?_ ?_
  ·exact V.mo rfl 1 s1
  ·refine V.s2 rfl fun f W h => ?_
   refine V.call en41 (V.args1 (V.ed h 0 23 rfl)) (Calls.mono (items_s h.g.1.1 h.g.1.2.1 hgood h20) ?_)
   rintro e W' ⟨A10, c11, ys12, rfl, p13, p14, p15, p16, p17, p18, hb⟩
   exact ⟨_, rfl, ⟨A10, c11, ys12, rfl, p15, p16, p13, p14, p17, fun h0 => Nat.le_trans h.g.2 (p18 h0)⟩, hb⟩
 intro f19 W20 e21
 clear hl hfr hb
 obtain ⟨⟨hl, hfr, hb⟩, z_⟩ := e21.g
 obtain ⟨s0, s1, s4, s5, s6⟩ := V.e5 e21 s0 s1 s4 s5 s6
 obtain ⟨A10, c11, ys12, s24, r22, r23, n24, n25, n26, n27⟩ := V.eq e21 1 24 rfl
 clear e21 z_
 refine V.t_val (k := 2) (v := .int .i64 (ys12.length : Int)) (t := 25) rfl rfl rfl (by kernel_rfl) trivial (V.x_len (V.ev_tmp rfl s24)) ?_
 intro f28 e29 u30
 replace s0 : f28 0 = .int .i64 a := (u30 0 (by decide)).trans s0
 replace s1 : f28 1 = .slice A l.length c := (u30 1 (by decide)).trans s1
 replace s4 : f28 4 = .slice none 0 0 := (u30 4 (by decide)).trans s4
 replace s5 : f28 5 = .int .i64 0 := (u30 5 (by decide)).trans s5
 replace s6 : f28 6 = .int .i64 0 := (u30 6 (by decide)).trans s6
 replace s24 : f28 24 = .slice A10 ys12.length c11 := (u30 24 (by decide)).trans s24
 have s25 := e29
 clear u30
 refine V.t_val (k := 3) (v := .int .i64 0) (t := 26) rfl rfl rfl (by kernel_rfl) trivial (V.xm rfl) ?_
 intro f31 e32 u33
 replace s0 : f31 0 = .int .i64 a := (u33 0 (by decide)).trans s0
 replace s1 : f31 1 = .slice A l.length c := (u33 1 (by decide)).trans s1
 replace s4 : f31 4 = .slice none 0 0 := (u33 4 (by decide)).trans s4
 replace s5 : f31 5 = .int .i64 0 := (u33 5 (by decide)).trans s5
 replace s6 : f31 6 = .int .i64 0 := (u33 6 (by decide)).trans s6
 replace s24 : f31 24 = .slice A10 ys12.length c11 := (u33 24 (by decide)).trans s24
 replace s25 : f31 25 = .int .i64 (ys12.length : Int) := (u33 25 (by decide)).trans s25
 have s26 := e32
 clear u33
 refine V.t_done rfl (V.nx (V.block ?_))
 have gy := n26
 have hyl : ys12.length < 20 := by have h1 := (n24).length_eq; have h2 := List.length_filter_le nz l; rw [List.length_map] at h1; omega
 refine V.loop (fun k f W => ∃ i : Nat, ∃ tt : Int, (k = ys12.length - i ∧ (i ≤ ys12.length) ∧ (tt = csum ((ys12.take i).map It.c)) ∧ (0 ≤ tt) ∧ (tt ≤ 1099511627776 * (i : Int))) ∧ (f 0 = .int .i64 a ∧ f 1 = .slice A l.length c ∧ f 6 = .int .i64 tt ∧ f 24 = .slice A10 ys12.length c11 ∧ f 25 = .int .i64 (ys12.length : Int) ∧ f 26 = .int .i64 (i : Int)) ∧ (Below w.heap.size w W ∧ Ls W 6 A l.length c (l.map Cl.cells) ∧ (∀ x ∈ l, Fr.ok W x.w) ∧ Ls W 7 A10 ys12.length c11 (ys12.map It.cells))) (ys12.length - 0) ⟨0, 0, ⟨rfl, by omega, by simp [csum], by omega, by omega⟩, ⟨s0, s1, s6, s24, s25, (s26.trans (by simp))⟩, ⟨hb, hl, hfr, r22⟩⟩ ?_
 clear hl hfr hb r22 r23 s0 s1 s4 s5 s6 s24 s25 s26
 rintro k36 f34 W35 ⟨i, tt, ⟨hk41, hil, htt, ht0, ht1⟩, ⟨s0, s1, s6, s24, s25, s26⟩, ⟨r37, r38, r39, r40⟩⟩
 refine V.seq ?_
 refine V.reg 1 [V.E (.bool (decide ((i : Int) < (ys12.length : Int))))] [] (V.i r37 (V.i r38 (V.i r39 r40))) ?_ ?_
 ·refine V.ac ?_ V.an
  ·exact V.z1 rfl fun h => V.xb (V.eo h 26 s26) (V.eo h 25 s25)
 intro f42 W43 e44
 clear r37 r38 r39 r40
 obtain ⟨⟨r37, r38, r39, r40⟩, z_⟩ := e44.g
 obtain ⟨s0, s1, s6, s24, s25, s26⟩ := V.e6 e44 s0 s1 s6 s24 s25 s26
 have s27 := V.es e44 0 27 rfl
 clear e44 z_
 refine V.t_done rfl (V.nx (V.seq ?_))
 cases hc45 : (decide ((i : Int) < (ys12.length : Int)))
 ·have s27_ : f42 27 = .bool false := s27.trans (by rw [hc45])
  refine V.cond_f (V.ev_tmp rfl s27_) ?_
  have hi : i = ys12.length := by have := of_decide_eq_false hc45; omega
  rw [hi, List.take_length] at htt
  refine V.exit (V.tx (V.tx (V.bx (V.nx (V.seq ?_)))))
  refine V.reg 4 [V.E (.int .i64 a), V.E (.int .i64 tt), V.E (.int .i64 (min a tt)), V.E (.int .i64 (min a tt))] [] (V.i r37 (V.i r38 (V.i r39 r40))) ?_ ?_
  ·refine V.a4 ?_ ?_ ?_ ?_
   ·exact V.mo rfl 0 s0
   ·exact V.mo rfl 6 s6
   ·exact V.z1 rfl fun h => V.x_min (V.ed h 0 36 rfl) (V.ed h 1 37 rfl)
   ·exact V.se rfl 2 38 rfl
  intro f46 W47 e48
  clear r37 r38 r39 r40
  obtain ⟨⟨r37, r38, r39, r40⟩, z_⟩ := e48.g
  obtain ⟨s0, s1⟩ := V.e2 e48 s0 s1
  have s9 := V.es e48 3 9 rfl
  clear e48 z_
  refine V.t_done rfl (V.nx (V.seq ?_))
  refine V.reg 4 [V.E (.int .i64 a), V.E (.slice A l.length c), (fun v W => ∃ g49 : Nat, ∃ xs50 : List Fr, ∃ t51 : Rat, v = .slice (some ⟨g49, 0, none⟩) l.length l.length ∧ Own W g49 39 4 (xs50.map Fr.cells) ([]) ∧ (∀ x ∈ xs50, Fr.ok W x) ∧ (LevOf a l t51) ∧ (ExP l t51 xs50) ∧ (w.heap.size ≤ g49) ∧ (W47.heap.size ≤ g49)), (fun v W => ∃ g58 : Nat, ∃ xs59 : List Fr, ∃ t60 : Rat, v = .slice (some ⟨g58, 0, none⟩) l.length l.length ∧ Own W g58 39 4 (xs59.map Fr.cells) ([]) ∧ (∀ x ∈ xs59, Fr.ok W x) ∧ (LevOf a l t60) ∧ (ExP l t60 xs59) ∧ (w.heap.size ≤ g58) ∧ (W47.heap.size ≤ g58))] [] (V.i r37 (V.i r38 (V.i r39 r40))) ?_ ?_
  ·refine V.a4 ?_ ?_ ?_ ?_
   ·exact V.mo rfl 0 s0
   ·exact V.mo rfl 1 s1
   ·refine V.s2 rfl fun f W h => ?_
    refine V.call en42 (V.args2 (V.ed h 0 39 rfl) (V.ed h 1 40 rfl)) (Calls.mono (exact_s h.g.1.2.1 h.g.1.2.2.1 hgood h20 h0 h1) ?_)
    rintro e W' ⟨g49, xs50, t51, rfl, p52, p53, p54, p55, p56, hb⟩
    exact ⟨_, rfl, ⟨g49, xs50, t51, rfl, p54, p55, p52, p53, Nat.le_trans h.g.1.1.size p56, Nat.le_trans h.g.2 p56⟩, hb⟩
   ·refine V.s2 rfl fun f W h => ?_
    obtain ⟨g49, xs50, t51, a41, k2_0, k2_1, p2_0, p2_1, p2_2, p2_3⟩ := V.dp h 2 41 (by kernel_rfl) rfl
    exact V.v2 (.slice (some ⟨g49, 0, none⟩) l.length l.length) (V.xs (V.ev_tmp rfl a41)) ⟨g49, xs50, t51, rfl, k2_0, k2_1, p2_0, p2_1, p2_2, p2_3⟩
  intro f61 W62 e63
  clear r37 r38 r39 r40
  obtain ⟨⟨r37, r38, r39, r40⟩, z_⟩ := e63.g
  obtain ⟨s0, s1, s9⟩ := V.e3 e63 s0 s1 s9
  obtain ⟨g58, xs59, t60, s10, r64, r65, n66, n67, n68, n69⟩ := V.eq e63 3 10 rfl
  have mg58 := n68
  clear e63 z_
  refine V.t_done rfl (V.nx (V.seq ?_))
  refine V.reg 4 [V.E (.slice A l.length c), V.E (.int .i64 (l.length : Int)), (fun v W => ∃ g71 : Nat, v = .slice (some ⟨g71, 0, none⟩) l.length l.length ∧ Own W g71 3 1 (List.replicate l.length [.int .i64 0]) ([]) ∧ (w.heap.size ≤ g71) ∧ (W62.heap.size ≤ g71)), V.Nb W62 25 #[.slice none 0 0]] [3] (V.i r37 (V.i r38 (V.i r39 (V.i r40 (V.i r64 r65))))) ?_ ?_
  ·refine V.a4 ?_ ?_ ?_ ?_
   ·exact V.mo rfl 1 s1
   ·exact V.z1 rfl fun h => V.x_len (V.ed h 0 42 rfl)
   ·refine V.s2 rfl fun f W h => ?_
    exact V.valv (.slice (some ⟨W.heap.size, 0, none⟩) l.length l.length) (V.x_make (k := 1) (z := .int .i64 0) (V.ed h 1 43 rfl) rfl (by kernel_rfl) (by omega)) ⟨⟨W.heap.size, rfl, Own.made rfl rfl W, h.g.1.1.size, h.g.2⟩, (Below.refl _ _).alloc (Nat.le_refl _) _⟩
   ·exact V.sn rfl fun f W h => V.x_alloc
  have o_g58 := r64.blk.lt
  have o_bel := r37.size
  have ob_r38 := r38.blt
  have ob_r40 := r40.blt
  intro f73 W74 e75
  clear r37 r38 r39 r40 r64 r65
  obtain ⟨⟨r37, r38, r39, r40, r64, r65⟩, z_⟩ := e75.g
  obtain ⟨s0, s1, s9, s10⟩ := V.e4 e75 s0 s1 s9 s10
  obtain ⟨g71, s44, r76, n77, n78⟩ := V.eq e75 2 44 rfl
  have mg71 := n77
  have q80 : g58 ≠ g71 := Nat.ne_of_lt (Nat.lt_of_lt_of_le o_g58 n78)
  obtain ⟨g72, s11, bg72, lg72⟩ := V.eq e75 3 11 rfl
  have mg72 := Nat.le_trans o_bel lg72
  have q58_72 : g58 ≠ g72 := by omega
  have q_r38_g72 : 0 < l.length → (adr A).block ≠ g72 := fun h => Nat.ne_of_lt (Nat.lt_of_lt_of_le (ob_r38 h) lg72)
  have q_r40_g72 : 0 < ys12.length → (adr A10).block ≠ g72 := fun h => Nat.ne_of_lt (Nat.lt_of_lt_of_le (ob_r40 h) lg72)
  clear e75 z_
  clear o_bel o_g58 ob_r38 ob_r40
  refine V.t_st (k := 4) rfl (V.x_store (V.ev_tmp rfl s11) (V.ev_tmp rfl s44) (V.st_one bg72)) bg72 fun W81 hs b' => ?_
  replace r37 := hs.bel r37 mg72
  replace r38 := hs.ls r38 q_r38_g72
  replace r39 := (fun x_0 hx_0 => hs.fr (r39 x_0 hx_0))
  replace r40 := hs.ls r40 q_r40_g72
  replace r64 := hs.own r64 q58_72
  replace r65 := (fun x_0 hx_0 => hs.fr (r65 x_0 hx_0))
  replace r76 := hs.own r76 (blk_ne r76.blk bg72 (by decide))
  replace bg72 := b'
  clear hs b'
  refine V.t_done rfl (V.nx (V.seq (V.seq ?_)))
  refine V.reg 3 [V.E (.slice (some ⟨g58, 0, none⟩) l.length l.length), V.E (.int .i64 (l.length : Int)), V.E (.int .i64 0)] [] (V.i r37 (V.i r38 (V.i r39 (V.i r40 (V.i r64 (V.i r65 (V.i r76 bg72))))))) ?_ ?_
  ·refine V.a3 ?_ ?_ ?_
   ·exact V.mo rfl 10 s10
   ·exact V.z1 rfl fun h => V.x_len (V.ed h 0 45 rfl)
   ·exact V.z1 rfl fun h => V.xm rfl
  intro f82 W83 e84
  clear r37 r38 r39 r40 r64 r65 r76 bg72
  obtain ⟨⟨r37, r38, r39, r40, r64, r65, r76, bg72⟩, z_⟩ := e84.g
  obtain ⟨s0, s1, s9, s10, s11⟩ := V.e5 e84 s0 s1 s9 s10 s11
  have s45 := V.es e84 0 45 rfl
  have s46 := V.es e84 1 46 rfl
  have s47 := V.es e84 2 47 rfl
  clear e84 z_
  refine V.t_done rfl (V.nx (V.block ?_))
  have htot : (min a tt) = tot a l := by unfold tot; rw [htt, csum_perm n24]; omega
  obtain ⟨htn, hsum, _⟩ := n66.sum hgood h0
  have hS := LevOf.sz n66 h1 hgood h20
  have hxb : ∀ (j : Nat) (x : Fr), xs59[j]? = some x → Q.Sz 103 x.q ∧ 0 ≤ fl x.q ∧ fl x.q ≤ 1099511627776 := fun j x hj => by
   obtain ⟨_, z, _, _, h5, h6, h7, h8⟩ := n67.bounds hgood htn hj
   have gz := hgood z h7
   refine ⟨?_, h5, Int.le_trans h6 gz.b1⟩
   rw [h8]; exact ((Q.Sz.cap gz.b0 gz.b1).mono (by decide)).min (hS.mul gz.s)
  have hxl : xs59.length = l.length := n67.len
  have r85 : Own W83 g71 3 1 ((List.replicate xs59.length (0 : Int)).map IntC) [] := by rw [hxl, List.map_replicate]; exact r76
  refine V.loop (fun k f W => ∃ i : Nat, ∃ ps : List Fr, ∃ os : List Int, ∃ lf : Int, (k = l.length - i ∧ (i ≤ l.length) ∧ (PartI xs59 ps os i) ∧ (lf = tot a l - isum ((xs59.take i).map fun x => fl x.q)) ∧ (-(1099511627776 * (i : Int)) ≤ lf) ∧ (lf ≤ 1099511627776)) ∧ (f 9 = .int .i64 lf ∧ f 10 = .slice (some ⟨g58, 0, none⟩) l.length l.length ∧ f 11 = Vp g72 0 ∧ f 45 = .slice (some ⟨g58, 0, none⟩) l.length l.length ∧ f 46 = .int .i64 (l.length : Int) ∧ f 47 = .int .i64 (i : Int)) ∧ (Below w.heap.size w W ∧ Own W g58 39 4 (ps.map Fr.cells) ([]) ∧ (∀ x ∈ ps, Fr.ok W x) ∧ Blk W g72 25 #[.slice (some ⟨g71, 0, none⟩) l.length l.length] ∧ Own W g71 3 1 (os.map IntC) ([]))) (l.length - 0) ⟨0, xs59, (List.replicate xs59.length (0 : Int)), (min a tt), ⟨rfl, by omega, PartI.start _, by rw [htot]; simp [isum], by omega, by omega⟩, ⟨s9, s10, s11, s45, s46, (s47.trans (by simp))⟩, ⟨r37, r64, r65, bg72, r85⟩⟩ ?_
  clear r37 r38 r39 r40 r64 r65 bg72 r85 s0 s1 s9 s10 s11 s45 s46 s47
  rintro k88 f86 W87 ⟨i, ps, os, lf, ⟨hk94, hil, hP, hlf, hl0, hl1⟩, ⟨s9, s10, s11, s45, s46, s47⟩, ⟨r89, r90, r91, r92, r93⟩⟩
  refine V.seq ?_
  refine V.reg 1 [V.E (.bool (decide ((i : Int) < (l.length : Int))))] [] (V.i r89 (V.i r90 (V.i r91 (V.i r92 r93)))) ?_ ?_
  ·refine V.ac ?_ V.an
   ·exact V.z1 rfl fun h => V.xb (V.eo h 47 s47) (V.eo h 46 s46)
  intro f95 W96 e97
  clear r89 r90 r91 r92 r93
  obtain ⟨⟨r89, r90, r91, r92, r93⟩, z_⟩ := e97.g
  obtain ⟨s9, s10, s11, s45, s46, s47⟩ := V.e6 e97 s9 s10 s11 s45 s46 s47
  have s48 := V.es e97 0 48 rfl
  clear e97 z_
  refine V.t_done rfl (V.nx (V.seq ?_))
  cases hc98 : (decide ((i : Int) < (l.length : Int)))
  ·have s48_ : f95 48 = .bool false := s48.trans (by rw [hc98])
   refine V.cond_f (V.ev_tmp rfl s48_) ?_
   have hi : i = l.length := by have := of_decide_eq_false hc98; omega
   have hpl : ps.length = l.length := hP.lp.trans hxl
   have hol : os.length = l.length := hP.lo.trans hxl
   rw [hi, ← hxl] at hP
   rw [hi, ← hxl, List.take_length] at hlf
   have hsz12 := hP.sz hxb
   have h12 : ps.length ≤ 12 := by omega
   obtain ⟨hq0, hq1⟩ := left_ok n66 n67 hgood h0
   rw [← hlf] at hq0 hq1
   replace s10 : f95 10 = .slice (some ⟨g58, 0, none⟩) ps.length ps.length := by rw [hpl]; exact s10
   refine V.exit (V.tx (V.tx (V.bx (V.nx (V.seq (V.seq ?_))))))
   refine V.reg 3 [V.E (.slice (some ⟨g58, 0, none⟩) ps.length ps.length), V.E (.int .i64 lf), (fun v W => ∃ g99 : Nat, ∃ g100 : Nat, ∃ g101 : Nat, ∃ ys102 : List Nat, v = .func (.func 88) #[] #[Vp g99 0, Vp g100 0] ∧ Blk W g99 25 #[.slice (some ⟨g101, 0, none⟩) ps.length ps.length] ∧ Blk W g100 3 #[.int .i64 lf] ∧ Own W g101 3 1 (ys102.map NatC) ([]) ∧ (ys102.Perm (List.range ps.length)) ∧ (Ins.Upto (ltM ps) ys102 ps.length) ∧ (w.heap.size ≤ g101) ∧ (w.heap.size ≤ g99) ∧ (w.heap.size ≤ g100) ∧ (W96.heap.size ≤ g101) ∧ (W96.heap.size ≤ g99) ∧ (W96.heap.size ≤ g100))] [] (V.i r89 (V.i r90 (V.i r91 (V.i r92 r93)))) ?_ ?_
   ·refine V.a3 ?_ ?_ ?_
    ·exact V.mo rfl 10 s10
    ·exact V.mo rfl 9 s9
    ·refine V.s2 rfl fun f W h => ?_
     refine V.call en45 (V.args2 (V.ed h 0 85 rfl) (V.ed h 1 86 rfl)) (Calls.mono (most_s (Own.lsn h.g.1.2.1 ⟨by simp, Nat.le_refl _, by omega⟩) h.g.1.2.2.1 hsz12 h12) ?_)
     rintro e W' ⟨g99, g100, g101, ys102, rfl, p103, p104, p105, p106, p107, p108, p109, p110, hb⟩
     exact ⟨_, rfl, ⟨g99, g100, g101, ys102, rfl, p105, p106, p107, p103, p104, Nat.le_trans h.g.1.1.size p108, Nat.le_trans h.g.1.1.size p109, Nat.le_trans h.g.1.1.size p110, Nat.le_trans h.g.2 p108, Nat.le_trans h.g.2 p109, Nat.le_trans h.g.2 p110⟩, hb⟩
   have o_g58 := r90.blk.lt
   have o_g71 := r93.blk.lt
   have o_g72 := r92.lt
   intro f111 W112 e113
   clear r89 r90 r91 r92 r93
   obtain ⟨⟨r89, r90, r91, r92, r93⟩, z_⟩ := e113.g
   replace s11 := V.e1 e113 s11
   obtain ⟨g99, g100, g101, ys102, s87, r114, r115, r116, n117, n118, n119, n120, n121, n122, n123, n124⟩ := V.eq e113 2 87 rfl
   have q129 : g71 ≠ g101 := Nat.ne_of_lt (Nat.lt_of_lt_of_le o_g71 n122)
   have q132 : g71 ≠ g99 := Nat.ne_of_lt (Nat.lt_of_lt_of_le o_g71 n123)
   have q135 : g71 ≠ g100 := Nat.ne_of_lt (Nat.lt_of_lt_of_le o_g71 n124)
   clear e113 z_
   clear o_g58 o_g71 o_g72
   refine V.t_done rfl (V.nx (V.block ?_))
   have hyl2 : ys102.length = ps.length := by rw [n117.length_eq, List.length_range]
   have hmn : lf.toNat ≤ ps.length := by have := hP.lp; omega
   have d5 : g99 ≠ g71 := (Ne.symm q132)
   have d3 : g100 ≠ g71 := (Ne.symm q135)
   have d2 : g101 ≠ g71 := (Ne.symm q129)
   refine V.rf (V.ev_tmp rfl s87) en88 (most2_iter g99 g100 g101 ps.length lf.toNat ys102 W112 hmn (by omega) ?keep) (fun h k => MostK.trans h k) MostK.sim ?hm ?hf (fun k W' => Below w.heap.size w W' ∧ Blk W' g72 25 #[.slice (some ⟨g71, 0, none⟩) l.length l.length] ∧ Own W' g71 3 1 ((incs ys102 os k).map IntC) [] ∧ ∀ z ∈ incs ys102 os k, 0 ≤ z ∧ z ≤ 1099511627776 + (k : Int)) (fun k args W' => k < lf.toNat ∧ args = #[.int .i64 ((ys102[k]?.getD 0 : Nat) : Int)] ∧ Below w.heap.size w W' ∧ Blk W' g72 25 #[.slice (some ⟨g71, 0, none⟩) l.length l.length] ∧ Own W' g71 3 1 ((incs ys102 os k).map IntC) [] ∧ ∀ z ∈ incs ys102 os k, 0 ≤ z ∧ z ≤ 1099511627776 + (k : Int)) (fun k args f' => f' 18 = args[0]?.getD undef ∧ f' 11 = Vp g72 0) (fun W' => Below w.heap.size w W' ∧ Blk W' g72 25 #[.slice (some ⟨g71, 0, none⟩) l.length l.length] ∧ Own W' g71 3 1 ((incs ys102 os lf.toNat).map IntC) []) ?i1 ?i2 ?i4 ?i5 ?i6 ?asg ?body ?fin ?done
   case hm => rintro k W W' args ⟨rfl, _, rfl⟩; exact ⟨keeps_refl _ _, rfl⟩
   case hf => rintro k W W' ⟨_, rfl⟩; exact keeps_refl _ _
   case keep =>
    intro W2 hW
    refine ⟨(r114.below hW r114.lt).one, by rw [Int.toNat_of_nonneg hq0]; exact (r115.below hW r115.lt).one, fun j hj => ?_⟩
    have h9 := V.Stb.own _ _ r116 hW
    rw [h9.blk.cell]
    have hj2 : j < ys102.length := by omega
    have := flatten_at (k := 1) (rest := []) (i := j) (j := 0) h9.sz (x := NatC ys102[j]) (by rw [List.getElem?_map, List.getElem?_eq_getElem hj2]; rfl) (u := .int .i64 (ys102[j] : Int)) rfl
    rw [List.getElem?_eq_getElem hj2]
    simpa using this
   case i1 => rintro k W W' ⟨h1, h2, h3, h4⟩ hs; exact ⟨below_sim h1 hs r89.size, h2.sim hs, h3.sim hs, h4⟩
   case i2 => rintro k args W W' ⟨h8, h9, h1, h2, h3, h4⟩ hs; exact ⟨h8, h9, below_sim h1 hs r89.size, h2.sim hs, h3.sim hs, h4⟩
   case i4 => rintro W W' ⟨h1, h2, h3⟩ hs; exact ⟨below_sim h1 hs r89.size, h2.sim hs, h3.sim hs⟩
   case i5 =>
    intro W2 hW
    refine ⟨r89.trans (hW.mono r89.size), r92.below hW r92.lt, V.Stb.own _ _ r93 hW, fun z hz => ?_⟩
    obtain ⟨j, hj⟩ := List.getElem?_of_mem (show z ∈ os from hz)
    have hjl := (List.getElem?_eq_some_iff.1 hj).1
    have hxj : xs59[j]? = some xs59[j] := List.getElem?_eq_getElem (by omega)
    have h9 := (hP.dn j _ (by omega) hxj).1
    rw [hj] at h9; cases h9
    obtain ⟨_, h10, h11⟩ := hxb j _ hxj
    exact ⟨h10, by omega⟩
   case i6 =>
    rintro k W2 W' args ⟨h1, h2, h3, h4⟩ ⟨rfl, h5, rfl⟩
    exact ⟨h5, rfl, h1, h2, h3, h4⟩
   case asg =>
    rintro l2 k args W2 ⟨h8, rfl, h1, h2, h3, h4⟩ _
    obtain ⟨f2, e2, p1, p2⟩ := V.params1 (n := Tryz.f13.ntmps) (p := 88) (f := f111) (a := .int .i64 ((ys102[k]?.getD 0 : Nat) : Int)) rfl
    rw [e2]
    refine wpIn_region_list (V.in_val rfl rfl rfl (V.xs (V.ev_tmp rfl p1)) fun f3 q1 q2 => wpListIn_nil ?_)
    exact ⟨keeps_refl _ _, fun x => x, ⟨h8, rfl, h1, h2, h3, h4⟩, f3, rfl, q1, (q2 11 (by decide)).trans ((p2 11 (by decide)).trans s11)⟩
   case body =>
    rintro l2 k args f2 W2 ⟨h8, rfl, h1, h2, h3, h4⟩ ⟨p1, p2⟩
    have hk2 : k < ys102.length := by omega
    obtain ⟨j, hj⟩ : ∃ j, ys102[k]? = some j := ⟨_, List.getElem?_eq_getElem hk2⟩
    have hjn : j < ps.length := List.mem_range.1 (n117.mem_iff.1 (List.mem_of_getElem? hj))
    have hil2 := incs_length ys102 os k
    obtain ⟨o, mo, eo, eo_⟩ := V.at_map IntC (l := incs ys102 os k) (i := j) (by omega)
    obtain ⟨q1, q2⟩ := h4 o mo
    rw [hj] at p1
    replace p1 : f2 18 = .int .i64 (j : Int) := p1
    refine wpIn_block (wpIn_region_list ?_)
    refine V.in_val (v := .slice (some ⟨g71, 0, none⟩) l.length l.length) rfl rfl rfl (V.xl (V.ev_tmp rfl p2) (V.lo h2 rfl (by kernel_rfl))) fun f3 a1 b1 => ?_
    refine V.in_val rfl rfl rfl (V.xm (V.ev_tmp rfl ((b1 18 (by decide)).trans p1))) fun f4 a2 b2 => ?_
    refine V.in_val (v := .pointer (some ((adr (some ⟨g71, 0, none⟩)).add (j * 1 + 0)))) rfl rfl rfl (V.xi (i := j) (Own.lsn (n := l.length) (c := l.length) h3 ⟨by simp [hil2, hol], Nat.le_refl _, by omega⟩) eo_ (V.ev_tmp rfl ((b2 89 (by decide)).trans a1)) (V.ev_tmp rfl a2) rfl (by kernel_rfl)) fun f5 a3 b3 => ?_
    refine V.in_val (v := .int .i64 o) rfl rfl rfl (V.xl (V.ev_tmp rfl a3) (V.ld_ls1 (i := j) (o := 0) (Own.lsn (n := l.length) (c := l.length) h3 ⟨by simp [hil2, hol], Nat.le_refl _, by omega⟩) eo_ rfl (fun _ => by kernel_rfl))) fun f6 a4 b4 => ?_
    have hw : IntKind.i64.wrap (o + 1) = o + 1 := IntWalk.i64_in _ (by omega)
    refine V.in_val (v := .int .i64 (o + 1)) rfl rfl rfl (V.xb (V.ev_tmp rfl a4) rfl ((by kernel_rfl : _ = Result.ok (.int .i64 (IntKind.i64.wrap (o + 1))) _).trans (by rw [hw]))) fun f7 a5 b5 => ?_
    refine V.in_val (v := .pointer (some ((adr (some ⟨g71, 0, none⟩)).add (j * 1 + 0)))) rfl rfl rfl (V.xi (i := j) (Own.lsn (n := l.length) (c := l.length) h3 ⟨by simp [hil2, hol], Nat.le_refl _, by omega⟩) eo_ (V.ev_tmp rfl ((b5 89 (by decide)).trans ((b4 89 (by decide)).trans ((b3 89 (by decide)).trans ((b2 89 (by decide)).trans a1))))) (V.ev_tmp rfl ((b5 90 (by decide)).trans ((b4 90 (by decide)).trans ((b3 90 (by decide)).trans a2)))) rfl (by kernel_rfl)) fun f8 a6 b6 => ?_
    refine V.in_skip rfl rfl rfl (V.x_store (V.ev_tmp rfl a6) (V.ev_tmp rfl ((b6 93 (by decide)).trans a5)) (V.st_own1 (i := j) (v := .int .i64 (o + 1)) h3 (by simp [hil2]; omega) (fun _ => by kernel_rfl) (by kernel_rfl))) (wpListIn_nil ?_)
    have e9 : incs ys102 os (k + 1) = (incs ys102 os k).set j (o + 1) := by rw [incs_succ hj, eo]; rfl
    have h10 := Own.set (i := j) (x := [.int .i64 (o + 1)]) h3 rfl
    refine ⟨keeps_setRow _ h3.blk _, fun hk => ⟨V.cell_far hk.1 d5, V.cell_far hk.2.1 d3, fun q hq => V.cell_far (hk.2.2 q hq) d2⟩, V.bel_far h1 mg71, V.blk_far h2 (blk_ne r92 r93.blk (by decide)), ?_, fun z hz => ?_⟩
    ·rw [e9, List.map_set]; exact h10
    ·rw [e9] at hz
     rcases List.mem_or_eq_of_mem_set hz with hz | rfl
     ·have := h4 z hz; omega
     ·omega
   case fin =>
    rintro k W2 W' ⟨h1, h2, h3, h4⟩ ⟨rfl, rfl⟩
    exact ⟨h1, h2, h3⟩
   case done =>
    have hbs0 := r89.size
    rintro D137 W139 hD ⟨r89, r92, r93⟩ hK138
    have hbs := Nat.le_trans hbs0 hD
    refine V.bn (V.nx (V.seq ?_))
    refine V.reg 3 [V.E (.slice (some ⟨g71, 0, none⟩) l.length l.length), V.E (.slice (some ⟨g71, 0, none⟩) l.length l.length), V.E (.int .i64 0)] [] (V.i r89 (V.i r92 (V.i r93 hK138))) ?_ ?_
    ·refine V.a3 ?_ ?_ ?_
     ·exact V.z1 rfl fun h => V.xl (V.eo h 11 s11) (V.lo h.g.1.2.1 rfl)
     ·exact V.se rfl 0 95 rfl
     ·exact V.z1 rfl fun h => V.xs rfl
    intro f140 W141 e142
    clear r89 r92 r93 hK138
    obtain ⟨⟨r89, r92, r93, hK138⟩, z_⟩ := e142.g
    have s4 := V.es e142 1 4 rfl
    have s5 := V.es e142 2 5 rfl
    clear e142 z_
    refine V.t_done rfl (V.nx (V.ret ?_))
    refine V.leaveM1 (.inl rfl) hK138 (V.res_tmp2 rfl rfl rfl s4 s5) ?_
    exact ⟨g71, xs59, t60, ps, os, ys102, rfl, n66, n67, hP, by rw [← hpl]; exact n117, by rw [← hpl]; exact n118, by rw [← hlf]; exact r93.sim (Sim.putObj (B := 0) _ hK138 rfl (Nat.zero_le _)), mg71, below_putObj r89 hbs _⟩
  ·have s48_ : f95 48 = .bool true := s48.trans (by rw [hc98])
   refine V.cond_t (V.ev_tmp rfl s48_) ?_
   have hi : i < l.length := by have := of_decide_eq_true hc98; omega
   have hpl : ps.length = l.length := hP.lp.trans hxl
   have hol : os.length = l.length := hP.lo.trans hxl
   obtain ⟨x, mx, ex, ex_⟩ := V.at_map Fr.cells (l := ps) (i := i) (by omega)
   have hxi : xs59[i]? = some x := (hP.rs i (Nat.le_refl _)).symm.trans ex
   obtain ⟨hxs, hf0, hf1⟩ := hxb i x hxi
   obtain ⟨o, mo, eo, eo_⟩ := V.at_map IntC (l := os) (i := i) (by omega)
   have fx := r91 x mx
   refine V.skip ?_
   refine V.nx (V.seq (V.block (V.seq ?_)))
   refine V.reg 5 [V.E (.int .i64 (i : Int)), V.E (.pointer (some ((adr (some ⟨g58, 0, none⟩)).add (i * 4 + 0)))), V.E (x.v), V.Nb W96 39 #[.bool false, .slice none 0 0, .bool false, .slice none 0 0], V.E (.int .i64 (i : Int))] [3] (V.i r89 (V.i r90 (V.i r91 (V.i r92 (V.i r93 fx))))) ?_ ?_
   ·refine V.a5 ?_ ?_ ?_ ?_ ?_
    ·exact V.mo rfl 47 s47
    ·exact V.z1 rfl fun h => V.xi (i := i) (Own.lsn (n := l.length) (c := l.length) h.g.1.2.1 ⟨by simp [hpl], Nat.le_refl _, by omega⟩) ex_ (V.eo h 45 s45) (V.eo h 47 s47)
    ·exact V.z1 rfl fun h => V.xl (V.ed h 1 50 rfl) (V.ld_lsE (i := i) (o := 0) (cs := [.bool (Q.neg x.q), Vs x.A (Q.m x.q) x.c, .bool false, Vs x.A' x.q.den x.c']) (Own.lsn (n := l.length) (c := l.length) h.g.1.2.1 ⟨by simp [hpl], Nat.le_refl _, by omega⟩) ex_ Tryz.underlying39)
    ·exact V.sn rfl fun f W h => V.x_alloc
    ·exact V.se rfl 0 49 rfl
   have o_g58 := r90.blk.lt
   have o_g71 := r93.blk.lt
   have o_g72 := r92.lt
   have o_bel := r89.size
   intro f144 W145 e146
   clear r89 r90 r91 r92 r93 fx
   obtain ⟨⟨r89, r90, r91, r92, r93, fx⟩, z_⟩ := e146.g
   obtain ⟨s9, s10, s11, s45, s46, s47⟩ := V.e6 e146 s9 s10 s11 s45 s46 s47
   have s51 := V.es e146 2 51 rfl
   obtain ⟨g143, s13, bg143, lg143⟩ := V.eq e146 3 13 rfl
   have mg143 := Nat.le_trans o_bel lg143
   have q58_143 : g58 ≠ g143 := by omega
   have q71_143 : g71 ≠ g143 := by omega
   have q72_143 : g72 ≠ g143 := by omega
   have s12 := V.es e146 4 12 rfl
   clear e146 z_
   clear o_bel o_g58 o_g71 o_g72
   refine V.tsr (k := 5) rfl s13 s51 bg143 fun W147 hs b' => ?_
   replace r89 := hs.bel r89 mg143
   replace r90 := hs.own r90 q58_143
   replace r91 := (fun x_0 hx_0 => hs.fr (r91 x_0 hx_0))
   replace r92 := hs.blk r92 q72_143
   replace r93 := hs.own r93 q71_143
   replace fx := hs.fr fx
   replace bg143 := b'
   clear hs b'
   refine V.t_done rfl (V.nx (V.seq ?_))
   refine V.reg 6 [V.E (x.v), (fun v W => ∃ A148 : Option Addr, ∃ c149 : Nat, v = .tuple #[.agg #[.bool (decide (fl x.q < 0)), Vs A148 ((fl x.q).natAbs) c149], .int .i64 0] ∧ R16 W A148 ((Lb.limbs ((fl x.q).natAbs)).length) c149 (Lb.limbs ((fl x.q).natAbs))), (fun v W => ∃ A151 : Option Addr, ∃ c152 : Nat, v = .tuple #[.agg #[.bool (decide (fl x.q < 0)), Vs A151 ((fl x.q).natAbs) c152], .int .i64 0] ∧ R16 W A151 ((Lb.limbs ((fl x.q).natAbs)).length) c152 (Lb.limbs ((fl x.q).natAbs))), (fun v W => ∃ A153 : Option Addr, ∃ c154 : Nat, v = .agg #[.bool (decide (fl x.q < 0)), Vs A153 ((fl x.q).natAbs) c154] ∧ R16 W A153 ((Lb.limbs ((fl x.q).natAbs)).length) c154 (Lb.limbs ((fl x.q).natAbs))), V.E (.int .i64 0), V.Nb W147 35 #[.bool false, .slice none 0 0]] [5] (V.i r89 (V.i r90 (V.i r91 (V.i r92 (V.i r93 (V.i fx bg143)))))) ?_ ?_
   ·refine V.a6 ?_ ?_ ?_ ?_ ?_ ?_
    ·exact V.z1 rfl fun h => V.xl (V.eo h 13 s13) (V.lr h.g.1.2.2.2.2.2.2 Tryz.underlying39)
    ·refine V.s2 rfl fun f W h => ?_
     refine V.call en15 (V.args1 (V.ed h 0 53 rfl)) (Calls.mono (Floor_s h.g.1.2.2.2.2.2.1 (hxs.mono (by decide))) ?_)
     rintro e W' ⟨A148, c149, rfl, k150, hb⟩
     exact ⟨_, rfl, ⟨A148, c149, rfl, k150⟩, hb⟩
    ·refine V.s2 rfl fun f W h => ?_
     obtain ⟨A148, c149, a54, k1_0⟩ := V.dp h 1 54 (by kernel_rfl) rfl
     exact V.v2 (.tuple #[.agg #[.bool (decide (fl x.q < 0)), Vs A148 ((fl x.q).natAbs) c149], .int .i64 0]) (V.xm (V.ev_tmp rfl a54)) ⟨A148, c149, rfl, k1_0⟩
    ·refine V.s2 rfl fun f W h => ?_
     obtain ⟨A151, c152, a52, k2_0⟩ := V.dp h 2 52 (by kernel_rfl) rfl
     exact V.v2 (.agg #[.bool (decide (fl x.q < 0)), Vs A151 ((fl x.q).natAbs) c152]) (V.xe (V.ev_tmp rfl a52)) ⟨A151, c152, rfl, k2_0⟩
    ·refine V.s1 rfl fun f W h => ?_
     obtain ⟨A151, c152, a52, k2_0⟩ := V.dp h 2 52 (by kernel_rfl) rfl
     exact V.xe (V.ev_tmp rfl a52)
    ·exact V.sn rfl fun f W h => V.x_alloc
   have o_g58 := r90.blk.lt
   have o_g71 := r93.blk.lt
   have o_g72 := r92.lt
   have o_g143 := bg143.lt
   have o_bel := r89.size
   intro f156 W157 e158
   clear r89 r90 r91 r92 r93 fx bg143
   obtain ⟨⟨r89, r90, r91, r92, r93, fx, bg143⟩, z_⟩ := e158.g
   obtain ⟨s9, s10, s11, s45, s46, s47, s13, s12⟩ := V.e8 e158 s9 s10 s11 s45 s46 s47 s13 s12
   obtain ⟨A153, c154, s55, r159⟩ := V.eq e158 3 55 rfl
   have s56 := V.es e158 4 56 rfl
   obtain ⟨g155, s14, bg155, lg155⟩ := V.eq e158 5 14 rfl
   have mg155 := Nat.le_trans o_bel lg155
   have q58_155 : g58 ≠ g155 := by omega
   have q71_155 : g71 ≠ g155 := by omega
   have q72_155 : g72 ≠ g155 := by omega
   have q143_155 : g143 ≠ g155 := by omega
   clear e158 z_
   clear o_bel o_g58 o_g71 o_g72 o_g143
   refine V.tsr (k := 6) rfl s14 s55 bg155 fun W160 hs b' => ?_
   replace r89 := hs.bel r89 mg155
   replace r90 := hs.own r90 q58_155
   replace r91 := (fun x_0 hx_0 => hs.fr (r91 x_0 hx_0))
   replace r92 := hs.blk r92 q72_155
   replace r93 := hs.own r93 q71_155
   replace fx := hs.fr fx
   replace bg143 := hs.blk bg143 q143_155
   replace r159 := hs.r16 r159
   replace bg155 := b'
   clear hs b'
   refine V.t_val (k := 7) (v := .int .i64 0) (t := 15) rfl rfl rfl (by kernel_rfl) trivial (V.xs (V.ev_tmp rfl s56)) ?_
   intro f161 e162 u163
   replace s9 : f161 9 = .int .i64 lf := (u163 9 (by decide)).trans s9
   replace s10 : f161 10 = .slice (some ⟨g58, 0, none⟩) l.length l.length := (u163 10 (by decide)).trans s10
   replace s11 : f161 11 = Vp g72 0 := (u163 11 (by decide)).trans s11
   replace s45 : f161 45 = .slice (some ⟨g58, 0, none⟩) l.length l.length := (u163 45 (by decide)).trans s45
   replace s46 : f161 46 = .int .i64 (l.length : Int) := (u163 46 (by decide)).trans s46
   replace s47 : f161 47 = .int .i64 (i : Int) := (u163 47 (by decide)).trans s47
   replace s13 : f161 13 = Vp g143 0 := (u163 13 (by decide)).trans s13
   replace s12 : f161 12 = .int .i64 (i : Int) := (u163 12 (by decide)).trans s12
   replace s55 : f161 55 = .agg #[.bool (decide (fl x.q < 0)), Vs A153 ((fl x.q).natAbs) c154] := (u163 55 (by decide)).trans s55
   replace s56 : f161 56 = .int .i64 0 := (u163 56 (by decide)).trans s56
   replace s14 : f161 14 = Vp g155 0 := (u163 14 (by decide)).trans s14
   have s15 := e162
   clear u163
   refine V.t_done rfl (V.nx (V.seq ?_))
   refine V.regF 8 [V.E (.agg #[.bool (decide (fl x.q < 0)), Vs A153 ((fl x.q).natAbs) c154]), (fun v W => ∃ z164 : Fr, v = z164.v ∧ Fr.ok W z164 ∧ (z164.q = (1 : Rat))), (fun v W => ∃ z167 : Fr, v = .agg #[.bool (Q.neg z167.q), Vs z167.A (Q.m z167.q) z167.c] ∧ Fr.ok W z167 ∧ (z167.q = (1 : Rat))), (fun v W => ∃ z168 : Fr, v = .tuple #[z168.v, .int .i64 0] ∧ Fr.ok W z168 ∧ (z168.q = ((fl x.q : Int) : Rat))), (fun v W => ∃ z171 : Fr, v = .tuple #[z171.v, .int .i64 0] ∧ Fr.ok W z171 ∧ (z171.q = ((fl x.q : Int) : Rat))), (fun v W => ∃ z172 : Fr, v = z172.v ∧ Fr.ok W z172 ∧ (z172.q = ((fl x.q : Int) : Rat))), V.E (.int .i64 0), V.Nb W160 39 #[.bool false, .slice none 0 0, .bool false, .slice none 0 0]] [7] (V.i r89 (V.i r90 (V.i r91 (V.i r92 (V.i r93 (V.i fx (V.i bg143 (V.i r159 bg155)))))))) [6] (fun _ => True) (fun _ _ => trivial) ?_ ?_ ?_
   ·refine V.a8 ?_ ?_ ?_ ?_ ?_ ?_ ?_ ?_
    ·exact V.z1 rfl fun h => V.xl (V.eo h 14 s14) (V.lr h.g.1.2.2.2.2.2.2.2.2 Tryz.underlying35)
    ·refine V.s2 rfl fun f W h => ?_
     refine V.call en20 (V.args1 rfl) (Calls.mono (FromInt_s (x := 1) (by decide) (by decide)) ?_)
     rintro e W' ⟨z164, rfl, k165, e166, hb⟩
     exact ⟨_, rfl, ⟨z164, rfl, k165, e166⟩, hb⟩
    ·refine V.s2 rfl fun f W h => ?_
     obtain ⟨z164, a59, k1_0, p1_0⟩ := V.dp h 1 59 (by kernel_rfl) rfl
     exact V.v2 (.agg #[.bool (Q.neg z164.q), Vs z164.A (Q.m z164.q) z164.c]) (V.xf (V.ev_tmp rfl a59)) ⟨z164, rfl, k1_0, p1_0⟩
    ·refine V.s2 rfl fun f W h => ?_
     obtain ⟨z167, a60, k2_0, p2_0⟩ := V.dp h 2 60 (by kernel_rfl) rfl
     refine V.call en16 (V.args2 (V.ed h 0 58 rfl) (V.ev_tmp rfl a60)) (Calls.mono (Make_z h.g.1.2.2.2.2.2.2.2.1 k2_0.n (by rw [p2_0]; rfl) ((Q.Sz.cap hf0 hf1).mono (by decide))) ?_)
     rintro e W' ⟨z168, rfl, k169, e170, hb⟩
     exact ⟨_, rfl, ⟨z168, rfl, k169, e170⟩, hb⟩
    ·refine V.s2 rfl fun f W h => ?_
     obtain ⟨z168, a61, k3_0, p3_0⟩ := V.dp h 3 61 (by kernel_rfl) rfl
     exact V.v2 (.tuple #[z168.v, .int .i64 0]) (V.xm (V.ev_tmp rfl a61)) ⟨z168, rfl, k3_0, p3_0⟩
    ·refine V.s2 rfl fun f W h => ?_
     obtain ⟨z171, a57, k4_0, p4_0⟩ := V.dp h 4 57 (by kernel_rfl) rfl
     exact V.v2 (z171.v) (V.xe (V.ev_tmp rfl a57)) ⟨z171, rfl, k4_0, p4_0⟩
    ·refine V.s1 rfl fun f W h => ?_
     obtain ⟨z171, a57, k4_0, p4_0⟩ := V.dp h 4 57 (by kernel_rfl) rfl
     exact V.xe (V.ev_tmp rfl a57)
    ·exact V.sn rfl fun f W h => V.x_alloc
   ·refine V.fl1 (V.fl_step rfl rfl fun f W h => ?_)
    ·obtain ⟨z171, a57, k4_0, p4_0⟩ := V.dp h 4 57 (by kernel_rfl) rfl
     exact ⟨.int .i64 0, fun _ _ => V.xe (V.ev_tmp rfl a57), rfl⟩
   have o_g58 := r90.blk.lt
   have o_g71 := r93.blk.lt
   have o_g72 := r92.lt
   have o_g143 := bg143.lt
   have o_g155 := bg155.lt
   have o_bel := r89.size
   intro f174 W175 e176
   clear r89 r90 r91 r92 r93 fx bg143 r159 bg155
   obtain ⟨⟨r89, r90, r91, r92, r93, fx, bg143, r159, bg155⟩, z_⟩ := e176.g
   obtain ⟨s9, s10, s11, s45, s46, s47, s13, s12⟩ := V.e8 e176 s9 s10 s11 s45 s46 s47 s13 s12
   obtain ⟨z172, s62, r177, n178⟩ := V.eq e176 5 62 rfl
   have s63 := V.es e176 6 63 rfl
   obtain ⟨g173, s16, bg173, lg173⟩ := V.eq e176 7 16 rfl
   have mg173 := Nat.le_trans o_bel lg173
   have q58_173 : g58 ≠ g173 := by omega
   have q71_173 : g71 ≠ g173 := by omega
   have q72_173 : g72 ≠ g173 := by omega
   have q143_173 : g143 ≠ g173 := by omega
   have q155_173 : g155 ≠ g173 := by omega
   clear e176 z_
   clear o_bel o_g58 o_g71 o_g72 o_g143 o_g155
   refine V.tsr (k := 8) rfl s16 s62 bg173 fun W179 hs b' => ?_
   replace r89 := hs.bel r89 mg173
   replace r90 := hs.own r90 q58_173
   replace r91 := (fun x_0 hx_0 => hs.fr (r91 x_0 hx_0))
   replace r92 := hs.blk r92 q72_173
   replace r93 := hs.own r93 q71_173
   replace fx := hs.fr fx
   replace bg143 := hs.blk bg143 q143_173
   replace r159 := hs.r16 r159
   replace bg155 := hs.blk bg155 q155_173
   replace r177 := hs.fr r177
   replace bg173 := b'
   clear hs b'
   refine V.t_val (k := 9) (v := .int .i64 0) (t := 17) rfl rfl rfl (by kernel_rfl) trivial (V.xs (V.ev_tmp rfl s63)) ?_
   intro f180 e181 u182
   replace s9 : f180 9 = .int .i64 lf := (u182 9 (by decide)).trans s9
   replace s10 : f180 10 = .slice (some ⟨g58, 0, none⟩) l.length l.length := (u182 10 (by decide)).trans s10
   replace s11 : f180 11 = Vp g72 0 := (u182 11 (by decide)).trans s11
   replace s45 : f180 45 = .slice (some ⟨g58, 0, none⟩) l.length l.length := (u182 45 (by decide)).trans s45
   replace s46 : f180 46 = .int .i64 (l.length : Int) := (u182 46 (by decide)).trans s46
   replace s47 : f180 47 = .int .i64 (i : Int) := (u182 47 (by decide)).trans s47
   replace s13 : f180 13 = Vp g143 0 := (u182 13 (by decide)).trans s13
   replace s12 : f180 12 = .int .i64 (i : Int) := (u182 12 (by decide)).trans s12
   replace s62 : f180 62 = z172.v := (u182 62 (by decide)).trans s62
   replace s63 : f180 63 = .int .i64 0 := (u182 63 (by decide)).trans s63
   replace s16 : f180 16 = Vp g173 0 := (u182 16 (by decide)).trans s16
   have s17 := e181
   clear u182
   refine V.t_done rfl (V.nx (V.seq ?_))
   clear r159 bg155
   refine V.regF 8 [V.E (.slice (some ⟨g71, 0, none⟩) l.length l.length), V.E (.int .i64 (i : Int)), V.E (z172.v), V.E (.tuple #[.int .i64 (fl x.q), .int .i64 0]), V.E (.tuple #[.int .i64 (fl x.q), .int .i64 0]), V.E (.int .i64 (fl x.q)), V.E (.int .i64 0), V.E (.pointer (some ((adr (some ⟨g71, 0, none⟩)).add (i * 1 + 0))))] [] (V.i r89 (V.i r90 (V.i r91 (V.i r92 (V.i r93 (V.i fx (V.i bg143 (V.i r177 bg173)))))))) [6] (fun _ => True) (fun _ _ => trivial) ?_ ?_ ?_
   ·refine V.a8 ?_ ?_ ?_ ?_ ?_ ?_ ?_ ?_
    ·exact V.z1 rfl fun h => V.xl (V.eo h 11 s11) (V.lo h.g.1.2.2.2.1 rfl)
    ·exact V.mo rfl 12 s12
    ·exact V.z1 rfl fun h => V.xl (V.eo h 16 s16) (V.lr h.g.1.2.2.2.2.2.2.2.2 Tryz.underlying39)
    ·refine V.s2 rfl fun f W h => ?_
     refine V.call en43 (V.args1 (V.ed h 2 67 rfl)) (Calls.mono (Int_s (z := fl x.q) h.g.1.2.2.2.2.2.2.2.1 n178 hf0 hf1) ?_)
     rintro e W' ⟨rfl, hb⟩
     exact ⟨_, rfl, rfl, hb⟩
    ·exact V.me rfl 3 68 rfl
    ·exact V.z1 rfl fun h => V.xe (V.ed h 4 64 rfl)
    ·exact V.z1 rfl fun h => V.xe (V.ed h 4 64 rfl)
    ·exact V.z1 rfl fun h => V.xi (i := i) (Own.lsn (n := l.length) (c := l.length) h.g.1.2.2.2.2.1 ⟨by simp [hol], Nat.le_refl _, by omega⟩) eo_ (V.ed h 0 65 rfl) (V.ed h 1 66 rfl)
   ·refine V.fl1 (V.fl_step rfl rfl fun f W h => ?_)
    ·skip
     exact ⟨.int .i64 0, fun _ _ => V.xe (V.ed h 4 64 rfl), rfl⟩
   intro f183 W184 e185
   clear r89 r90 r91 r92 r93 fx bg143 r177 bg173
   obtain ⟨⟨r89, r90, r91, r92, r93, fx, bg143, r177, bg173⟩, z_⟩ := e185.g
   obtain ⟨s9, s10, s11, s45, s46, s47, s13, s12, s16⟩ := V.e9 e185 s9 s10 s11 s45 s46 s47 s13 s12 s16
   have s69 := V.es e185 5 69 rfl
   have s71 := V.es e185 7 71 rfl
   clear e185 z_
   refine V.t_skip (k := 8) rfl rfl rfl (by kernel_rfl) trivial (V.x_store (V.ev_tmp rfl s71) (V.ev_tmp rfl s69) (V.st_own1 (i := i) (v := .int .i64 (fl x.q)) r93 (by simp; omega) (fun _ => by kernel_rfl) (by kernel_rfl))) ?_
   replace r89 := V.bel_far (cs := (((os.map IntC).set i [.int .i64 (fl x.q)]).flatten ++ []).toArray) r89 mg71
   replace r90 := Own.far (cs := (((os.map IntC).set i [.int .i64 (fl x.q)]).flatten ++ []).toArray) r90 q80
   replace r91 := (fun x_0 hx_0 => Fr.ok.far (cs' := (((os.map IntC).set i [.int .i64 (fl x.q)]).flatten ++ []).toArray) (r91 x_0 hx_0) r93.blk (nl_intc _ _ rfl))
   replace r92 := V.blk_far (cs := (((os.map IntC).set i [.int .i64 (fl x.q)]).flatten ++ []).toArray) r92 (blk_ne r92 r93.blk (by decide))
   replace fx := Fr.ok.far (cs' := (((os.map IntC).set i [.int .i64 (fl x.q)]).flatten ++ []).toArray) fx r93.blk (nl_intc _ _ rfl)
   replace bg143 := V.blk_far (cs := (((os.map IntC).set i [.int .i64 (fl x.q)]).flatten ++ []).toArray) bg143 (Ne.symm q71_143)
   replace r177 := Fr.ok.far (cs' := (((os.map IntC).set i [.int .i64 (fl x.q)]).flatten ++ []).toArray) r177 r93.blk (nl_intc _ _ rfl)
   replace bg173 := V.blk_far (cs := (((os.map IntC).set i [.int .i64 (fl x.q)]).flatten ++ []).toArray) bg173 (Ne.symm q71_173)
   replace r93 := Own.set (i := i) (x := [.int .i64 (fl x.q)]) r93 rfl
   generalize W184.setRow g71 (((os.map IntC).set i [.int .i64 (fl x.q)]).flatten ++ []).toArray = W186 at *
   have r93_ : Own W186 g71 3 1 ((os.set i (fl x.q)).map IntC) [] := by rw [List.map_set]; exact r93
   clear r93
   have r93 := r93_
   clear r93_
   have eo2 : ((os.set i (fl x.q)).map IntC)[i]? = some [.int .i64 (fl x.q)] := by rw [List.getElem?_map, List.getElem?_set_self (by omega)]; rfl
   refine V.t_done rfl (V.nx (V.seq ?_))
   refine V.reg 6 [V.E (.slice (some ⟨g58, 0, none⟩) l.length l.length), V.E (.int .i64 (i : Int)), V.E (x.v), V.E (z172.v), (fun v W => ∃ z187 : Fr, v = z187.v ∧ Fr.ok W z187 ∧ (z187.q = (x.q - ((fl x.q : Int) : Rat)))), V.E (.pointer (some ((adr (some ⟨g58, 0, none⟩)).add (i * 4 + 0))))] [] (V.i r89 (V.i r90 (V.i r91 (V.i r92 (V.i r93 (V.i fx (V.i bg143 (V.i r177 bg173)))))))) ?_ ?_
   ·refine V.a6 ?_ ?_ ?_ ?_ ?_ ?_
    ·exact V.mo rfl 10 s10
    ·exact V.mo rfl 12 s12
    ·exact V.z1 rfl fun h => V.xl (V.eo h 13 s13) (V.lr h.g.1.2.2.2.2.2.2.1 Tryz.underlying39)
    ·exact V.z1 rfl fun h => V.xl (V.eo h 16 s16) (V.lr h.g.1.2.2.2.2.2.2.2.2 Tryz.underlying39)
    ·refine V.s2 rfl fun f W h => ?_
     refine V.call en44 (V.args2 (V.ed h 2 74 rfl) (V.ed h 3 75 rfl)) (Calls.mono (minus_s h.g.1.2.2.2.2.2.1 h.g.1.2.2.2.2.2.2.2.1 (hxs.mono (by decide)) (by rw [n178]; exact ((Q.Sz.cap hf0 hf1).mono (by decide))) (by rw [n178]; exact ((hxs.sub (Q.Sz.cap hf0 hf1)).mono (by decide)))) ?_)
     rintro e W' ⟨z187, rfl, k188, e189, hb⟩
     exact ⟨_, rfl, ⟨z187, rfl, k188, e189.trans (by rw [n178])⟩, hb⟩
    ·exact V.z1 rfl fun h => V.xi (i := i) (Own.lsn (n := l.length) (c := l.length) h.g.1.2.1 ⟨by simp [hpl], Nat.le_refl _, by omega⟩) ex_ (V.ed h 0 72 rfl) (V.ed h 1 73 rfl)
   intro f190 W191 e192
   clear r89 r90 r91 r92 r93 fx bg143 r177 bg173
   obtain ⟨⟨r89, r90, r91, r92, r93, fx, bg143, r177, bg173⟩, z_⟩ := e192.g
   obtain ⟨s9, s10, s11, s45, s46, s47, s12⟩ := V.e7 e192 s9 s10 s11 s45 s46 s47 s12
   obtain ⟨z187, s76, r193, n194⟩ := V.eq e192 4 76 rfl
   have s77 := V.es e192 5 77 rfl
   clear e192 z_
   refine V.t_skip (k := 6) rfl rfl rfl (by kernel_rfl) trivial (V.x_store (V.ev_tmp rfl s77) (V.ev_tmp rfl s76) (V.st_own (i := i) (x := [.bool (Q.neg z187.q), Vs z187.A (Q.m z187.q) z187.c, .bool false, Vs z187.A' z187.q.den z187.c']) r90 (by simp; omega) rfl (by kernel_rfl) (by kernel_rfl))) ?_
   replace r89 := V.bel_far (cs := (((ps.map Fr.cells).set i [.bool (Q.neg z187.q), Vs z187.A (Q.m z187.q) z187.c, .bool false, Vs z187.A' z187.q.den z187.c']).flatten ++ []).toArray) r89 mg58
   replace r91 := (fun x_0 hx_0 => Fr.ok.far (cs' := (((ps.map Fr.cells).set i [.bool (Q.neg z187.q), Vs z187.A (Q.m z187.q) z187.c, .bool false, Vs z187.A' z187.q.den z187.c']).flatten ++ []).toArray) (r91 x_0 hx_0) r90.blk (nl_frs _ _ rfl))
   replace r92 := V.blk_far (cs := (((ps.map Fr.cells).set i [.bool (Q.neg z187.q), Vs z187.A (Q.m z187.q) z187.c, .bool false, Vs z187.A' z187.q.den z187.c']).flatten ++ []).toArray) r92 (Ne.symm q58_72)
   replace r93 := Own.far (cs := (((ps.map Fr.cells).set i [.bool (Q.neg z187.q), Vs z187.A (Q.m z187.q) z187.c, .bool false, Vs z187.A' z187.q.den z187.c']).flatten ++ []).toArray) r93 (Ne.symm q80)
   replace fx := Fr.ok.far (cs' := (((ps.map Fr.cells).set i [.bool (Q.neg z187.q), Vs z187.A (Q.m z187.q) z187.c, .bool false, Vs z187.A' z187.q.den z187.c']).flatten ++ []).toArray) fx r90.blk (nl_frs _ _ rfl)
   replace bg143 := V.blk_far (cs := (((ps.map Fr.cells).set i [.bool (Q.neg z187.q), Vs z187.A (Q.m z187.q) z187.c, .bool false, Vs z187.A' z187.q.den z187.c']).flatten ++ []).toArray) bg143 (Ne.symm q58_143)
   replace r177 := Fr.ok.far (cs' := (((ps.map Fr.cells).set i [.bool (Q.neg z187.q), Vs z187.A (Q.m z187.q) z187.c, .bool false, Vs z187.A' z187.q.den z187.c']).flatten ++ []).toArray) r177 r90.blk (nl_frs _ _ rfl)
   replace bg173 := V.blk_far (cs := (((ps.map Fr.cells).set i [.bool (Q.neg z187.q), Vs z187.A (Q.m z187.q) z187.c, .bool false, Vs z187.A' z187.q.den z187.c']).flatten ++ []).toArray) bg173 (Ne.symm q58_173)
   replace r193 := Fr.ok.far (cs' := (((ps.map Fr.cells).set i [.bool (Q.neg z187.q), Vs z187.A (Q.m z187.q) z187.c, .bool false, Vs z187.A' z187.q.den z187.c']).flatten ++ []).toArray) r193 r90.blk (nl_frs _ _ rfl)
   replace r90 := Own.set (i := i) (x := [.bool (Q.neg z187.q), Vs z187.A (Q.m z187.q) z187.c, .bool false, Vs z187.A' z187.q.den z187.c']) r90 rfl
   generalize W191.setRow g58 (((ps.map Fr.cells).set i [.bool (Q.neg z187.q), Vs z187.A (Q.m z187.q) z187.c, .bool false, Vs z187.A' z187.q.den z187.c']).flatten ++ []).toArray = W195 at *
   have r90_ : Own W195 g58 39 4 ((ps.set i z187).map Fr.cells) [] := by rw [List.map_set]; exact r90
   clear r90
   have r90 := r90_
   clear r90_
   have r196 : ∀ x ∈ (ps.set i z187), Fr.ok W195 x := all_set r91 r193
   refine V.t_done rfl (V.nx ?_)
   clear bg143 r177 bg173
   refine V.reg 7 [V.E (.int .i64 lf), V.E (.slice (some ⟨g71, 0, none⟩) l.length l.length), V.E (.int .i64 (i : Int)), V.E (.pointer (some ((adr (some ⟨g71, 0, none⟩)).add (i * 1 + 0)))), V.E (.int .i64 (fl x.q)), V.E (.int .i64 (lf - (fl x.q))), V.E (.int .i64 (lf - (fl x.q)))] [] (V.i r89 (V.i r90 (V.i r92 (V.i r93 (V.i fx (V.i r193 r196)))))) ?_ ?_
   ·refine V.a7 ?_ ?_ ?_ ?_ ?_ ?_ ?_
    ·exact V.mo rfl 9 s9
    ·exact V.z1 rfl fun h => V.xl (V.eo h 11 s11) (V.lo h.g.1.2.2.1 rfl)
    ·exact V.mo rfl 12 s12
    ·exact V.z1 rfl fun h => V.xi (i := i) (Own.lsn (n := l.length) (c := l.length) h.g.1.2.2.2.1 ⟨by simp [hol], Nat.le_refl _, by omega⟩) eo2 (V.ed h 1 79 rfl) (V.ed h 2 80 rfl)
    ·exact V.z1 rfl fun h => V.xl (V.ed h 3 81 rfl) (V.ld_ls1 (i := i) (o := 0) (Own.lsn (n := l.length) (c := l.length) h.g.1.2.2.2.1 ⟨by simp [hol], Nat.le_refl _, by omega⟩) eo2 rfl)
    ·refine V.s1 rfl fun f W h => ?_
     have hw197 : IntKind.i64.wrap (lf - (fl x.q)) = lf - (fl x.q) := by exact IntWalk.i64_in _ (by omega)
     exact V.xb (V.ed h 0 78 rfl) (V.ed h 4 82 rfl) ((by kernel_rfl : _ = Result.ok (.int .i64 (IntKind.i64.wrap (lf - (fl x.q)))) _).trans (by rw [hw197]))
    ·exact V.se rfl 5 83 rfl
   intro f198 W199 e200
   clear r89 r90 r92 r93 fx r193 r196
   obtain ⟨⟨r89, r90, r92, r93, fx, r193, r196⟩, z_⟩ := e200.g
   obtain ⟨s10, s11, s45, s46, s47⟩ := V.e5 e200 s10 s11 s45 s46 s47
   have s9 := V.es e200 6 9 rfl
   clear e200 z_
   refine V.t_done rfl (V.bn (V.nx ?_))
   refine V.reg 2 [V.E (.int .i64 ((i : Int) + 1)), V.E (.int .i64 ((i : Int) + 1))] [] (V.i r89 (V.i r90 (V.i r92 (V.i r93 (V.i fx (V.i r193 r196)))))) ?_ ?_
   ·refine V.a2 ?_ ?_
    ·refine V.s1 rfl fun f W h => ?_
     have hw201 : IntKind.i64.wrap ((i : Int) + 1) = (i : Int) + 1 := by exact IntWalk.i64_in _ (by omega)
     exact V.xb (V.eo h 47 s47) rfl ((by kernel_rfl : _ = Result.ok (.int .i64 (IntKind.i64.wrap ((i : Int) + 1))) _).trans (by rw [hw201]))
    ·exact V.me rfl 0 84 rfl
   intro f202 W203 e204
   clear r89 r90 r92 r93 fx r193 r196
   obtain ⟨⟨r89, r90, r92, r93, fx, r193, r196⟩, z_⟩ := e204.g
   obtain ⟨s10, s11, s45, s46, s9⟩ := V.e5 e204 s10 s11 s45 s46 s9
   have s47 := V.es e204 1 47 rfl
   clear e204 z_
   refine V.t_done rfl ?_
   refine V.handed (l.length - (i + 1)) (by have := hk94; omega) ⟨(i + 1), (ps.set i z187), (os.set i (fl x.q)), (lf - fl x.q), ⟨rfl, by omega, hP.step hxi n194, by rw [isum_take hxi, hlf]; omega, by omega, by omega⟩, ⟨(s9.trans (by simp)), s10, s11, s45, s46, (s47.trans (by simp))⟩, ⟨r89, r90, r196, r92, r93⟩⟩
 ·have s27_ : f42 27 = .bool true := s27.trans (by rw [hc45])
  refine V.cond_t (V.ev_tmp rfl s27_) ?_
  have hi : i < ys12.length := by have := of_decide_eq_true hc45; omega
  obtain ⟨y, my, ey, ey_⟩ := V.at_map It.cells (l := ys12) (i := i) hi
  have gb0 := (gy y my).b0
  have gb1 := (gy y my).b1
  refine V.skip ?_
  refine V.nx (V.seq (V.block (V.seq ?_)))
  refine V.reg 3 [V.E (.pointer (some ((adr A10).add (i * 7 + 0)))), V.E (y.v), V.Nb W43 72 #[.int .i64 0, .bool false, .slice none 0 0, .bool false, .slice none 0 0, .int .i64 0, .int .i64 0]] [2] (V.i r37 (V.i r38 (V.i r39 r40))) ?_ ?_
  ·refine V.a3 ?_ ?_ ?_
   ·exact V.z1 rfl fun h => V.xi (i := i) h.g.1.2.2.2 ey_ (V.eo h 24 s24) (V.eo h 26 s26)
   ·exact V.z1 rfl fun h => V.xl (V.ed h 0 28 rfl) (V.ld_lsE (i := i) (o := 0) (cs := [.int .i64 y.c.id, .bool (Q.neg y.c.w.q), Vs y.c.w.A (Q.m y.c.w.q) y.c.w.c, .bool false, Vs y.c.w.A' y.c.w.q.den y.c.w.c', .int .i64 y.c.cap, .int .i64 y.at_]) h.g.1.2.2.2 ey_ Tryz.underlying72)
   ·exact V.sn rfl fun f W h => V.x_alloc
  have o_bel := r37.size
  have ob_r38 := r38.blt
  have ob_r40 := r40.blt
  intro f206 W207 e208
  clear r37 r38 r39 r40
  obtain ⟨⟨r37, r38, r39, r40⟩, z_⟩ := e208.g
  obtain ⟨s0, s1, s6, s24, s25, s26⟩ := V.e6 e208 s0 s1 s6 s24 s25 s26
  have s29 := V.es e208 1 29 rfl
  obtain ⟨g205, s8, bg205, lg205⟩ := V.eq e208 2 8 rfl
  have mg205 := Nat.le_trans o_bel lg205
  have q_r38_g205 : 0 < l.length → (adr A).block ≠ g205 := fun h => Nat.ne_of_lt (Nat.lt_of_lt_of_le (ob_r38 h) lg205)
  have q_r40_g205 : 0 < ys12.length → (adr A10).block ≠ g205 := fun h => Nat.ne_of_lt (Nat.lt_of_lt_of_le (ob_r40 h) lg205)
  clear e208 z_
  clear o_bel ob_r38 ob_r40
  refine V.tsr (k := 3) rfl s8 s29 bg205 fun W209 hs b' => ?_
  replace r37 := hs.bel r37 mg205
  replace r38 := hs.ls r38 q_r38_g205
  replace r39 := (fun x_0 hx_0 => hs.fr (r39 x_0 hx_0))
  replace r40 := hs.ls r40 q_r40_g205
  replace bg205 := b'
  clear hs b'
  refine V.t_done rfl (V.nx ?_)
  refine V.reg 6 [V.E (.int .i64 tt), V.E (Vp g205 0), V.E (Vp g205 5), V.E (.int .i64 y.c.cap), V.E (.int .i64 (tt + y.c.cap)), V.E (.int .i64 (tt + y.c.cap))] [] (V.i r37 (V.i r38 (V.i r39 (V.i r40 bg205)))) ?_ ?_
  ·refine V.a6 ?_ ?_ ?_ ?_ ?_ ?_
   ·exact V.mo rfl 6 s6
   ·exact V.z1 rfl fun h => V.xa (V.eo h 8 s8)
   ·exact V.z1 rfl fun h => V.xa (V.ed h 1 31 rfl)
   ·exact V.z1 rfl fun h => V.xl (V.ed h 2 32 rfl) (V.lo h.g.1.2.2.2.2 rfl)
   ·refine V.s1 rfl fun f W h => ?_
    have hw210 : IntKind.i64.wrap (tt + y.c.cap) = tt + y.c.cap := by exact IntWalk.i64_in _ (by omega)
    exact V.xb (V.ed h 0 30 rfl) (V.ed h 3 33 rfl) ((by kernel_rfl : _ = Result.ok (.int .i64 (IntKind.i64.wrap (tt + y.c.cap))) _).trans (by rw [hw210]))
   ·exact V.se rfl 4 34 rfl
  intro f211 W212 e213
  clear r37 r38 r39 r40 bg205
  obtain ⟨⟨r37, r38, r39, r40, bg205⟩, z_⟩ := e213.g
  obtain ⟨s0, s1, s24, s25, s26⟩ := V.e5 e213 s0 s1 s24 s25 s26
  have s6 := V.es e213 5 6 rfl
  clear e213 z_
  refine V.t_done rfl (V.bn (V.nx ?_))
  clear bg205
  refine V.reg 2 [V.E (.int .i64 ((i : Int) + 1)), V.E (.int .i64 ((i : Int) + 1))] [] (V.i r37 (V.i r38 (V.i r39 r40))) ?_ ?_
  ·refine V.a2 ?_ ?_
   ·refine V.s1 rfl fun f W h => ?_
    have hw214 : IntKind.i64.wrap ((i : Int) + 1) = (i : Int) + 1 := by exact IntWalk.i64_in _ (by omega)
    exact V.xb (V.eo h 26 s26) rfl ((by kernel_rfl : _ = Result.ok (.int .i64 (IntKind.i64.wrap ((i : Int) + 1))) _).trans (by rw [hw214]))
   ·exact V.me rfl 0 35 rfl
  intro f215 W216 e217
  clear r37 r38 r39 r40
  obtain ⟨⟨r37, r38, r39, r40⟩, z_⟩ := e217.g
  obtain ⟨s0, s1, s24, s25, s6⟩ := V.e5 e217 s0 s1 s24 s25 s6
  have s26 := V.es e217 1 26 rfl
  clear e217 z_
  refine V.t_done rfl ?_
  refine V.handed (ys12.length - (i + 1)) (by have := hk41; omega) ⟨(i + 1), (tt + y.c.cap), ⟨rfl, by omega, by rw [csum_take ey, htt], by omega, by omega⟩, ⟨s0, s1, s6, s24, s25, (s26.trans (by simp))⟩, ⟨r37, r38, r39, r40⟩⟩
end Go.Proofs.YtjbcalbbhomkjaaGreat
namespace Go.Proofs.YtjbcalbbhomkjaaGreat
def rsum (r : Nat → Rat) : List Nat → Rat
 | [] => 0
 | x :: l => r x + rsum r l
theorem rsum_append {r : Nat → Rat} (a b : List Nat) : rsum r (a ++ b) = rsum r a + rsum r b := by
 induction a with
 | nil => simp [rsum, Rat.zero_add]
 | cons x l ih => simp only [List.cons_append, rsum, ih]; grind
theorem rsum_perm {r : Nat → Rat} {a b : List Nat} (h : a.Perm b) : rsum r a = rsum r b := by
 induction h with
 | nil => rfl
 | cons x _ ih => simp only [rsum, ih]
 | swap x y l => simp only [rsum]; grind
 | trans _ _ h1 h2 => exact h1.trans h2
theorem rsum_le {r : Nat → Rat} {l : List Nat} (h : ∀ x ∈ l, r x ≤ 1) : rsum r l ≤ ((l.length : Nat) : Rat) := by
 induction l with
 | nil => exact Rat.le_refl
 | cons x l ih =>
  have h1 := ih fun y hy => h y (by simp [hy])
  have h2 := h x (by simp)
  simp only [rsum, List.length_cons]
  have : (((l.length + 1 : Nat)) : Rat) = ((l.length : Nat) : Rat) + 1 := by
   have := Rat.intCast_add (l.length : Int) 1
   simp
  rw [this]; grind
theorem rsum_zero {r : Nat → Rat} {l : List Nat} (h : ∀ x ∈ l, r x = 0) : rsum r l = 0 := by
 induction l with
 | nil => rfl
 | cons x l ih =>
  simp only [rsum, h x (by simp), ih fun y hy => h y (by simp [hy])]; grind
def Ahead (r : Nat → Rat) (a b : Nat) : Prop := r b < r a ∨ (r b = r a ∧ a < b)
structure Rnk (r : Nat → Rat) (n : Nat) (ys : List Nat) : Prop where
 perm : ys.Perm (List.range n)
 srt : ys.Pairwise fun x y => ¬ Ahead r y x
theorem Rnk.nodup {r : Nat → Rat} {n : Nat} {ys : List Nat} (h : Rnk r n ys) : ys.Nodup := h.perm.nodup_iff.2 List.nodup_range
theorem Rnk.mem {r : Nat → Rat} {n : Nat} {ys : List Nat} (h : Rnk r n ys) {j : Nat} : j ∈ ys ↔ j < n := by rw [h.perm.mem_iff, List.mem_range]
theorem Rnk.len {r : Nat → Rat} {n : Nat} {ys : List Nat} (h : Rnk r n ys) : ys.length = n := by rw [h.perm.length_eq, List.length_range]
theorem Rnk.le {r : Nat → Rat} {n : Nat} {ys : List Nat} (h : Rnk r n ys) {p q a b : Nat} (hpq : p < q) (ha : ys[p]? = some a) (hb : ys[q]? = some b) : Ahead r a b := by
 obtain ⟨hp, e1⟩ := List.getElem?_eq_some_iff.1 ha
 obtain ⟨hq, e2⟩ := List.getElem?_eq_some_iff.1 hb
 have h1 := List.pairwise_iff_getElem.1 h.srt p q hp hq hpq
 have hn := List.pairwise_iff_getElem.1 h.nodup p q hp hq hpq
 rw [e1, e2] at h1 hn
 unfold Ahead at *
 rcases Nat.lt_or_gt_of_ne hn with h5 | h5
 ·rcases (Rat.le_total : r a ≤ r b ∨ r b ≤ r a) with h6 | h6 <;> grind
 ·rcases (Rat.le_total : r a ≤ r b ∨ r b ≤ r a) with h6 | h6 <;> grind
theorem Rnk.pos {r : Nat → Rat} {n : Nat} {ys : List Nat} (h : Rnk r n ys) {m i : Nat} (h0 : ∀ j, j < n → 0 ≤ r j ∧ r j < 1) (hm : rsum r (List.range n) = ((m : Nat) : Rat)) (hi : i ∈ ys.take m) : 0 < r i := by
 obtain ⟨p, hp⟩ := List.getElem?_of_mem hi
 have hpl := (List.getElem?_eq_some_iff.1 hp).1
 rw [List.length_take] at hpl
 have hp' : ys[p]? = some i := by rw [List.getElem?_take_of_lt (by omega)] at hp; exact hp
 have hin := h.mem.1 (List.mem_of_getElem? hp')
 apply Decidable.byContradiction
 intro hc
 have hi0 : r i = 0 := by have := (h0 i hin).1; grind
 have h1 : rsum r (ys.drop p) = 0 := rsum_zero fun x hx => by
  obtain ⟨q, hq⟩ := List.getElem?_of_mem hx
  rw [List.getElem?_drop] at hq
  have hxn := h.mem.1 (List.mem_of_getElem? hq)
  have h2 := (h0 x hxn).1
  by_cases hq0 : q = 0
  ·subst hq0
   rw [Nat.add_zero, hp'] at hq; cases hq; exact hi0
  ·have := h.le (show p < p + q by omega) hp' hq
   unfold Ahead at this; grind
 have h2 : rsum r (ys.take p) ≤ (((ys.take p).length : Nat) : Rat) := rsum_le fun x hx => Rat.le_of_lt (h0 x (h.mem.1 (List.mem_of_mem_take hx))).2
 rw [← rsum_perm h.perm, ← List.take_append_drop p ys, rsum_append, h1, Rat.add_zero] at hm
 rw [hm, List.length_take, Nat.min_eq_left (by omega)] at h2
 have := Rat.natCast_le_natCast.1 h2
 omega
theorem Rnk.uniq {r : Nat → Rat} {n : Nat} {ys zs : List Nat} (h : Rnk r n ys) (h' : Rnk r n zs) : ys = zs := by
 refine List.ext_getElem? fun p => ?_
 induction p using Nat.strongRecOn with
 | ind p ih =>
  rcases Nat.lt_or_ge p n with hp | hp
  ·obtain ⟨a, e1⟩ : ∃ a, ys[p]? = some a := ⟨_, List.getElem?_eq_getElem (by rw [h.len]; exact hp)⟩
   obtain ⟨b, e2⟩ : ∃ b, zs[p]? = some b := ⟨_, List.getElem?_eq_getElem (by rw [h'.len]; exact hp)⟩
   have an : a < n := h.mem.1 (List.mem_of_getElem? e1)
   have bn : b < n := h'.mem.1 (List.mem_of_getElem? e2)
   obtain ⟨q, hq⟩ := List.getElem?_of_mem (h'.mem.2 an)
   obtain ⟨s, hs⟩ := List.getElem?_of_mem (h.mem.2 bn)
   have hqp : p ≤ q := by
    apply Decidable.byContradiction; intro hc
    have := ih q (by omega)
    rw [hq] at this
    have e3 := (List.getElem?_inj (by rw [h.len]; omega) h.nodup).1 (this.trans e1.symm)
    omega
   have hsp : p ≤ s := by
    apply Decidable.byContradiction; intro hc
    have := ih s (by omega)
    rw [hs] at this
    have e3 := (List.getElem?_inj (by rw [h'.len]; omega) h'.nodup).1 (this.symm.trans e2.symm)
    omega
   rw [e1, e2]
   by_cases hab : a = b
   ·rw [hab]
   ·exfalso
    have hqp' : p < q := by
     rcases Nat.lt_or_eq_of_le hqp with h1 | h1
     ·exact h1
     ·rw [← h1, e2] at hq; cases hq; exact absurd rfl hab
    have hsp' : p < s := by
     rcases Nat.lt_or_eq_of_le hsp with h1 | h1
     ·exact h1
     ·rw [← h1, e1] at hs; cases hs; exact absurd rfl hab
    have h1 := h'.le hqp' e2 hq
    have h2 := h.le hsp' e1 hs
    unfold Ahead at h1 h2; grind
  ·rw [List.getElem?_eq_none (by rw [h.len]; exact hp), List.getElem?_eq_none (by rw [h'.len]; exact hp)]
theorem isum_set {l : List Int} {i : Nat} {x : Int} (h : l[i]? = some x) (y : Int) : isum (l.set i y) = isum l + (y - x) := by
 induction l generalizing i with
 | nil => simp at h
 | cons a l ih =>
  cases i with
  | zero => simp at h; subst h; simp only [List.set_cons_zero, isum]; omega
  | succ i => simp at h; simp only [List.set_cons_succ, isum, ih h]; omega
theorem incs_sum {ys : List Nat} {os : List Int} {k : Nat} (hk : k ≤ ys.length) (h : ∀ i ∈ ys, i < os.length) : isum (incs ys os k) = isum os + (k : Int) := by
 induction k with
 | zero => simp [incs]
 | succ k ih =>
  obtain ⟨i, hi⟩ : ∃ i, ys[k]? = some i := ⟨_, List.getElem?_eq_getElem (by omega)⟩
  have hil := h i (List.mem_of_getElem? hi)
  obtain ⟨o, ho⟩ : ∃ o, (incs ys os k)[i]? = some o := ⟨_, List.getElem?_eq_getElem (by rw [incs_length]; exact hil)⟩
  rw [incs_succ hi, ho, Option.getD_some, isum_set ho, ih (by omega)]
  omega
theorem incs_at {ys : List Nat} {os : List Int} {k j : Nat} {o : Int} (hn : ys.Nodup) (ho : os[j]? = some o) : (incs ys os k)[j]? = some (if j ∈ ys.take k then o + 1 else o) := by
 induction k with
 | zero => simp [incs, ho]
 | succ k ih =>
  cases hi : ys[k]? with
  | none =>
   have hl := List.getElem?_eq_none_iff.1 hi
   rw [show incs ys os (k + 1) = incs ys os k by unfold incs; rw [List.take_of_length_le (by omega), List.take_of_length_le (by omega)], ih, List.take_of_length_le (by omega), List.take_of_length_le (show ys.length ≤ k + 1 by omega)]
  | some i =>
   rw [incs_succ hi, List.take_add_one, hi]
   have hjl := (List.getElem?_eq_some_iff.1 ho).1
   by_cases e : i = j
   ·subst e
    have hnm : i ∉ ys.take k := by
     intro hm
     obtain ⟨p, hp⟩ := List.getElem?_of_mem hm
     have hpl := (List.getElem?_eq_some_iff.1 hp).1
     rw [List.length_take] at hpl
     rw [List.getElem?_take_of_lt (by omega)] at hp
     have := (List.getElem?_inj (by omega) hn).1 (hp.trans hi.symm)
     omega
    rw [ih, if_neg hnm, List.getElem?_set_self (by rw [incs_length]; exact hjl)]
    simp
   ·rw [List.getElem?_set_ne e, ih]
    congr 1
    have : (j ∈ ys.take k ++ (some i).toList) ↔ j ∈ ys.take k := by simp; intro h; exact absurd h.symm e
    simp only [this]
structure IsLev (a : Int) (l : List Cl) (t : Rat) : Prop where
 nn : 0 ≤ t
 sum : S t l = ((tot a l : Int) : Rat)
 top : t = 0 ∨ ∃ x ∈ l, 0 < x.w.q ∧ t * x.w.q ≤ ((x.cap : Int) : Rat)
theorem part_le {x : Cl} {t u : Rat} (h : x.good) (htu : t ≤ u) : min ((x.cap : Int) : Rat) (t * x.w.q) ≤ min ((x.cap : Int) : Rat) (u * x.w.q) := by
 have := Rat.mul_le_mul_of_nonneg_right htu h.p
 grind
theorem S_le {l : List Cl} {t u : Rat} (hg : ∀ x ∈ l, x.good) (h : t ≤ u) : S t l ≤ S u l := by
 induction l with
 | nil => exact Rat.le_refl
 | cons x r ih =>
  have h1 := ih fun y hy => hg y (by simp [hy])
  have h2 := part_le (hg x (by simp)) h
  simp only [S]; grind
theorem S_lt {l : List Cl} {t u : Rat} (hg : ∀ x ∈ l, x.good) (h : t < u) (hx : ∃ x ∈ l, 0 < x.w.q ∧ u * x.w.q ≤ ((x.cap : Int) : Rat)) : S t l < S u l := by
 induction l with
 | nil => obtain ⟨x, hx, _⟩ := hx; cases hx
 | cons x r ih =>
  have hg' : ∀ y ∈ r, y.good := fun y hy => hg y (by simp [hy])
  have h2 := part_le (hg x (by simp)) (Rat.le_of_lt h)
  simp only [S]
  obtain ⟨y, hy, h3, h4⟩ := hx
  rcases List.mem_cons.1 hy with rfl | hy
  ·have h5 := S_le hg' (Rat.le_of_lt h)
   have h6 := Rat.mul_lt_mul_of_pos_right h h3
   have : min ((y.cap : Int) : Rat) (t * y.w.q) < min ((y.cap : Int) : Rat) (u * y.w.q) := by grind
   grind
  ·have h5 := ih hg' ⟨y, hy, h3, h4⟩
   grind
theorem IsLev.lt {a b : Int} {l : List Cl} {t u : Rat} (h : IsLev a l t) (hu : IsLev b l u) (hg : ∀ x ∈ l, x.good) (hlt : t < u) : tot a l < tot b l := by
 have hu0 : u ≠ 0 := by have := h.nn; grind
 have := S_lt hg hlt (hu.top.resolve_left hu0)
 rw [h.sum, hu.sum] at this
 exact Rat.intCast_lt_intCast.1 this
theorem IsLev.mono {a b : Int} {l : List Cl} {t u : Rat} (h : IsLev a l t) (hu : IsLev b l u) (hg : ∀ x ∈ l, x.good) (hab : a ≤ b) : t ≤ u := by
 apply Decidable.byContradiction
 intro hc
 have := hu.lt h hg (by grind)
 unfold tot at this; omega
theorem IsLev.uniq {a : Int} {l : List Cl} {t u : Rat} (h : IsLev a l t) (hu : IsLev a l u) (hg : ∀ x ∈ l, x.good) : t = u := by
 have h1 := h.mono hu hg (Int.le_refl _)
 have h2 := hu.mono h hg (Int.le_refl _)
 grind
structure Scaled (f : Rat) (l k : List Cl) : Prop where
 len : k.length = l.length
 at_ : ∀ (j : Nat) (x y : Cl), l[j]? = some x → k[j]? = some y → y.cap = x.cap ∧ y.w.q = x.w.q * f
theorem Scaled.S {f : Rat} {l : List Cl} {t : Rat} : ∀ {k : List Cl}, Scaled f l k → S t k = S (t * f) l := by
 induction l with
 | nil =>
  intro k h
  have := List.eq_nil_of_length_eq_zero h.len
  subst this; rfl
 | cons x r ih =>
  intro k h
  cases k with
  | nil => have := h.len; simp at this
  | cons y ys =>
   obtain ⟨h1, h3⟩ := h.at_ 0 x y rfl rfl
   have h2 := ih (k := ys) ⟨by have := h.len; simpa using this, fun j a b ha hb => h.at_ (j + 1) a b ha hb⟩
   simp only [Go.Proofs.YtjbcalbbhomkjaaGreat.S, h1, h2, h3]
   have : t * (x.w.q * f) = t * f * x.w.q := by grind
   rw [this]
theorem Scaled.csum {f : Rat} (hf : f ≠ 0) {l : List Cl} : ∀ {k : List Cl}, Scaled f l k → csum (k.filter nz) = csum (l.filter nz) := by
 induction l with
 | nil =>
  intro k h
  have := List.eq_nil_of_length_eq_zero h.len
  subst this; rfl
 | cons x r ih =>
  intro k h
  cases k with
  | nil => have := h.len; simp at this
  | cons y ys =>
   obtain ⟨h1, h3⟩ := h.at_ 0 x y rfl rfl
   have h2 := ih (k := ys) ⟨by have := h.len; simpa using this, fun j a b ha hb => h.at_ (j + 1) a b ha hb⟩
   have hz : nz y = nz x := by
    unfold nz; rw [h3, decide_eq_decide]
    constructor
    ·intro h4 h5; rw [h5, Rat.zero_mul] at h4; exact h4 rfl
    ·intro h4 h5; rcases Rat.mul_eq_zero.1 h5 with h6 | h6
     ·exact h4 h6
     ·exact hf h6
   rw [List.filter_cons, List.filter_cons, hz]
   cases nz x <;> simp [Go.Proofs.YtjbcalbbhomkjaaGreat.csum, h2, h1]
theorem Scaled.lev {f : Rat} (hf : 0 < f) {l k : List Cl} {a : Int} {t : Rat} (h : Scaled f l k) (ht : IsLev a k t) : IsLev a l (t * f) := by
 have hf' : f ≠ 0 := by grind
 refine ⟨Rat.mul_nonneg ht.nn (Rat.le_of_lt hf), ?_, ?_⟩
 ·rw [← h.S, ht.sum]; unfold tot; rw [h.csum hf']
 ·rcases ht.top with h0 | ⟨y, hy, h1, h2⟩
  ·left; rw [h0, Rat.zero_mul]
  ·right
   obtain ⟨j, hj⟩ := List.getElem?_of_mem hy
   have hl := (List.getElem?_eq_some_iff.1 hj).1
   obtain ⟨x, hx⟩ : ∃ x, l[j]? = some x := ⟨_, List.getElem?_eq_getElem (by rw [← h.len]; exact hl)⟩
   obtain ⟨e1, e2⟩ := h.at_ j x y hx hj
   refine ⟨x, List.mem_of_getElem? hx, ?_, ?_⟩
   ·rw [e2] at h1
    apply Decidable.byContradiction; intro hc
    have := Rat.mul_le_mul_of_nonneg_right (show x.w.q ≤ 0 by grind) (Rat.le_of_lt hf)
    grind
   ·rw [← e1]
    have : t * f * x.w.q = t * y.w.q := by rw [e2]; grind
    rw [this]; exact h2
theorem S_append {t : Rat} (a b : List Cl) : S t (a ++ b) = S t a + S t b := by
 induction a with
 | nil => simp [S, Rat.zero_add]
 | cons x l ih => simp only [List.cons_append, S, ih]; grind
theorem S_cap {t : Rat} {l : List Cl} (hg : ∀ x ∈ l, x.good) : S t l ≤ ((csum (l.filter nz) : Int) : Rat) := by
 induction l with
 | nil => exact Rat.le_refl
 | cons x r ih =>
  have h1 := ih fun y hy => hg y (by simp [hy])
  rw [List.filter_cons]
  cases hz : nz x
  ·have : x.w.q = 0 := by simpa [nz] using hz
   have h0 : (0 : Rat) ≤ ((x.cap : Int) : Rat) := Rat.intCast_nonneg.2 (hg x (by simp)).b0
   simp only [S, this, Rat.mul_zero, rmin_r h0]; simp; grind
  ·simp only [S, if_true, csum, Rat.intCast_add]
   grind
theorem S_eq_at {l : List Cl} {t u : Rat} (hg : ∀ x ∈ l, x.good) (htu : t ≤ u) (h : S u l ≤ S t l) : ∀ x ∈ l, min ((x.cap : Int) : Rat) (u * x.w.q) = min ((x.cap : Int) : Rat) (t * x.w.q) := by
 induction l with
 | nil => intro x hx; cases hx
 | cons x r ih =>
  have hg' : ∀ y ∈ r, y.good := fun y hy => hg y (by simp [hy])
  have h2 := part_le (hg x (by simp)) htu
  have h5 := S_le hg' htu
  simp only [S] at h
  intro y hy
  rcases List.mem_cons.1 hy with rfl | hy
  ·grind
  ·exact ih hg' (by grind) y hy
theorem full_at {l : List Cl} {t : Rat} (hg : ∀ x ∈ l, x.good) (h : S t l = ((csum (l.filter nz) : Int) : Rat)) : ∀ x ∈ l, nz x = true → min ((x.cap : Int) : Rat) (t * x.w.q) = ((x.cap : Int) : Rat) := by
 induction l with
 | nil => intro x hx; cases hx
 | cons x r ih =>
  have hg' : ∀ y ∈ r, y.good := fun y hy => hg y (by simp [hy])
  have h5 := S_cap (t := t) hg'
  rw [List.filter_cons] at h
  cases hz : nz x
  ·have h6 : x.w.q = 0 := by simpa [nz] using hz
   have h0 : (0 : Rat) ≤ ((x.cap : Int) : Rat) := Rat.intCast_nonneg.2 (hg x (by simp)).b0
   rw [hz] at h
   simp only [S, h6, Rat.mul_zero, rmin_r h0, Bool.false_eq_true, if_false, Rat.zero_add] at h
   intro y hy hn
   rcases List.mem_cons.1 hy with rfl | hy
   ·rw [hz] at hn; cases hn
   ·exact ih hg' h y hy hn
  ·rw [hz] at h
   simp only [S, if_true, csum, Rat.intCast_add] at h
   intro y hy hn
   rcases List.mem_cons.1 hy with rfl | hy
   ·grind
   ·exact ih hg' (by grind) y hy hn
theorem leaves {p r : List Cl} {x : Cl} {a : Int} {t u : Rat} (hg : ∀ y ∈ p ++ x :: r, y.good) (ht : IsLev a (p ++ x :: r) t) (hu : IsLev a (p ++ r) u) : ∀ y ∈ p ++ r, min ((y.cap : Int) : Rat) (t * y.w.q) ≤ min ((y.cap : Int) : Rat) (u * y.w.q) := by
 have hg' : ∀ y ∈ p ++ r, y.good := fun y hy => hg y (by rcases List.mem_append.1 hy with h | h <;> simp [h])
 intro y hy
 rcases (Rat.le_total : t ≤ u ∨ u ≤ t) with h | h
 ·exact part_le (hg' y hy) h
 ·have gx := hg x (by simp)
  have hp0 : 0 ≤ min ((x.cap : Int) : Rat) (t * x.w.q) := by
   have h1 : (0 : Rat) ≤ ((x.cap : Int) : Rat) := Rat.intCast_nonneg.2 gx.b0
   have h2 := Rat.mul_nonneg ht.nn gx.p
   grind
  have hS : S t (p ++ r) ≤ S t (p ++ x :: r) := by rw [S_append, S_append]; simp only [S]; grind
  rcases Int.le_total (csum ((p ++ r).filter nz)) a with h1 | h1
  ·have h2 : S u (p ++ r) = ((csum ((p ++ r).filter nz) : Int) : Rat) := by rw [hu.sum]; unfold tot; rw [Int.min_eq_left h1]
   by_cases hz : nz y = true
   ·rw [full_at hg' h2 y hy hz]; grind
   ·have h6 : y.w.q = 0 := by simpa [nz] using hz
    rw [h6, Rat.mul_zero, Rat.mul_zero]; exact Rat.le_refl
  ·have h2 : S u (p ++ r) = (a : Rat) := by rw [hu.sum]; unfold tot; rw [Int.min_eq_right h1]
   have h3 : S t (p ++ x :: r) ≤ (a : Rat) := by rw [ht.sum]; exact Rat.intCast_le_intCast.2 (by unfold tot; omega)
   have := S_eq_at hg' h (by rw [h2]; exact Rat.le_trans hS h3) y hy
   rw [this]; exact Rat.le_refl
theorem LevOf.is {a : Int} {l : List Cl} {t : Rat} (h : LevOf a l t) (hg : ∀ x ∈ l, x.good) (ha : 0 ≤ a) : IsLev a l t := by
 obtain ⟨h1, h2, h3⟩ := h.sum hg ha
 exact ⟨h1, h2, h3⟩
def ev (t : Rat) (l : List Cl) : List Rat := l.map fun x => min ((x.cap : Int) : Rat) (t * x.w.q)
def rest (t : Rat) (l : List Cl) (j : Nat) : Rat := (ev t l)[j]?.getD 0 - ((fl ((ev t l)[j]?.getD 0) : Int) : Rat)
structure PartsOf (a : Int) (l : List Cl) (t : Rat) (ys : List Nat) (m : Nat) (rs : List Int) : Prop where
 lev : IsLev a l t
 ord : Rnk (rest t l) l.length ys
 rs : rs = incs ys ((ev t l).map fl) m
 hm : (m : Int) = tot a l - isum ((ev t l).map fl)
 ml : m ≤ l.length
theorem ExP.ev {l : List Cl} {t : Rat} {xs : List Fr} (h : ExP l t xs) : xs.map Fr.q = ev t l := by
 refine List.ext_getElem? fun j => ?_
 rcases Nat.lt_or_ge j l.length with hj | hj
 ·obtain ⟨x, hx⟩ : ∃ x, l[j]? = some x := ⟨_, List.getElem?_eq_getElem hj⟩
  obtain ⟨y, hy⟩ : ∃ y, xs[j]? = some y := ⟨_, List.getElem?_eq_getElem (by rw [h.len]; exact hj)⟩
  unfold Go.Proofs.YtjbcalbbhomkjaaGreat.ev
  rw [List.getElem?_map, List.getElem?_map, hx, hy]
  exact congrArg some (h.q j x y hx hy)
 ·unfold Go.Proofs.YtjbcalbbhomkjaaGreat.ev
  rw [List.getElem?_eq_none (by rw [List.length_map, h.len]; exact hj), List.getElem?_eq_none (by rw [List.length_map]; exact hj)]
theorem ev_length (t : Rat) (l : List Cl) : (ev t l).length = l.length := by unfold ev; rw [List.length_map]
theorem parts_of {a : Int} {l : List Cl} {t : Rat} {xs ps : List Fr} {os : List Int} {ys : List Nat} (hg : ∀ x ∈ l, x.good) (ha : 0 ≤ a) (h : LevOf a l t) (hx : ExP l t xs) (hp : PartI xs ps os xs.length) (hy : ys.Perm (List.range l.length)) (hu : Ins.Upto (ltM ps) ys l.length) :
  PartsOf a l t ys (tot a l - isum (xs.map fun x => fl x.q)).toNat (incs ys os (tot a l - isum (xs.map fun x => fl x.q)).toNat) := by
 have he := hx.ev
 have hfl : (xs.map fun x => fl x.q) = (ev t l).map fl := by rw [← he, List.map_map]; rfl
 have hos : os = (ev t l).map fl := by
  rw [← hfl]
  refine List.ext_getElem? fun j => ?_
  rcases Nat.lt_or_ge j xs.length with hj | hj
  ·obtain ⟨x, hxj⟩ : ∃ x, xs[j]? = some x := ⟨_, List.getElem?_eq_getElem hj⟩
   rw [(hp.dn j x hj hxj).1, List.getElem?_map, hxj]; rfl
  ·rw [List.getElem?_eq_none (by rw [hp.lo]; exact hj), List.getElem?_eq_none (by rw [List.length_map]; exact hj)]
 have hq : ∀ j, j < l.length → qa ps j = rest t l j := by
  intro j hj
  obtain ⟨x, hxj⟩ : ∃ x, xs[j]? = some x := ⟨_, List.getElem?_eq_getElem (by rw [hx.len]; exact hj)⟩
  obtain ⟨_, y, hy1, hy2⟩ := hp.dn j x (by rw [hx.len]; exact hj) hxj
  have e : (ev t l)[j]? = some x.q := by rw [← he, List.getElem?_map, hxj]; rfl
  unfold rest qa
  rw [e, hy1]
  exact hy2
 have hl := left_ok h hx hg ha
 have hyl : ys.length = l.length := by rw [hy.length_eq, List.length_range]
 have hpw := Ins.pairwise (show Ins.Upto (ltM ps) ys ys.length by rw [hyl]; exact hu)
 refine ⟨h.is hg ha, ⟨hy, ?_⟩, by rw [hos], ?_, ?_⟩
 ·refine List.Pairwise.imp_of_mem ?_ hpw
  intro x y hxm hym h9 h8
  have hxn := List.mem_range.1 (hy.mem_iff.1 hxm)
  have hyn := List.mem_range.1 (hy.mem_iff.1 hym)
  have : ltM ps y x = true := (ltM_iff ps y x).2 (by rw [hq x hxn, hq y hyn]; exact h8)
  rw [h9] at this; cases this
 ·rw [hfl] at hl ⊢; omega
 ·rw [← hx.len]; omega
theorem rsum_rest (t : Rat) : ∀ l : List Cl, rsum (rest t l) (List.range l.length) + ((isum ((ev t l).map fl) : Int) : Rat) = S t l := by
 have hgen : ∀ (r : Nat → Rat) (k n : Nat), rsum r (List.range' k n) = rsum (fun j => r (k + j)) (List.range n) := by
  intro r k n
  rw [List.range_eq_range']
  have : ∀ (n a : Nat), rsum r (List.range' (k + a) n) = rsum (fun j => r (k + j)) (List.range' a n) := by
   intro n
   induction n with
   | zero => intro a; rfl
   | succ n ih => intro a; rw [List.range'_succ, List.range'_succ, rsum, rsum, Nat.add_assoc, ih (a + 1)]
  exact this n 0
 intro l
 induction l with
 | nil => simp [rsum, ev, isum, S, Rat.zero_add]
 | cons x r ih =>
  have e1 : List.range (x :: r).length = 0 :: List.range' 1 r.length := by rw [List.length_cons, List.range_eq_range', List.range'_succ]
  have e2 : (fun j => rest t (x :: r) (1 + j)) = rest t r := by
   funext j
   unfold rest ev
   rw [Nat.add_comm]; simp
  rw [e1, rsum, hgen, e2]
  have e3 : rest t (x :: r) 0 = min ((x.cap : Int) : Rat) (t * x.w.q) - ((fl (min ((x.cap : Int) : Rat) (t * x.w.q)) : Int) : Rat) := rfl
  have e4 : isum ((ev t (x :: r)).map fl) = fl (min ((x.cap : Int) : Rat) (t * x.w.q)) + isum ((ev t r).map fl) := rfl
  rw [e3, e4, Rat.intCast_add, S, ← ih]
  grind
theorem ev_at {t : Rat} {l : List Cl} {j : Nat} {x : Cl} (h : l[j]? = some x) : (ev t l)[j]? = some (min ((x.cap : Int) : Rat) (t * x.w.q)) := by unfold ev; rw [List.getElem?_map, h]; rfl
theorem rest_bounds (t : Rat) (l : List Cl) (j : Nat) : 0 ≤ rest t l j ∧ rest t l j < 1 := by
 unfold rest
 generalize (ev t l)[j]?.getD 0 = q
 have h1 := fl_le q
 have h2 := lt_fl q
 constructor <;> grind
namespace PartsOf
variable {a : Int} {l : List Cl} {t : Rat} {ys : List Nat} {m : Nat} {rs : List Int}
theorem msum (h : PartsOf a l t ys m rs) : rsum (rest t l) (List.range l.length) = ((m : Nat) : Rat) := by
 have h1 := rsum_rest t l
 rw [h.lev.sum] at h1
 have h2 : ((m : Nat) : Rat) = (((m : Nat) : Int) : Rat) := rfl
 rw [h2, h.hm, Rat.intCast_sub]
 grind
theorem pos (h : PartsOf a l t ys m rs) {i : Nat} (hi : i ∈ ys.take m) : 0 < rest t l i := h.ord.pos (fun j _ => rest_bounds t l j) h.msum hi
theorem len (h : PartsOf a l t ys m rs) : rs.length = l.length := by rw [h.rs, incs_length, List.length_map, ev_length]
theorem at_ (h : PartsOf a l t ys m rs) {j : Nat} {x : Cl} (hx : l[j]? = some x) : rs[j]? = some (if j ∈ ys.take m then fl (min ((x.cap : Int) : Rat) (t * x.w.q)) + 1 else fl (min ((x.cap : Int) : Rat) (t * x.w.q))) := by
 rw [h.rs, incs_at h.ord.nodup (show ((ev t l).map fl)[j]? = some (fl (min ((x.cap : Int) : Rat) (t * x.w.q))) by rw [List.getElem?_map, ev_at hx]; rfl)]
theorem sum (h : PartsOf a l t ys m rs) : isum rs = tot a l := by
 rw [h.rs, incs_sum (by rw [h.ord.len]; exact h.ml) (fun i hi => by rw [List.length_map, ev_length]; exact h.ord.mem.1 hi), h.hm]; omega
theorem uniq (h : PartsOf a l t ys m rs) {t' : Rat} {l' : List Cl} {ys' : List Nat} {m' : Nat} {rs' : List Int} (h' : PartsOf a l' t' ys' m' rs') (he : ev t l = ev t' l') (hm : m = m') : rs = rs' := by
 have hl : l.length = l'.length := by rw [← ev_length t l, he, ev_length]
 have hr : rest t l = rest t' l' := by funext j; unfold rest; rw [he]
 have h1 := h.ord
 have h2 := h'.ord
 rw [hr, hl] at h1
 rw [h.rs, h'.rs, h1.uniq h2, he, hm]
theorem one (h : PartsOf a l t ys m rs) {j : Nat} {x : Cl} {e : Rat} (hx : l[j]? = some x) (gx : x.good) (he : e = min ((x.cap : Int) : Rat) (t * x.w.q)) : ∃ p, rs[j]? = some p ∧ 0 ≤ p ∧ p ≤ x.cap ∧ ((p : Int) : Rat) - e < 1 ∧ e - ((p : Int) : Rat) < 1 ∧ (x.w.q = 0 → p = 0) := by
 have h1 := h.at_ hx
 have hc0 : (0 : Rat) ≤ ((x.cap : Int) : Rat) := Rat.intCast_nonneg.2 gx.b0
 have he0 : 0 ≤ e := by
  have := Rat.mul_nonneg h.lev.nn gx.p
  rw [he]; grind
 have hec : e ≤ ((x.cap : Int) : Rat) := by rw [he]; grind
 rw [← he] at h1
 have f0 := fl_nonneg he0
 have f1 := fl_cap hec
 have f2 := fl_le e
 have f3 := lt_fl e
 have hr : rest t l j = e - ((fl e : Int) : Rat) := by unfold rest; rw [ev_at hx, ← he]; rfl
 refine ⟨_, h1, ?_⟩
 split
 ·rename_i hi
  have hp := h.pos hi
  rw [hr] at hp
  have e1 : ((fl e + 1 : Int) : Rat) = ((fl e : Int) : Rat) + 1 := by rw [Rat.intCast_add]; rfl
  have f4 : fl e < x.cap := Rat.intCast_lt_intCast.1 (by grind)
  refine ⟨by omega, by omega, by rw [e1]; grind, by rw [e1]; grind, fun h0 => ?_⟩
  have he1 : e = 0 := by rw [he, h0, Rat.mul_zero, rmin_r hc0]
  have hz : fl 0 = 0 := rfl
  rw [he1, hz] at hp
  have h9 : (0 : Rat) - ((0 : Int) : Rat) = 0 := by grind
  rw [h9] at hp
  exact absurd hp Rat.lt_irrefl
 ·refine ⟨f0, f1, by grind, by grind, fun h0 => ?_⟩
  have he1 : e = 0 := by rw [he, h0, Rat.mul_zero, rmin_r hc0]
  rw [he1]; rfl
end PartsOf
end Go.Proofs.YtjbcalbbhomkjaaGreat
namespace Go.Proofs.YtjbcalbbhomkjaaGreat
open Go.RowKit
attribute [local irreducible] RI.frame RI.act RI.Ob RI.Tail RI.out V.Wp V.Fn Oper.wp
theorem Level_s {A : Option Addr} {c : Nat} {l : List Cl} {w : World} (hl : Ls w 6 A l.length c (l.map Cl.cells)) (hfr : ∀ x ∈ l, Fr.ok w x.w) (hV : ValidC l) (h20 : l.length < 20) {a : Int} (h0 : 0 ≤ a) (h1 : a ≤ 1099511627776) :
    Calls Tryz.prog 21 #[.int .i64 a, .slice A l.length c] w fun e w' => ∃ z : Fr, e = .returned (.tuple #[z.v, .int .i64 0]) ∧ Fr.ok w' z ∧ LevOf a l z.q ∧ Below w.heap.size w w' := by
 have hgood := hV.g
 refine V.nt Tryz.func21 rfl rfl fun f0 hf => ?_
 have s0 : f0 0 = .int .i64 a := hf 0 (by simp)
 have s1 : f0 1 = .slice A l.length c := hf 1 (by simp)
 clear hf
 have hb := Below.refl w.heap.size w
 refine V.seq ?_
 refine V.reg 2 [V.Nb w 39 #[.bool false, .slice none 0 0, .bool false, .slice none 0 0], V.E (.int .i64 0)] [0] (V.i hl (V.i hfr hb)) ?_ ?_
 ·refine V.a2 ?_ ?_
  ·exact V.sn rfl fun f W h => V.x_alloc
  ·exact V.z1 rfl fun h => V.xs rfl
 have o_bel := hb.size
 have ob_hl := hl.blt
 intro f2 W3 e4
 clear hl hfr hb
 obtain ⟨⟨hl, hfr, hb⟩, z_⟩ := e4.g
 obtain ⟨s0, s1⟩ := V.e2 e4 s0 s1
 obtain ⟨g1, s4, bg1, lg1⟩ := V.eq e4 0 4 rfl
 have mg1 := Nat.le_trans o_bel lg1
 have q_hl_g1 : 0 < l.length → (adr A).block ≠ g1 := fun h => Nat.ne_of_lt (Nat.lt_of_lt_of_le (ob_hl h) lg1)
 have s5 := V.es e4 1 5 rfl
 clear e4 z_
 clear o_bel ob_hl
 refine V.t_done rfl (V.nx (V.seq (V.seq ?_)))
 refine V.reg 4 [V.E (.int .i64 a), V.E (.slice A l.length c), V.E (.bool true), V.E (.bool false)] [] (V.i hl (V.i hfr (V.i hb bg1))) ?_ ?_
 ·refine V.a4 ?_ ?_ ?_ ?_
  ·exact V.mo rfl 0 s0
  ·exact V.mo rfl 1 s1
  ·refine V.s2 rfl fun f W h => ?_
   refine V.call en40 (V.args2 (V.ed h 0 6 rfl) (V.ed h 1 7 rfl)) (Calls.mono (allowed_t h.g.1.1 h.g.1.2.1 hV h0 h1) ?_)
   rintro e W' ⟨rfl, hb⟩
   exact ⟨_, rfl, rfl, hb⟩
  ·exact V.z1 rfl fun h => V.x_un (V.ed h 2 8 rfl)
 intro f5 W6 e7
 clear hl hfr hb bg1
 obtain ⟨⟨hl, hfr, hb, bg1⟩, z_⟩ := e7.g
 obtain ⟨s0, s1, s4, s5⟩ := V.e4 e7 s0 s1 s4 s5
 have s9 := V.es e7 3 9 rfl
 clear e7 z_
 refine V.t_done rfl (V.nx ?_)
 refine V.cond_f (V.ev_tmp rfl s9) ?_
 refine V.skip ?_
 refine V.nx (V.seq ?_)
 refine V.reg 3 [V.E (.int .i64 a), V.E (.slice A l.length c), (fun v W => ∃ z8 : Fr, v = z8.v ∧ Fr.ok W z8 ∧ (LevOf a l z8.q))] [] (V.i hl (V.i hfr (V.i hb bg1))) ?_ ?_
 ·refine V.a3 ?_ ?_ ?_
  ·exact V.mo rfl 0 s0
  ·exact V.mo rfl 1 s1
  ·refine V.s2 rfl fun f W h => ?_
   refine V.call en58 (V.args2 (V.ed h 0 11 rfl) (V.ed h 1 12 rfl)) (Calls.mono (level_t h.g.1.1 h.g.1.2.1 hgood h20 h0 h1) ?_)
   rintro e W' ⟨t11, h12, z8, rfl, k9, e10, hb⟩
   exact ⟨_, rfl, ⟨z8, rfl, k9, by rw [e10]; exact h12⟩, hb⟩
 intro f13 W14 e15
 clear hl hfr hb bg1
 obtain ⟨⟨hl, hfr, hb, bg1⟩, z_⟩ := e15.g
 obtain ⟨s0, s1, s4, s5⟩ := V.e4 e15 s0 s1 s4 s5
 obtain ⟨z8, s13, r16, n17⟩ := V.eq e15 2 13 rfl
 clear e15 z_
 refine V.tsr (k := 3) rfl s4 s13 bg1 fun W18 hs b' => ?_
 replace hl := hs.ls hl q_hl_g1
 replace hfr := (fun x_0 hx_0 => hs.fr (hfr x_0 hx_0))
 replace hb := hs.bel hb mg1
 replace r16 := hs.fr r16
 replace bg1 := b'
 clear hs b'
 refine V.t_val (k := 4) (v := .int .i64 0) (t := 5) rfl rfl rfl (by kernel_rfl) trivial (V.xs rfl) ?_
 intro f19 e20 u21
 replace s0 : f19 0 = .int .i64 a := (u21 0 (by decide)).trans s0
 replace s1 : f19 1 = .slice A l.length c := (u21 1 (by decide)).trans s1
 replace s4 : f19 4 = Vp g1 0 := (u21 4 (by decide)).trans s4
 replace s13 : f19 13 = z8.v := (u21 13 (by decide)).trans s13
 have s5 := e20
 clear u21
 refine V.t_done rfl (V.nx (V.ret ?_))
 refine V.leave_any (.inl rfl) (V.res_cellTmp rfl rfl rfl s4 s5 (V.lr bg1 Tryz.underlying39 rfl (by kernel_rfl))) ?_
 exact ⟨z8, rfl, r16, n17, hb⟩
theorem Exact_s {A : Option Addr} {c : Nat} {l : List Cl} {w : World} (hl : Ls w 6 A l.length c (l.map Cl.cells)) (hfr : ∀ x ∈ l, Fr.ok w x.w) (hV : ValidC l) (h20 : l.length < 20) {a : Int} (h0 : 0 ≤ a) (h1 : a ≤ 1099511627776) :
    Calls Tryz.prog 14 #[.int .i64 a, .slice A l.length c] w fun e w' => ∃ (g : Nat) (xs : List Fr) (t : Rat), e = .returned (.tuple #[.slice (some ⟨g, 0, none⟩) l.length l.length, .int .i64 0]) ∧ LevOf a l t ∧ ExP l t xs ∧ Own w' g 39 4 (xs.map Fr.cells) [] ∧ (∀ x ∈ xs, Fr.ok w' x) ∧ w.heap.size ≤ g ∧ Below w.heap.size w w' := by
 have hgood := hV.g
 refine V.nt Tryz.func14 rfl rfl fun f0 hf => ?_
 have s0 : f0 0 = .int .i64 a := hf 0 (by simp)
 have s1 : f0 1 = .slice A l.length c := hf 1 (by simp)
 clear hf
 have hb := Below.refl w.heap.size w
 refine V.seq ?_
 refine V.reg 2 [V.E (.slice none 0 0), V.E (.int .i64 0)] [] (V.i hl (V.i hfr hb)) ?_ ?_
 ·refine V.a2 ?_ ?_
  ·exact V.z1 rfl fun h => V.xs rfl
  ·exact V.z1 rfl fun h => V.xs rfl
 intro f22 W23 e24
 clear hl hfr hb
 obtain ⟨⟨hl, hfr, hb⟩, z_⟩ := e24.g
 obtain ⟨s0, s1⟩ := V.e2 e24 s0 s1
 have s4 := V.es e24 0 4 rfl
 have s5 := V.es e24 1 5 rfl
 clear e24 z_
 refine V.t_done rfl (V.nx (V.seq (V.seq ?_)))
 refine V.reg 4 [V.E (.int .i64 a), V.E (.slice A l.length c), V.E (.bool true), V.E (.bool false)] [] (V.i hl (V.i hfr hb)) ?_ ?_
 ·refine V.a4 ?_ ?_ ?_ ?_
  ·exact V.mo rfl 0 s0
  ·exact V.mo rfl 1 s1
  ·refine V.s2 rfl fun f W h => ?_
   refine V.call en40 (V.args2 (V.ed h 0 6 rfl) (V.ed h 1 7 rfl)) (Calls.mono (allowed_t h.g.1.1 h.g.1.2.1 hV h0 h1) ?_)
   rintro e W' ⟨rfl, hb⟩
   exact ⟨_, rfl, rfl, hb⟩
  ·exact V.z1 rfl fun h => V.x_un (V.ed h 2 8 rfl)
 intro f25 W26 e27
 clear hl hfr hb
 obtain ⟨⟨hl, hfr, hb⟩, z_⟩ := e27.g
 obtain ⟨s0, s1, s4, s5⟩ := V.e4 e27 s0 s1 s4 s5
 have s9 := V.es e27 3 9 rfl
 clear e27 z_
 refine V.t_done rfl (V.nx ?_)
 refine V.cond_f (V.ev_tmp rfl s9) ?_
 refine V.skip ?_
 refine V.nx (V.seq ?_)
 refine V.reg 5 [V.E (.int .i64 a), V.E (.slice A l.length c), (fun v W => ∃ g28 : Nat, ∃ xs29 : List Fr, ∃ t30 : Rat, v = .slice (some ⟨g28, 0, none⟩) l.length l.length ∧ Own W g28 39 4 (xs29.map Fr.cells) ([]) ∧ (∀ x ∈ xs29, Fr.ok W x) ∧ (LevOf a l t30) ∧ (ExP l t30 xs29) ∧ (w.heap.size ≤ g28) ∧ (W26.heap.size ≤ g28)), (fun v W => ∃ g37 : Nat, ∃ xs38 : List Fr, ∃ t39 : Rat, v = .slice (some ⟨g37, 0, none⟩) l.length l.length ∧ Own W g37 39 4 (xs38.map Fr.cells) ([]) ∧ (∀ x ∈ xs38, Fr.ok W x) ∧ (LevOf a l t39) ∧ (ExP l t39 xs38) ∧ (w.heap.size ≤ g37) ∧ (W26.heap.size ≤ g37)), V.E (.int .i64 0)] [] (V.i hl (V.i hfr hb)) ?_ ?_
 ·refine V.a5 ?_ ?_ ?_ ?_ ?_
  ·exact V.mo rfl 0 s0
  ·exact V.mo rfl 1 s1
  ·refine V.s2 rfl fun f W h => ?_
   refine V.call en42 (V.args2 (V.ed h 0 10 rfl) (V.ed h 1 11 rfl)) (Calls.mono (exact_s h.g.1.1 h.g.1.2.1 hgood h20 h0 h1) ?_)
   rintro e W' ⟨g28, xs29, t30, rfl, p31, p32, p33, p34, p35, hb⟩
   exact ⟨_, rfl, ⟨g28, xs29, t30, rfl, p33, p34, p31, p32, Nat.le_trans h.g.1.2.2.size p35, Nat.le_trans h.g.2 p35⟩, hb⟩
  ·refine V.s2 rfl fun f W h => ?_
   obtain ⟨g28, xs29, t30, a12, k2_0, k2_1, p2_0, p2_1, p2_2, p2_3⟩ := V.dp h 2 12 (by kernel_rfl) rfl
   exact V.v2 (.slice (some ⟨g28, 0, none⟩) l.length l.length) (V.xs (V.ev_tmp rfl a12)) ⟨g28, xs29, t30, rfl, k2_0, k2_1, p2_0, p2_1, p2_2, p2_3⟩
  ·exact V.z1 rfl fun h => V.xs rfl
 intro f40 W41 e42
 clear hl hfr hb
 obtain ⟨⟨hl, hfr, hb⟩, z_⟩ := e42.g
 obtain ⟨s0, s1⟩ := V.e2 e42 s0 s1
 obtain ⟨g37, xs38, t39, s4, r43, r44, n45, n46, n47, n48⟩ := V.eq e42 3 4 rfl
 have s5 := V.es e42 4 5 rfl
 clear e42 z_
 refine V.t_done rfl (V.nx (V.ret ?_))
 refine V.leave_any (.inl rfl) (V.res_tmp2 rfl rfl rfl s4 s5) ?_
 exact ⟨g37, xs38, _, rfl, n45, n46, r43, r44, n47, hb⟩
theorem SameInts_s {A B : Option Addr} {c d : Nat} {xs ys : List Int} {w : World} (hl : Ls w 1 A xs.length c (xs.map IntC)) (hm : Ls w 1 B ys.length d (ys.map IntC)) :
    Calls Tryz.prog 39 #[.slice A xs.length c, .slice B ys.length d] w fun e w' => e = .returned (.bool (decide (xs = ys))) ∧ Below w.heap.size w w' := by
 have hmx : xs.length ≤ 9223372036854775807 := Nat.le_trans hl.cap hl.max
 refine V.nt Tryz.func39 rfl rfl fun f0 hf => ?_
 have s0 : f0 0 = .slice A xs.length c := hf 0 (by simp)
 have s1 : f0 1 = .slice B ys.length d := hf 1 (by simp)
 clear hf
 have hb := Below.refl w.heap.size w
 refine V.seq ?_
 refine V.reg 1 [V.E (.bool false)] [] (V.i hl (V.i hm hb)) ?_ ?_
 ·refine V.ac ?_ V.an
  ·exact V.z1 rfl fun h => V.xs rfl
 intro f1 W2 e3
 clear hl hm hb
 obtain ⟨⟨hl, hm, hb⟩, z_⟩ := e3.g
 obtain ⟨s0, s1⟩ := V.e2 e3 s0 s1
 have s4 := V.es e3 0 4 rfl
 clear e3 z_
 refine V.t_done rfl (V.nx (V.seq (V.seq ?_)))
 refine V.reg 5 [V.E (.slice A xs.length c), V.E (.int .i64 (xs.length : Int)), V.E (.slice B ys.length d), V.E (.int .i64 (ys.length : Int)), V.E (.bool ((xs.length : Int) != (ys.length : Int)))] [] (V.i hl (V.i hm hb)) ?_ ?_
 ·refine V.a5 ?_ ?_ ?_ ?_ ?_
  ·exact V.mo rfl 0 s0
  ·exact V.z1 rfl fun h => V.x_len (V.ed h 0 6 rfl)
  ·exact V.mo rfl 1 s1
  ·exact V.z1 rfl fun h => V.x_len (V.ed h 2 8 rfl)
  ·exact V.z1 rfl fun h => V.xb (V.ed h 1 7 rfl) (V.ed h 3 9 rfl)
 intro f4 W5 e6
 clear hl hm hb
 obtain ⟨⟨hl, hm, hb⟩, z_⟩ := e6.g
 obtain ⟨s0, s1, s4⟩ := V.e3 e6 s0 s1 s4
 have s10 := V.es e6 4 10 rfl
 clear e6 z_
 refine V.t_done rfl (V.nx ?_)
 cases hc7 : ((xs.length : Int) != (ys.length : Int))
 ·have s10_ : f4 10 = .bool false := s10.trans (by rw [hc7])
  refine V.cond_f (V.ev_tmp rfl s10_) ?_
  have hne := hc7
  have hle : xs.length = ys.length := by simp at hne; omega
  refine V.skip ?_
  refine V.nx (V.seq (V.seq ?_))
  refine V.reg 1 [V.E (.int .i64 0)] [] (V.i hl (V.i hm hb)) ?_ ?_
  ·refine V.ac ?_ V.an
   ·exact V.z1 rfl fun h => V.xs rfl
  intro f8 W9 e10
  clear hl hm hb
  obtain ⟨⟨hl, hm, hb⟩, z_⟩ := e10.g
  obtain ⟨s0, s1, s4⟩ := V.e3 e10 s0 s1 s4
  have s5 := V.es e10 0 5 rfl
  clear e10 z_
  refine V.t_done rfl (V.nx (V.block ?_))
  refine V.loop (fun k f W => ∃ i : Nat, (k = xs.length - i ∧ (i ≤ xs.length) ∧ (xs.take i = ys.take i)) ∧ (f 0 = .slice A xs.length c ∧ f 1 = .slice B ys.length d ∧ f 5 = .int .i64 (i : Int)) ∧ (Below w.heap.size w W ∧ Ls W 1 A xs.length c (xs.map IntC) ∧ Ls W 1 B ys.length d (ys.map IntC))) (xs.length - 0) ⟨0, ⟨rfl, by omega, by simp⟩, ⟨s0, s1, (s5.trans (by simp))⟩, ⟨hb, hl, hm⟩⟩ ?_
  clear hl hm hb s0 s1 s4 s5
  rintro k13 f11 W12 ⟨i, ⟨hk17, hil, hq⟩, ⟨s0, s1, s5⟩, ⟨r14, r15, r16⟩⟩
  refine V.seq (V.seq ?_)
  refine V.reg 4 [V.E (.int .i64 (i : Int)), V.E (.slice A xs.length c), V.E (.int .i64 (xs.length : Int)), V.E (.bool (decide ((i : Int) < (xs.length : Int))))] [] (V.i r14 (V.i r15 r16)) ?_ ?_
  ·refine V.a4 ?_ ?_ ?_ ?_
   ·exact V.mo rfl 5 s5
   ·exact V.mo rfl 0 s0
   ·exact V.z1 rfl fun h => V.x_len (V.ed h 1 12 rfl)
   ·exact V.z1 rfl fun h => V.xb (V.ed h 0 11 rfl) (V.ed h 2 13 rfl)
  intro f18 W19 e20
  clear r14 r15 r16
  obtain ⟨⟨r14, r15, r16⟩, z_⟩ := e20.g
  obtain ⟨s0, s1, s5⟩ := V.e3 e20 s0 s1 s5
  have s14 := V.es e20 3 14 rfl
  clear e20 z_
  refine V.t_done rfl (V.nx ?_)
  cases hc21 : (decide ((i : Int) < (xs.length : Int)))
  ·have s14_ : f18 14 = .bool false := s14.trans (by rw [hc21])
   refine V.cond_f (V.ev_tmp rfl s14_) ?_
   have hi : i = xs.length := by have := of_decide_eq_false hc21; omega
   refine V.exit (V.tx (V.tx (V.bx (V.nx (V.seq ?_)))))
   refine V.reg 1 [V.E (.bool true)] [] (V.i r14 (V.i r15 r16)) ?_ ?_
   ·refine V.ac ?_ V.an
    ·exact V.z1 rfl fun h => V.xs rfl
   intro f22 W23 e24
   clear r14 r15 r16
   obtain ⟨⟨r14, r15, r16⟩, z_⟩ := e24.g
   obtain ⟨s0, s1⟩ := V.e2 e24 s0 s1
   have s4 := V.es e24 0 4 rfl
   clear e24 z_
   refine V.t_done rfl (V.nx (V.ret ?_))
   refine V.leave_any (.inl rfl) (V.res_tmp rfl rfl s4) ?_
   exact ⟨by rw [show decide (xs = ys) = true from by rw [decide_eq_true]; rw [hi, List.take_length, hle, List.take_length] at hq; exact hq], r14⟩
  ·have s14_ : f18 14 = .bool true := s14.trans (by rw [hc21])
   refine V.cond_t (V.ev_tmp rfl s14_) ?_
   have hi : i < xs.length := by have := of_decide_eq_true hc21; omega
   obtain ⟨x, mx, ex, ex_⟩ := V.at_map IntC (l := xs) (i := i) hi
   obtain ⟨y, my, ey, ey_⟩ := V.at_map IntC (l := ys) (i := i) (by omega)
   refine V.skip ?_
   refine V.nx (V.seq (V.block (V.seq ?_)))
   refine V.reg 9 [V.E (.slice A xs.length c), V.E (.int .i64 (i : Int)), V.E (.pointer (some ((adr A).add (i * 1 + 0)))), V.E (.int .i64 x), V.E (.slice B ys.length d), V.E (.int .i64 (i : Int)), V.E (.pointer (some ((adr B).add (i * 1 + 0)))), V.E (.int .i64 y), V.E (.bool (x != y))] [] (V.i r14 (V.i r15 r16)) ?_ ?_
   ·refine V.b8 ?_ ?_ ?_ ?_ ?_ ?_ ?_ ?_ (V.ac ?_ V.an)
    ·exact V.mo rfl 0 s0
    ·exact V.mo rfl 5 s5
    ·exact V.z1 rfl fun h => V.xi (i := i) h.g.1.2.1 ex_ (V.ed h 0 17 rfl) (V.ed h 1 18 rfl)
    ·exact V.z1 rfl fun h => V.xl (V.ed h 2 19 rfl) (V.ld_ls1 (i := i) (o := 0) h.g.1.2.1 ex_ rfl)
    ·exact V.mo rfl 1 s1
    ·exact V.mo rfl 5 s5
    ·exact V.z1 rfl fun h => V.xi (i := i) h.g.1.2.2 ey_ (V.ed h 4 21 rfl) (V.ed h 5 22 rfl)
    ·exact V.z1 rfl fun h => V.xl (V.ed h 6 23 rfl) (V.ld_ls1 (i := i) (o := 0) h.g.1.2.2 ey_ rfl)
    ·exact V.z1 rfl fun h => V.xb (V.ed h 3 20 rfl) (V.ed h 7 24 rfl)
   intro f25 W26 e27
   clear r14 r15 r16
   obtain ⟨⟨r14, r15, r16⟩, z_⟩ := e27.g
   obtain ⟨s0, s1, s5⟩ := V.e3 e27 s0 s1 s5
   have s25 := V.es e27 8 25 rfl
   clear e27 z_
   refine V.t_done rfl (V.nx ?_)
   cases hc28 : (x != y)
   ·have s25_ : f25 25 = .bool false := s25.trans (by rw [hc28])
    refine V.cond_f (V.ev_tmp rfl s25_) ?_
    have hxy := hc28
    refine V.skip ?_
    refine V.bn (V.nx ?_)
    refine V.reg 3 [V.E (.int .i64 (i : Int)), V.E (.int .i64 ((i : Int) + 1)), V.E (.int .i64 ((i : Int) + 1))] [] (V.i r14 (V.i r15 r16)) ?_ ?_
    ·refine V.a3 ?_ ?_ ?_
     ·exact V.mo rfl 5 s5
     ·refine V.s1 rfl fun f W h => ?_
      have hw29 : IntKind.i64.wrap ((i : Int) + 1) = (i : Int) + 1 := by exact IntWalk.i64_in _ (by omega)
      exact V.xb (V.ed h 0 15 rfl) rfl ((by kernel_rfl : _ = Result.ok (.int .i64 (IntKind.i64.wrap ((i : Int) + 1))) _).trans (by rw [hw29]))
     ·exact V.se rfl 1 16 rfl
    intro f30 W31 e32
    clear r14 r15 r16
    obtain ⟨⟨r14, r15, r16⟩, z_⟩ := e32.g
    obtain ⟨s0, s1⟩ := V.e2 e32 s0 s1
    have s5 := V.es e32 2 5 rfl
    clear e32 z_
    refine V.t_done rfl ?_
    refine V.handed (xs.length - (i + 1)) (by have := hk17; omega) ⟨(i + 1), ⟨rfl, by omega, by rw [List.take_add_one, List.take_add_one, hq, ex, ey, show x = y by simpa using hxy]⟩, ⟨s0, s1, (s5.trans (by simp))⟩, ⟨r14, r15, r16⟩⟩
   ·have s25_ : f25 25 = .bool true := s25.trans (by rw [hc28])
    refine V.cond_t (V.ev_tmp rfl s25_) ?_
    have hxy := hc28
    refine V.seq ?_
    refine V.reg 1 [V.E (.bool false)] [] (V.i r14 (V.i r15 r16)) ?_ ?_
    ·refine V.ac ?_ V.an
     ·exact V.z1 rfl fun h => V.xs rfl
    intro f33 W34 e35
    clear r14 r15 r16
    obtain ⟨⟨r14, r15, r16⟩, z_⟩ := e35.g
    obtain ⟨s0, s1, s5⟩ := V.e3 e35 s0 s1 s5
    have s4 := V.es e35 0 4 rfl
    clear e35 z_
    refine V.t_done rfl (V.nx (V.ret (V.br (V.tr (V.tr (V.br (V.tr ?_)))))))
    refine V.leave_any (.inl rfl) (V.res_tmp rfl rfl s4) ?_
    exact ⟨by rw [show decide (xs = ys) = false from by rw [decide_eq_false]; intro e; rw [e, ey] at ex; cases ex; simp at hxy], r14⟩
 ·have s10_ : f4 10 = .bool true := s10.trans (by rw [hc7])
  refine V.cond_t (V.ev_tmp rfl s10_) ?_
  have hne := hc7
  refine V.seq ?_
  refine V.reg 1 [V.E (.bool false)] [] (V.i hl (V.i hm hb)) ?_ ?_
  ·refine V.ac ?_ V.an
   ·exact V.z1 rfl fun h => V.xs rfl
  intro f36 W37 e38
  clear hl hm hb
  obtain ⟨⟨hl, hm, hb⟩, z_⟩ := e38.g
  obtain ⟨s0, s1⟩ := V.e2 e38 s0 s1
  have s4 := V.es e38 0 4 rfl
  clear e38 z_
  refine V.t_done rfl (V.nx (V.ret (V.tr ?_)))
  refine V.leave_any (.inl rfl) (V.res_tmp rfl rfl s4) ?_
  exact ⟨by rw [show decide (xs = ys) = false from by rw [decide_eq_false]; intro e; rw [e] at hne; simp at hne], hb⟩
theorem Zero_r {A A' : Option Addr} {c c' : Nat} {q : Rat} {w : World} :
    Calls Tryz.prog 38 #[.agg #[.bool (Q.neg q), Vs A (Q.m q) c, .bool false, Vs A' q.den c']] w fun e w' => e = .returned (.bool (decide (q = 0))) ∧ Below w.heap.size w w' := by
 refine V.nt Tryz.func38 rfl rfl fun f0 hf => ?_
 have s0 : f0 0 = .agg #[.bool (Q.neg q), Vs A (Q.m q) c, .bool false, Vs A' q.den c'] := hf 0 (by simp)
 clear hf
 have hb := Below.refl w.heap.size w
 refine V.seq ?_
 refine V.reg 2 [V.Nb w 39 #[.bool (Q.neg q), Vs A (Q.m q) c, .bool false, Vs A' q.den c'], V.E (.bool false)] [0] hb ?_ ?_
 ·refine V.a2 ?_ ?_
  ·exact V.sn rfl fun f W h => V.x_box (V.eo h 0 s0)
  ·exact V.z1 rfl fun h => V.xs rfl
 have o_bel := hb.size
 intro f40 W41 e42
 clear hb
 obtain ⟨hb, z_⟩ := e42.g
 replace s0 := V.e1 e42 s0
 obtain ⟨g39, s1, bg39, lg39⟩ := V.eq e42 0 1 rfl
 have s2 := V.es e42 1 2 rfl
 clear e42 z_
 clear o_bel
 refine V.t_done rfl (V.nx (V.seq ?_))
 refine V.reg 6 [V.E (Vp g39 0), V.E (Vp g39 1), V.E (Vs A (Q.m q) c), V.E (.int .i64 ((Lb.limbs (Q.m q)).length : Int)), V.E (.bool (((Lb.limbs (Q.m q)).length : Int) == (0 : Int))), V.E (.bool (((Lb.limbs (Q.m q)).length : Int) == (0 : Int)))] [] (V.i hb bg39) ?_ ?_
 ·refine V.a6 ?_ ?_ ?_ ?_ ?_ ?_
  ·exact V.z1 rfl fun h => V.xa (V.eo h 1 s1)
  ·exact V.z1 rfl fun h => V.xa (V.ed h 0 3 rfl)
  ·exact V.z1 rfl fun h => V.xl (V.ed h 1 4 rfl) (V.lo h.g.1.2 rfl)
  ·exact V.z1 rfl fun h => V.x_len (V.ed h 2 5 rfl)
  ·exact V.z1 rfl fun h => V.xb (V.ed h 3 6 rfl) rfl
  ·exact V.se rfl 4 7 rfl
 intro f43 W44 e45
 clear hb bg39
 obtain ⟨⟨hb, bg39⟩, z_⟩ := e45.g
 replace s0 := V.e1 e45 s0
 have s2 := V.es e45 5 2 rfl
 clear e45 z_
 refine V.t_done rfl (V.nx (V.ret ?_))
 refine V.leave_any (.inl rfl) (V.res_tmp rfl rfl s2) ?_
 exact ⟨by rw [Q.num_len], hb⟩
theorem RMake {A : Option Addr} {n c : Nat} {b : Bool} {w : World} :
    Calls Tryz.prog 91 #[.bool b, .slice A n c] w fun e w' => e = .returned (.agg #[.bool (b && decide (0 < (n : Int))), .slice A n c]) ∧ Below w.heap.size w w' := by
 refine V.nt Tryz.func91 rfl rfl fun f0 hf => ?_
 have s0 : f0 0 = .bool b := hf 0 (by simp)
 have s1 : f0 1 = .slice A n c := hf 1 (by simp)
 clear hf
 have hb := Below.refl w.heap.size w
 refine V.seq ?_
 refine V.reg 1 [V.Nb w 35 #[.bool false, .slice none 0 0]] [0] hb ?_ ?_
 ·refine V.ac ?_ V.an
  ·exact V.sn rfl fun f W h => V.x_alloc
 have o_bel := hb.size
 intro f47 W48 e49
 clear hb
 obtain ⟨hb, z_⟩ := e49.g
 obtain ⟨s0, s1⟩ := V.e2 e49 s0 s1
 obtain ⟨g46, s4, bg46, lg46⟩ := V.eq e49 0 4 rfl
 have mg46 := Nat.le_trans o_bel lg46
 clear e49 z_
 clear o_bel
 refine V.t_done rfl (V.nx (V.seq ?_))
 refine V.reg 8 [V.E (.bool b), V.E (.bool b), (V.Gd b (V.E (.slice A n c))), (V.Gd b (V.E (.int .i64 (n : Int)))), (V.Gd b (V.E (.bool (decide (0 < (n : Int)))))), V.E (.bool (b && (decide (0 < (n : Int))))), V.E (.slice A n c), V.E (.agg #[.bool (b && (decide (0 < (n : Int)))), .slice A n c])] [] (V.i hb bg46) ?_ ?_
 ·refine V.a8 ?_ ?_ ?_ ?_ ?_ ?_ ?_ ?_
  ·exact V.mo rfl 0 s0
  ·exact V.me rfl 0 5 rfl
  ·exact V.gt 1 6 rfl rfl fun hp f W h => V.v1 (V.xm (V.eo h 1 s1))
  ·exact V.gt 1 6 rfl rfl fun hp f W h => V.v1 (V.x_len (V.eg h 2 7 rfl hp))
  ·exact V.gt 1 6 rfl rfl fun hp f W h => V.v1 (V.xb (V.eg h 3 8 rfl hp) rfl)
  ·refine V.s1 rfl fun f W h => ?_
   have d9 := V.dp h 4 9 (by kernel_rfl) rfl
   exact V.x_and (V.ed h 1 6 rfl) (fun e => V.ev_tmp rfl (V.gd_on d9 e)) rfl
  ·exact V.mo rfl 1 s1
  ·exact V.z1 rfl fun h => V.b2 (V.ed h 5 10 rfl) (V.ed h 6 11 rfl)
 intro f50 W51 e52
 clear hb bg46
 obtain ⟨⟨hb, bg46⟩, z_⟩ := e52.g
 obtain ⟨s0, s1, s4⟩ := V.e3 e52 s0 s1 s4
 have s12 := V.es e52 7 12 rfl
 clear e52 z_
 refine V.tsr (k := 8) rfl s4 s12 bg46 fun W53 hs b' => ?_
 replace hb := hs.bel hb mg46
 replace bg46 := b'
 clear hs b'
 refine V.t_done rfl (V.nx (V.ret ?_))
 refine V.leave_any (.inl rfl) (V.res_cell rfl rfl s4 (V.lr bg46 Tryz.underlying35 rfl (by kernel_rfl))) ?_
 exact ⟨rfl, hb⟩
theorem en91 : En 91 := en_ Tryz.func91
abbrev U16 (a : Nat) : List Value := [.int .u16 (a : Int)]
theorem V.rem64 {W : World} {v : Nat} {x y : Operand} (h : v < 18446744073709551616) : (do eqGuard .rem 119 x y (.int .u64 (v : Int)) (.int .u64 65536); binOp .rem 119 (.int .u64 (v : Int)) (.int .u64 65536)).run Tryz.prog W = .ok (.int .u64 ((v % 65536 : Nat) : Int)) W := by
  refine (by kernel_rfl : _ = Result.ok (.int .u64 (Int.tmod (v : Int) 65536)) W).trans ?_
  rw [show Int.tmod (v : Int) 65536 = ((v % 65536 : Nat) : Int) by rw [Int.tmod_eq_emod_of_nonneg (by omega)]; omega]
theorem V.quo64 {W : World} {v : Nat} {x y : Operand} (h : v < 18446744073709551616) : (do eqGuard .quo 119 x y (.int .u64 (v : Int)) (.int .u64 65536); binOp .quo 119 (.int .u64 (v : Int)) (.int .u64 65536)).run Tryz.prog W = .ok (.int .u64 ((v / 65536 : Nat) : Int)) W := by
  refine (by kernel_rfl : _ = Result.ok (.int .u64 (IntKind.u64.wrap (Int.tdiv (v : Int) 65536))) W).trans ?_
  rw [show Int.tdiv (v : Int) 65536 = ((v / 65536 : Nat) : Int) by rw [Int.tdiv_eq_ediv_of_nonneg (by omega)]; omega, IntWalk.u64_in _ (by omega)]
theorem limbs_step {u : Nat} (h : 0 < u) : Lb.limbs u = u % 65536 :: Lb.limbs (u / 65536) := by
  have := Lb.limbs_cons (u % 65536) (u / 65536) (Nat.mod_lt _ (by decide)) (by omega)
  rwa [show u % 65536 + 65536 * (u / 65536) = u by omega] at this
theorem Acc.r16 {W : World} {B c n : Nat} {A : Option Addr} {xs : List Nat} (h : Acc W B 51 1 A c (xs.map U16)) (ho : Lb.Ok xs) (hn : (xs.map U16).length = n) : R16 W A n c xs := by
  subst hn
  rcases h.forms with ⟨rfl, rfl, hx⟩ | ⟨g, rest, rfl, _, hw, h1, h2⟩
  · have : xs = [] := by simpa using hx
    subst this; exact R16.nil (by omega)
  · refine ⟨⟨by simp, h1, h2, fun _ => ⟨_, rfl, fun j u hu => ?_⟩⟩, ho⟩
    rw [List.getElem?_map] at hu
    obtain ⟨a, ha, rfl⟩ := Option.map_eq_some_iff.1 hu
    have := flatten_at (rest := rest) (i := j) (j := 0) hw.sz (x := U16 a) (by rw [List.getElem?_map, ha]; rfl) (u := u16 a) rfl
    rw [Addr.add_mid, hw.blk.cell]
    simpa using this
theorem acc_append2 {P : Program} {W : World} {B : Nat} {T t ty : TypeId} {k c g1 : Nat} {z : Value} {A : Option Addr} {xs : List (List Value)} {T' : TypeId} {x : List Value}
    (h : Acc W B T k A c xs) (hx : Blk W g1 T' x.toArray) (hxl : x.length = k) (hroom : xs.length ≤ 100000) (ht : P.underlying t = some (.slice T)) (hi0 : (P.info? T).map (fun i => (i.size, decide (i.bytes ≤ 1000), i.zero)) = some (k, true, some z)) (hzs : z.cells.size = k ∧ 0 < k) (h1 : x.all (·.oneCell') = true) :
    ∃ A' c' W', (Builtin.append_ #[t, t] ty #[.slice A xs.length c, .slice (some ⟨g1, 0, none⟩) 1 1]).run P W = .ok (.slice A' (xs.length + 1) c') W' ∧ Acc W' B T k A' c' (xs ++ [x]) ∧ Below B W W' ∧ ∀ (g : Nat) (t' : TypeId) (cs : Array Value), T ≠ t' → Blk W g t' cs → Blk W' g t' cs := by
  obtain ⟨hzs, hk⟩ := hzs
  obtain ⟨i, hi, hi1⟩ := Option.map_eq_some_iff.1 hi0
  obtain ⟨hs, hb, hz⟩ : i.size = k ∧ i.bytes ≤ 1000 ∧ i.zero = some z := by simpa using hi1
  have hr : Rd W k (some ⟨g1, 0, none⟩) 1 1 x := ⟨by omega, Nat.le_refl _, by omega, fun _ => ⟨_, rfl, fun j u hu => by rw [Addr.add_mid, hx.cell]; simpa using hu⟩⟩
  have hbb : i.bytes * (xs.length + 1) ≤ 140737488355328 := Nat.le_trans (Nat.mul_le_mul hb (show xs.length + 1 ≤ 100001 by omega)) (by decide)
  obtain ⟨A', c', W', hrun, h2, h3, h4⟩ := run_app_rd (P := P) W B t ty T i z k i.bytes ht hi hz hs rfl hzs hk _ _ _ h.own _ 1 1 x hr (fun u hu => (List.all_eq_true.1 h1) u hu) (by omega) hbb h.le
  refine ⟨A', c', W', hrun, ⟨?_, fun y hy => ?_, Nat.le_trans h.le h3.size⟩, Below.of_grown h3 h.le fun b e => (h.own.lt b e).1, fun g t' cs hne hb => hb.grown h3 (own_blk_ne h.own hb hne)⟩
  · simpa using h2
  · rcases List.mem_append.1 hy with hy | hy
    · exact h.sz y hy
    · have : y = x := by simpa using hy
      rw [this]; exact hxl
def RetN0 (w : World) (b : Bool) (m : Nat) (e : Ending) (w' : World) : Prop := ∃ A c, e = .returned (.agg #[.bool b, Vs A m c]) ∧ R16 w' A (Lb.limbs m).length c (Lb.limbs m) ∧ Below w.heap.size w w'
theorem RFromInt {vv : Nat} {w : World} (hv : vv ≤ 9223372036854775807) :
    Calls Tryz.prog 52 #[.int .i64 (vv : Int)] w (RetN0 w false vv) := by
 refine V.nt Tryz.func52 rfl rfl fun f0 hf => ?_
 have s0 : f0 0 = .int .i64 (vv : Int) := hf 0 (by simp)
 clear hf
 have hb := Below.refl w.heap.size w
 refine V.seq ?_
 refine V.reg 1 [V.Nb w 35 #[.bool false, .slice none 0 0]] [0] hb ?_ ?_
 ·refine V.ac ?_ V.an
  ·exact V.sn rfl fun f W h => V.x_alloc
 have o_bel := hb.size
 intro f2 W3 e4
 clear hb
 obtain ⟨hb, z_⟩ := e4.g
 replace s0 := V.e1 e4 s0
 obtain ⟨g1, s2, bg1, lg1⟩ := V.eq e4 0 2 rfl
 have mg1 := Nat.le_trans o_bel lg1
 clear e4 z_
 clear o_bel
 refine V.t_done rfl (V.nx (V.seq ?_))
 refine V.reg 3 [V.E (.int .i64 (vv : Int)), V.E (.int .u64 (vv : Int)), V.E (.int .u64 (vv : Int))] [] (V.i hb bg1) ?_ ?_
 ·refine V.a3 ?_ ?_ ?_
  ·exact V.mo rfl 0 s0
  ·refine V.s1 rfl fun f W h => ?_
   have hw5 : IntKind.u64.wrap ((vv : Int)) = (vv : Int) := by exact IntWalk.u64_in _ (by omega)
   exact V.x_convert (V.ed h 0 5 rfl) ((by kernel_rfl : _ = Result.ok (.int .u64 (IntKind.u64.wrap ((vv : Int)))) _).trans (by rw [hw5]))
  ·exact V.se rfl 1 6 rfl
 intro f6 W7 e8
 clear hb bg1
 obtain ⟨⟨hb, bg1⟩, z_⟩ := e8.g
 obtain ⟨s0, s2⟩ := V.e2 e8 s0 s2
 have s3 := V.es e8 2 3 rfl
 clear e8 z_
 refine V.t_done rfl (V.nx (V.seq (V.seq ?_)))
 refine V.reg 2 [V.E (.int .i64 (vv : Int)), V.E (.bool (decide ((vv : Int) < 0)))] [] (V.i hb bg1) ?_ ?_
 ·refine V.a2 ?_ ?_
  ·exact V.mo rfl 0 s0
  ·exact V.z1 rfl fun h => V.xb (V.ed h 0 7 rfl) rfl
 intro f9 W10 e11
 clear hb bg1
 obtain ⟨⟨hb, bg1⟩, z_⟩ := e11.g
 obtain ⟨s0, s2, s3⟩ := V.e3 e11 s0 s2 s3
 have s8 := V.es e11 1 8 rfl
 clear e11 z_
 refine V.t_done rfl (V.nx ?_)
 have s8_ : f9 8 = .bool false := s8.trans (congrArg Value.bool (decide_eq_false (by omega)))
 refine V.cond_f (V.ev_tmp rfl s8_) ?_
 refine V.skip ?_
 refine V.nx (V.seq ?_)
 refine V.reg 1 [V.E (.slice none 0 0)] [] (V.i hb bg1) ?_ ?_
 ·refine V.ac ?_ V.an
  ·exact V.z1 rfl fun h => V.xs rfl
 intro f12 W13 e14
 clear hb bg1
 obtain ⟨⟨hb, bg1⟩, z_⟩ := e14.g
 obtain ⟨s0, s2, s3⟩ := V.e3 e14 s0 s2 s3
 have s4 := V.es e14 0 4 rfl
 clear e14 z_
 refine V.t_done rfl (V.nx (V.seq (V.block ?_)))
 have r15 : Acc W13 w.heap.size 51 1 none 0 (([] : List Nat).map U16) := Acc.nil hb.size
 refine V.loop (fun k f W => ∃ u : Nat, ∃ acc : List Nat, ∃ A1 : Option Addr, ∃ c1 : Nat, (k = u ∧ (Lb.limbs vv = acc ++ Lb.limbs u) ∧ (u < 18446744073709551616)) ∧ (f 0 = .int .i64 (vv : Int) ∧ f 2 = Vp g1 0 ∧ f 3 = .int .u64 (u : Int) ∧ f 4 = .slice A1 ((acc.map U16).length) c1) ∧ (Below w.heap.size w W ∧ Blk W g1 35 #[.bool false, .slice none 0 0] ∧ Acc W w.heap.size 51 1 A1 c1 (acc.map U16))) (vv) ⟨vv, ([] : List Nat), none, 0, ⟨rfl, by simp, by omega⟩, ⟨s0, s2, s3, (s4.trans (by simp))⟩, ⟨hb, bg1, r15⟩⟩ ?_
 clear hb bg1 r15 s0 s2 s3 s4
 rintro k18 f16 W17 ⟨u, acc, A1, c1, ⟨hk22, hacc, hu⟩, ⟨s0, s2, s3, s4⟩, ⟨r19, r20, r21⟩⟩
 refine V.seq (V.seq ?_)
 refine V.reg 2 [V.E (.int .u64 (u : Int)), V.E (.bool (decide (0 < (u : Int))))] [] (V.i r19 (V.i r20 r21)) ?_ ?_
 ·refine V.a2 ?_ ?_
  ·exact V.mo rfl 3 s3
  ·exact V.z1 rfl fun h => V.xb (V.ed h 0 11 rfl) rfl
 intro f23 W24 e25
 clear r19 r20 r21
 obtain ⟨⟨r19, r20, r21⟩, z_⟩ := e25.g
 obtain ⟨s0, s2, s3, s4⟩ := V.e4 e25 s0 s2 s3 s4
 have s12 := V.es e25 1 12 rfl
 clear e25 z_
 refine V.t_done rfl (V.nx ?_)
 cases hc26 : (decide (0 < (u : Int)))
 ·have s12_ : f23 12 = .bool false := s12.trans (by rw [hc26])
  refine V.cond_f (V.ev_tmp rfl s12_) ?_
  have hc_ := hc26
  have hu0 : u = 0 := by have := of_decide_eq_false hc26; omega
  rw [hu0, Lb.limbs_zero, List.append_nil] at hacc
  refine V.exit (V.tx (V.tx (V.bx (V.nx (V.seq ?_)))))
  refine V.reg 4 [V.E (.int .i64 (vv : Int)), V.E (.bool (decide ((vv : Int) < 0))), V.E (.slice A1 ((acc.map U16).length) c1), V.E (.agg #[.bool ((decide ((vv : Int) < 0)) && decide (0 < ((acc.map U16).length : Int))), .slice A1 ((acc.map U16).length) c1])] [] (V.i r19 (V.i r20 r21)) ?_ ?_
  ·refine V.a4 ?_ ?_ ?_ ?_
   ·exact V.mo rfl 0 s0
   ·exact V.z1 rfl fun h => V.xb (V.ed h 0 21 rfl) rfl
   ·exact V.mo rfl 4 s4
   ·refine V.s2 rfl fun f W h => ?_
    refine V.call en91 (V.args2 (V.ed h 1 22 rfl) (V.ed h 2 23 rfl)) (Calls.mono (RMake) ?_)
    rintro e W' ⟨rfl, hb⟩
    exact ⟨_, rfl, rfl, hb⟩
  intro f27 W28 e29
  clear r19 r20 r21
  obtain ⟨⟨r19, r20, r21⟩, z_⟩ := e29.g
  obtain ⟨s0, s2⟩ := V.e2 e29 s0 s2
  have s24 := V.es e29 3 24 rfl
  clear e29 z_
  refine V.tsr (k := 4) rfl s2 s24 r20 fun W30 hs b' => ?_
  replace r19 := hs.bel r19 mg1
  replace r21 := hs.acc r21
  replace r20 := b'
  clear hs b'
  refine V.t_done rfl (V.nx (V.ret ?_))
  refine V.leave_any (.inl rfl) (V.res_cell rfl rfl s2 (V.lr r20 Tryz.underlying35 rfl (by kernel_rfl))) ?_
  subst hacc
  exact ⟨A1, c1, by rw [decide_eq_false (by omega : ¬ ((vv : Int) < 0)), Bool.false_and, List.length_map], Acc.r16 r21 (Lb.ok_limbs vv) (by simp), r19⟩
 ·have s12_ : f23 12 = .bool true := s12.trans (by rw [hc26])
  refine V.cond_t (V.ev_tmp rfl s12_) ?_
  have hc_ := hc26
  have hu0 : 0 < u := by have := of_decide_eq_true hc26; omega
  have hst := limbs_step hu0
  refine V.skip ?_
  refine V.nx (V.block (V.seq ?_))
  refine V.reg 5 [V.E (.slice A1 ((acc.map U16).length) c1), V.E (.int .u64 (u : Int)), V.E (.int .u64 ((u % 65536 : Nat) : Int)), V.E (.int .u16 ((u % 65536 : Nat) : Int)), (fun v W => ∃ g32 : Nat, v = .slice (some ⟨g32, 0, none⟩) 1 1 ∧ Blk W g32 51 #[.int .u16 ((u % 65536 : Nat) : Int)] ∧ (w.heap.size ≤ g32))] [] (V.i r19 (V.i r20 r21)) ?_ ?_
  ·refine V.a5 ?_ ?_ ?_ ?_ ?_
   ·exact V.mo rfl 4 s4
   ·exact V.mo rfl 3 s3
   ·exact V.z1 rfl fun h => V.xb (V.ed h 1 14 rfl) rfl (V.rem64 hu)
   ·refine V.s1 rfl fun f W h => ?_
    have hw31 : IntKind.u16.wrap (((u % 65536 : Nat) : Int)) = ((u % 65536 : Nat) : Int) := by exact IntWalk.u16_in _ (by omega)
    exact V.x_convert (V.ed h 2 15 rfl) ((by kernel_rfl : _ = Result.ok (.int .u16 (IntKind.u16.wrap (((u % 65536 : Nat) : Int)))) _).trans (by rw [hw31]))
   ·refine V.s2 rfl fun f W h => ?_
    exact V.valv (.slice (some ⟨W.heap.size, 0, none⟩) 1 1) (V.c1 (V.ed h 3 16 rfl)) ⟨⟨W.heap.size, rfl, Blk.new W 51 #[.int .u16 ((u % 65536 : Nat) : Int)], h.g.1.1.size⟩, (Below.refl _ _).alloc (Nat.le_refl _) _⟩
  intro f33 W34 e35
  clear r19 r20 r21
  obtain ⟨⟨r19, r20, r21⟩, z_⟩ := e35.g
  obtain ⟨s0, s2, s3, s4⟩ := V.e4 e35 s0 s2 s3 s4
  have s13 := V.es e35 0 13 rfl
  obtain ⟨g32, s17, r36, n37⟩ := V.eq e35 4 17 rfl
  clear e35 z_
  obtain ⟨A38, c39, W40, hr41, acc42, hw43, h944⟩ := acc_append2 (P := Tryz.prog) (t := 33) (ty := 33) (z := .int .u16 0) (x := [.int .u16 ((u % 65536 : Nat) : Int)]) r21 r36 rfl (by have h3 := congrArg List.length hacc; have h4 : (Lb.limbs vv).length ≤ 4 := Lb.limbs_length_le.2 (by omega); simp at h3 ⊢; omega) rfl (by kernel_rfl) (by decide) (by kernel_rfl)
  refine V.t_val (k := 5) (v := .slice A38 (((acc.map U16).length) + 1) c39) (t := 18) rfl rfl rfl (by kernel_rfl) trivial (V.x_append (V.ev_tmp rfl s13) (V.ev_tmp rfl s17) hr41) ?_
  intro f46 e47 u48
  replace s0 : f46 0 = .int .i64 (vv : Int) := (u48 0 (by decide)).trans s0
  replace s2 : f46 2 = Vp g1 0 := (u48 2 (by decide)).trans s2
  replace s3 : f46 3 = .int .u64 (u : Int) := (u48 3 (by decide)).trans s3
  replace s4 : f46 4 = .slice A1 ((acc.map U16).length) c1 := (u48 4 (by decide)).trans s4
  replace s13 : f46 13 = .slice A1 ((acc.map U16).length) c1 := (u48 13 (by decide)).trans s13
  replace s17 : f46 17 = .slice (some ⟨g32, 0, none⟩) 1 1 := (u48 17 (by decide)).trans s17
  have s18 := e47
  clear u48
  replace r20 : Blk W40 g1 35 #[.bool false, .slice none 0 0] := h944 _ _ _ (by decide) r20
  replace r19 : Below w.heap.size w W40 := r19.trans hw43
  clear r21
  clear r36
  refine V.t_val (k := 6) (v := .slice A38 (((acc.map U16).length) + 1) c39) (t := 4) rfl rfl rfl (by kernel_rfl) trivial (V.xs (V.ev_tmp rfl s18)) ?_
  intro f49 e50 u51
  replace s0 : f49 0 = .int .i64 (vv : Int) := (u51 0 (by decide)).trans s0
  replace s2 : f49 2 = Vp g1 0 := (u51 2 (by decide)).trans s2
  replace s3 : f49 3 = .int .u64 (u : Int) := (u51 3 (by decide)).trans s3
  replace s13 : f49 13 = .slice A1 ((acc.map U16).length) c1 := (u51 13 (by decide)).trans s13
  replace s17 : f49 17 = .slice (some ⟨g32, 0, none⟩) 1 1 := (u51 17 (by decide)).trans s17
  replace s18 : f49 18 = .slice A38 (((acc.map U16).length) + 1) c39 := (u51 18 (by decide)).trans s18
  have s4 := e50
  clear u51
  refine V.t_done rfl (V.nx ?_)
  refine V.reg 3 [V.E (.int .u64 (u : Int)), V.E (.int .u64 ((u / 65536 : Nat) : Int)), V.E (.int .u64 ((u / 65536 : Nat) : Int))] [] (V.i r20 (V.i r19 acc42)) ?_ ?_
  ·refine V.a3 ?_ ?_ ?_
   ·exact V.mo rfl 3 s3
   ·exact V.z1 rfl fun h => V.xb (V.ed h 0 19 rfl) rfl (V.quo64 hu)
   ·exact V.se rfl 1 20 rfl
  intro f52 W53 e54
  clear r20 r19 acc42
  obtain ⟨⟨r20, r19, acc42⟩, z_⟩ := e54.g
  obtain ⟨s0, s2, s4⟩ := V.e3 e54 s0 s2 s4
  have s3 := V.es e54 2 3 rfl
  clear e54 z_
  refine V.t_done rfl (V.bn ?_)
  have r55 : Acc W53 w.heap.size 51 1 A38 c39 ((acc ++ [u % 65536]).map U16) := by rw [List.map_append]; exact acc42
  refine V.handed ((u / 65536)) (by have := hk22; omega) ⟨(u / 65536), (acc ++ [u % 65536]), A38, c39, ⟨rfl, by rw [List.append_assoc, hacc, hst]; rfl, by have := Nat.div_le_self u 65536; omega⟩, ⟨s0, s2, (s3.trans (by simp)), (s4.trans (by simp))⟩, ⟨r19, r20, r55⟩⟩
theorem en52 : En 52 := en_ Tryz.func52
theorem RFrom {vv : Nat} {w : World} (hv : vv ≤ 9223372036854775807) :
    Calls Tryz.prog 17 #[.int .i64 (vv : Int)] w (FrOut w ((vv : Nat) : Rat)) := by
 refine V.nt Tryz.func17 rfl rfl fun f0 hf => ?_
 have s0 : f0 0 = .int .i64 (vv : Int) := hf 0 (by simp)
 clear hf
 have hb := Below.refl w.heap.size w
 refine V.seq ?_
 refine V.reg 1 [V.Nb w 39 #[.bool false, .slice none 0 0, .bool false, .slice none 0 0]] [0] hb ?_ ?_
 ·refine V.ac ?_ V.an
  ·exact V.sn rfl fun f W h => V.x_alloc
 have o_bel := hb.size
 intro f2 W3 e4
 clear hb
 obtain ⟨hb, z_⟩ := e4.g
 replace s0 := V.e1 e4 s0
 obtain ⟨g1, s2, bg1, lg1⟩ := V.eq e4 0 2 rfl
 have mg1 := Nat.le_trans o_bel lg1
 clear e4 z_
 clear o_bel
 refine V.t_done rfl (V.nx (V.seq ?_))
 refine V.reg 4 [V.E (.int .i64 (vv : Int)), (fun v W => ∃ A5 : Option Addr, ∃ c6 : Nat, v = .agg #[.bool false, Vs A5 vv c6] ∧ R16 W A5 ((Lb.limbs vv).length) c6 (Lb.limbs vv)), (fun v W => ∃ A8 : Option Addr, ∃ c9 : Nat, v = .agg #[.bool false, Vs A8 1 c9] ∧ R16 W A8 ((Lb.limbs 1).length) c9 (Lb.limbs 1)), (fun v W => ∃ A11 : Option Addr, ∃ c12 : Nat, ∃ A13 : Option Addr, ∃ c14 : Nat, v = .agg #[.bool false, Vs A11 vv c12, .bool false, Vs A13 1 c14] ∧ R16 W A11 ((Lb.limbs vv).length) c12 (Lb.limbs vv) ∧ R16 W A13 ((Lb.limbs 1).length) c14 (Lb.limbs 1))] [] (V.i hb bg1) ?_ ?_
 ·refine V.a4 ?_ ?_ ?_ ?_
  ·exact V.mo rfl 0 s0
  ·refine V.s2 rfl fun f W h => ?_
   refine V.call en52 (V.args1 (V.ed h 0 3 rfl)) (Calls.mono (RFromInt (vv := vv) hv) ?_)
   rintro e W' ⟨A5, c6, rfl, k7, hb⟩
   exact ⟨_, rfl, ⟨A5, c6, rfl, k7⟩, hb⟩
  ·refine V.s2 rfl fun f W h => ?_
   refine V.call en52 (V.args1 rfl) (Calls.mono (RFromInt (vv := 1) (by decide)) ?_)
   rintro e W' ⟨A8, c9, rfl, k10, hb⟩
   exact ⟨_, rfl, ⟨A8, c9, rfl, k10⟩, hb⟩
  ·refine V.s2 rfl fun f W h => ?_
   obtain ⟨A5, c6, a4, k1_0⟩ := V.dp h 1 4 (by kernel_rfl) rfl
   obtain ⟨A8, c9, a5, k2_0⟩ := V.dp h 2 5 (by kernel_rfl) rfl
   exact V.v2 (.agg #[.bool false, Vs A5 vv c6, .bool false, Vs A8 1 c9]) (V.b2 (V.ev_tmp rfl a4) (V.ev_tmp rfl a5)) ⟨A5, c6, A8, c9, rfl, k1_0, k2_0⟩
 intro f15 W16 e17
 clear hb bg1
 obtain ⟨⟨hb, bg1⟩, z_⟩ := e17.g
 obtain ⟨s0, s2⟩ := V.e2 e17 s0 s2
 obtain ⟨A11, c12, A13, c14, s6, r18, r19⟩ := V.eq e17 3 6 rfl
 clear e17 z_
 refine V.tsr (k := 4) rfl s2 s6 bg1 fun W20 hs b' => ?_
 replace hb := hs.bel hb mg1
 replace r18 := hs.r16 r18
 replace r19 := hs.r16 r19
 replace bg1 := b'
 clear hs b'
 refine V.t_done rfl (V.nx (V.ret ?_))
 refine V.leave_any (.inl rfl) (V.res_cell rfl rfl s2 (V.lr bg1 Tryz.underlying39 rfl (by kernel_rfl))) ?_
 have en : Q.neg ((vv : Nat) : Rat) = false := by rw [show ((vv : Nat) : Rat) = ((vv : Int) : Rat) from rfl, Q.int_neg]; exact decide_eq_false (by omega)
 have em : Q.m ((vv : Nat) : Rat) = vv := by rw [show ((vv : Nat) : Rat) = ((vv : Int) : Rat) from rfl, Q.int_m]; rfl
 have ed : ((vv : Nat) : Rat).den = 1 := Q.int_den (vv : Int)
 refine ⟨⟨A11, c12, A13, c14, ((vv : Nat) : Rat)⟩, ?_, ⟨?_, ?_⟩, rfl, hb⟩
 ·simp only [en, em, ed]
 ·simp only [em]; exact r18
 ·simp only [ed]; exact r19
theorem en17 : En 17 := en_ Tryz.func17
def Three (l : List Cl) : Prop := ∃ x y z : Fr, l = [⟨1, x, 100⟩, ⟨2, y, 10⟩, ⟨5, z, 100⟩] ∧ x.q = ((1 : Nat) : Rat) ∧ y.q = ((1 : Nat) : Rat) ∧ z.q = ((2 : Nat) : Rat)
theorem three_s {w : World} :
    Calls Tryz.prog 35 #[] w fun e w' => ∃ (g : Nat) (l : List Cl), e = .returned (.slice (some ⟨g, 0, none⟩) 3 3) ∧ Ls w' 6 (some ⟨g, 0, none⟩) (l.map Cl.cells).length 3 (l.map Cl.cells) ∧ (∀ x ∈ l, Fr.ok w' x.w) ∧ Three l ∧ Below w.heap.size w w' := by
 refine V.nt Tryz.func35 rfl rfl fun f0 hf => ?_
 clear hf
 have hb := Below.refl w.heap.size w
 refine V.seq ?_
 refine V.reg 1 [V.E (.slice none 0 0)] [] hb ?_ ?_
 ·refine V.ac ?_ V.an
  ·exact V.z1 rfl fun h => V.xs rfl
 intro f1 W2 e3
 clear hb
 obtain ⟨hb, z_⟩ := e3.g
 have s0 := V.es e3 0 0 rfl
 clear e3 z_
 refine V.t_done rfl (V.nx (V.seq ?_))
 refine V.reg 1 [V.E (.func (.func 17) #[] #[])] [] hb ?_ ?_
 ·refine V.ac ?_ V.an
  ·exact V.z1 rfl fun h => V.xs rfl
 intro f4 W5 e6
 clear hb
 obtain ⟨hb, z_⟩ := e6.g
 replace s0 := V.e1 e6 s0
 have s1 := V.es e6 0 1 rfl
 clear e6 z_
 refine V.t_done rfl (V.nx (V.seq ?_))
 refine V.reg 11 [V.E (.func (.func 17) #[] #[]), (fun v W => ∃ z7 : Fr, v = z7.v ∧ Fr.ok W z7 ∧ (z7.q = ((1 : Nat) : Rat))), (fun v W => ∃ z10 : Fr, v = .agg #[.int .i64 1, .bool (Q.neg z10.q), Vs z10.A (Q.m z10.q) z10.c, .bool false, Vs z10.A' z10.q.den z10.c', .int .i64 100] ∧ Fr.ok W z10 ∧ (z10.q = ((1 : Nat) : Rat))), V.E (.func (.func 17) #[] #[]), (fun v W => ∃ z11 : Fr, v = z11.v ∧ Fr.ok W z11 ∧ (z11.q = ((1 : Nat) : Rat))), (fun v W => ∃ z14 : Fr, v = .agg #[.int .i64 2, .bool (Q.neg z14.q), Vs z14.A (Q.m z14.q) z14.c, .bool false, Vs z14.A' z14.q.den z14.c', .int .i64 10] ∧ Fr.ok W z14 ∧ (z14.q = ((1 : Nat) : Rat))), V.E (.func (.func 17) #[] #[]), (fun v W => ∃ z15 : Fr, v = z15.v ∧ Fr.ok W z15 ∧ (z15.q = ((2 : Nat) : Rat))), (fun v W => ∃ z18 : Fr, v = .agg #[.int .i64 5, .bool (Q.neg z18.q), Vs z18.A (Q.m z18.q) z18.c, .bool false, Vs z18.A' z18.q.den z18.c', .int .i64 100] ∧ Fr.ok W z18 ∧ (z18.q = ((2 : Nat) : Rat))), (fun v W => ∃ g20 : Nat, ∃ z21 : Fr, ∃ z22 : Fr, ∃ z23 : Fr, v = .slice (some ⟨g20, 0, none⟩) 3 3 ∧ Blk W g20 50 #[.int .i64 1, .bool (Q.neg z21.q), Vs z21.A (Q.m z21.q) z21.c, .bool false, Vs z21.A' z21.q.den z21.c', .int .i64 100, .int .i64 2, .bool (Q.neg z22.q), Vs z22.A (Q.m z22.q) z22.c, .bool false, Vs z22.A' z22.q.den z22.c', .int .i64 10, .int .i64 5, .bool (Q.neg z23.q), Vs z23.A (Q.m z23.q) z23.c, .bool false, Vs z23.A' z23.q.den z23.c', .int .i64 100] ∧ Fr.ok W z21 ∧ Fr.ok W z22 ∧ Fr.ok W z23 ∧ (w.heap.size ≤ g20) ∧ (z21.q = ((1 : Nat) : Rat)) ∧ (z22.q = ((1 : Nat) : Rat)) ∧ (z23.q = ((2 : Nat) : Rat))), (fun v W => ∃ g24 : Nat, ∃ z25 : Fr, ∃ z26 : Fr, ∃ z27 : Fr, v = .slice (some ⟨g24, 0, none⟩) 3 3 ∧ Blk W g24 50 #[.int .i64 1, .bool (Q.neg z25.q), Vs z25.A (Q.m z25.q) z25.c, .bool false, Vs z25.A' z25.q.den z25.c', .int .i64 100, .int .i64 2, .bool (Q.neg z26.q), Vs z26.A (Q.m z26.q) z26.c, .bool false, Vs z26.A' z26.q.den z26.c', .int .i64 10, .int .i64 5, .bool (Q.neg z27.q), Vs z27.A (Q.m z27.q) z27.c, .bool false, Vs z27.A' z27.q.den z27.c', .int .i64 100] ∧ Fr.ok W z25 ∧ Fr.ok W z26 ∧ Fr.ok W z27 ∧ (w.heap.size ≤ g24) ∧ (z25.q = ((1 : Nat) : Rat)) ∧ (z26.q = ((1 : Nat) : Rat)) ∧ (z27.q = ((2 : Nat) : Rat)))] [] hb ?_ ?_
 ·refine V.b8 ?_ ?_ ?_ ?_ ?_ ?_ ?_ ?_ (V.a3 ?_ ?_ ?_)
  ·exact V.mo rfl 1 s1
  ·refine V.s2 rfl fun f W h => ?_
   refine V.callv (V.ed h 0 2 rfl) en17 (V.args1 rfl) (Calls.mono (RFrom (vv := 1) (by decide)) ?_)
   rintro e W' ⟨z7, rfl, k8, e9, hb⟩
   exact ⟨_, rfl, ⟨z7, rfl, k8, e9⟩, hb⟩
  ·refine V.s2 rfl fun f W h => ?_
   obtain ⟨z7, a3, k1_0, p1_0⟩ := V.dp h 1 3 (by kernel_rfl) rfl
   exact V.v2 (.agg #[.int .i64 1, .bool (Q.neg z7.q), Vs z7.A (Q.m z7.q) z7.c, .bool false, Vs z7.A' z7.q.den z7.c', .int .i64 100]) (V.b3 rfl (V.ev_tmp rfl a3) rfl) ⟨z7, rfl, k1_0, p1_0⟩
  ·exact V.mo rfl 1 s1
  ·refine V.s2 rfl fun f W h => ?_
   refine V.callv (V.ed h 3 5 rfl) en17 (V.args1 rfl) (Calls.mono (RFrom (vv := 1) (by decide)) ?_)
   rintro e W' ⟨z11, rfl, k12, e13, hb⟩
   exact ⟨_, rfl, ⟨z11, rfl, k12, e13⟩, hb⟩
  ·refine V.s2 rfl fun f W h => ?_
   obtain ⟨z11, a6, k4_0, p4_0⟩ := V.dp h 4 6 (by kernel_rfl) rfl
   exact V.v2 (.agg #[.int .i64 2, .bool (Q.neg z11.q), Vs z11.A (Q.m z11.q) z11.c, .bool false, Vs z11.A' z11.q.den z11.c', .int .i64 10]) (V.b3 rfl (V.ev_tmp rfl a6) rfl) ⟨z11, rfl, k4_0, p4_0⟩
  ·exact V.mo rfl 1 s1
  ·refine V.s2 rfl fun f W h => ?_
   refine V.callv (V.ed h 6 8 rfl) en17 (V.args1 rfl) (Calls.mono (RFrom (vv := 2) (by decide)) ?_)
   rintro e W' ⟨z15, rfl, k16, e17, hb⟩
   exact ⟨_, rfl, ⟨z15, rfl, k16, e17⟩, hb⟩
  ·refine V.s2 rfl fun f W h => ?_
   obtain ⟨z15, a9, k7_0, p7_0⟩ := V.dp h 7 9 (by kernel_rfl) rfl
   exact V.v2 (.agg #[.int .i64 5, .bool (Q.neg z15.q), Vs z15.A (Q.m z15.q) z15.c, .bool false, Vs z15.A' z15.q.den z15.c', .int .i64 100]) (V.b3 rfl (V.ev_tmp rfl a9) rfl) ⟨z15, rfl, k7_0, p7_0⟩
  ·refine V.s2 rfl fun f W h => ?_
   obtain ⟨z10, a4, k2_0, p2_0⟩ := V.dp h 2 4 (by kernel_rfl) rfl
   obtain ⟨z14, a7, k5_0, p5_0⟩ := V.dp h 5 7 (by kernel_rfl) rfl
   obtain ⟨z18, a10, k8_0, p8_0⟩ := V.dp h 8 10 (by kernel_rfl) rfl
   exact V.valv (.slice (some ⟨W.heap.size, 0, none⟩) 3 3) (V.c3 (V.ev_tmp rfl a4) (V.ev_tmp rfl a7) (V.ev_tmp rfl a10)) ⟨⟨W.heap.size, z10, z14, z18, rfl, Blk.new W 50 #[.int .i64 1, .bool (Q.neg z10.q), Vs z10.A (Q.m z10.q) z10.c, .bool false, Vs z10.A' z10.q.den z10.c', .int .i64 100, .int .i64 2, .bool (Q.neg z14.q), Vs z14.A (Q.m z14.q) z14.c, .bool false, Vs z14.A' z14.q.den z14.c', .int .i64 10, .int .i64 5, .bool (Q.neg z18.q), Vs z18.A (Q.m z18.q) z18.c, .bool false, Vs z18.A' z18.q.den z18.c', .int .i64 100], (V.Stb.fr _ _ k2_0 ((Below.refl _ _).alloc (Nat.le_refl _) _)), (V.Stb.fr _ _ k5_0 ((Below.refl _ _).alloc (Nat.le_refl _) _)), (V.Stb.fr _ _ k8_0 ((Below.refl _ _).alloc (Nat.le_refl _) _)), h.g.1.size, p2_0, p5_0, p8_0⟩, (Below.refl _ _).alloc (Nat.le_refl _) _⟩
  ·refine V.s2 rfl fun f W h => ?_
   obtain ⟨g20, z21, z22, z23, a11, k9_0, k9_1, k9_2, k9_3, p9_0, p9_1, p9_2, p9_3⟩ := V.dp h 9 11 (by kernel_rfl) rfl
   exact V.v2 (.slice (some ⟨g20, 0, none⟩) 3 3) (V.xs (V.ev_tmp rfl a11)) ⟨g20, z21, z22, z23, rfl, k9_0, k9_1, k9_2, k9_3, p9_0, p9_1, p9_2, p9_3⟩
 intro f28 W29 e30
 clear hb
 obtain ⟨hb, z_⟩ := e30.g
 obtain ⟨g24, z25, z26, z27, s0, r31, r32, r33, r34, n35, n36, n37, n38⟩ := V.eq e30 10 0 rfl
 clear e30 z_
 refine V.t_done rfl (V.nx (V.ret ?_))
 refine V.leave_any (.inl rfl) (V.res_tmp rfl rfl s0) ?_
 have ho : Own W29 g24 50 6 (([⟨1, z25, 100⟩, ⟨2, z26, 10⟩, ⟨5, z27, 100⟩] : List Cl).map Cl.cells) [] := ⟨r31, by simp⟩
 exact ⟨g24, [⟨1, z25, 100⟩, ⟨2, z26, 10⟩, ⟨5, z27, 100⟩], rfl, ho.ls (by simp) (by simp), fun x hx => by simp at hx; rcases hx with rfl | rfl | rfl <;> assumption, ⟨_, _, _, rfl, n36, n37, n38⟩, hb⟩
theorem R16.ls {W : World} {A : Option Addr} {n c : Nat} {xs : List Nat} (h : R16 W A n c xs) : Ls W 1 A n c (xs.map U16) := by
 have hl := h.len
 refine ⟨by rw [List.length_map]; exact hl, h.cap, h.max, fun hn => ?_, fun hn => ?_, fun i x j u hx hu => ?_⟩
 ·obtain ⟨ad, e, _⟩ := h.some hn
  rw [e]; rfl
 ·obtain ⟨ad, e, hc⟩ := h.some hn
  rw [e]
  have := block_lt_of_cell (hc 0 hn)
  rwa [block_of_add] at this
 ·rw [List.getElem?_map] at hx
  obtain ⟨a, ha, rfl⟩ := Option.map_eq_some_iff.1 hx
  have hi := (List.getElem?_eq_some_iff.1 ha).1
  obtain ⟨ad, e, hc⟩ := h.some (by omega)
  have hj : j = 0 := by have := (List.getElem?_eq_some_iff.1 hu).1; simpa using this
  subst hj
  have hu' : u = .int .u16 (a : Int) := by simpa using hu.symm
  have := hc i (by omega)
  rw [ha] at this
  rw [e, hu', Nat.mul_one, Nat.add_zero]
  exact this
theorem RSame {A B : Option Addr} {c d : Nat} {n0 n1 : Bool} {xs ys : List Nat} {w : World} (hl : Ls w 1 A xs.length c (xs.map U16)) (hm : Ls w 1 B ys.length d (ys.map U16)) :
    Calls Tryz.prog 78 #[.agg #[.bool n0, .slice A xs.length c], .agg #[.bool n1, .slice B ys.length d]] w fun e w' => e = .returned (.bool (decide (n0 = n1 ∧ xs = ys))) ∧ Below w.heap.size w w' := by
 have hmx : xs.length ≤ 9223372036854775807 := Nat.le_trans hl.cap hl.max
 refine V.nt Tryz.func78 rfl rfl fun f0 hf => ?_
 have s0 : f0 0 = .agg #[.bool n0, .slice A xs.length c] := hf 0 (by simp)
 have s1 : f0 1 = .agg #[.bool n1, .slice B ys.length d] := hf 1 (by simp)
 clear hf
 have hb := Below.refl w.heap.size w
 refine V.seq ?_
 refine V.reg 3 [V.Nb w 35 #[.bool n0, .slice A xs.length c], V.Nb w 35 #[.bool n1, .slice B ys.length d], V.E (.bool false)] [0, 1] (V.i hl (V.i hm hb)) ?_ ?_
 ·refine V.a3 ?_ ?_ ?_
  ·exact V.sn rfl fun f W h => V.x_box (V.eo h 0 s0)
  ·exact V.sn rfl fun f W h => V.x_box (V.eo h 1 s1)
  ·exact V.z1 rfl fun h => V.xs rfl
 have o_bel := hb.size
 have ob_hl := hl.blt
 have ob_hm := hm.blt
 intro f3 W4 e5
 clear hl hm hb
 obtain ⟨⟨hl, hm, hb⟩, z_⟩ := e5.g
 obtain ⟨s0, s1⟩ := V.e2 e5 s0 s1
 obtain ⟨g1, s2, bg1, lg1⟩ := V.eq e5 0 2 rfl
 obtain ⟨g2, s3, bg2, lg2⟩ := V.eq e5 1 3 rfl
 have s4 := V.es e5 2 4 rfl
 clear e5 z_
 clear o_bel ob_hl ob_hm
 refine V.t_done rfl (V.nx (V.seq (V.seq ?_)))
 refine V.reg 14 [V.E (Vp g1 0), V.E (.bool n0), V.E (Vp g2 0), V.E (.bool n1), V.E (.bool (n0 != n1)), V.E (.bool (n0 != n1)), (V.Gd (!(n0 != n1)) (V.E (Vp g1 1))), (V.Gd (!(n0 != n1)) (V.E (.slice A xs.length c))), (V.Gd (!(n0 != n1)) (V.E (.int .i64 (xs.length : Int)))), (V.Gd (!(n0 != n1)) (V.E (Vp g2 1))), (V.Gd (!(n0 != n1)) (V.E (.slice B ys.length d))), (V.Gd (!(n0 != n1)) (V.E (.int .i64 (ys.length : Int)))), (V.Gd (!(n0 != n1)) (V.E (.bool ((xs.length : Int) != (ys.length : Int))))), V.E (.bool ((n0 != n1) || ((xs.length : Int) != (ys.length : Int))))] [] (V.i hl (V.i hm (V.i hb (V.i bg1 bg2)))) ?_ ?_
 ·refine V.b8 ?_ ?_ ?_ ?_ ?_ ?_ ?_ ?_ (V.a6 ?_ ?_ ?_ ?_ ?_ ?_)
  ·exact V.z1 rfl fun h => V.xa (V.eo h 2 s2)
  ·exact V.z1 rfl fun h => V.xl (V.ed h 0 6 rfl) (V.lo h.g.1.2.2.2.1 rfl)
  ·exact V.z1 rfl fun h => V.xa (V.eo h 3 s3)
  ·exact V.z1 rfl fun h => V.xl (V.ed h 2 8 rfl) (V.lo h.g.1.2.2.2.2 rfl)
  ·exact V.z1 rfl fun h => V.xb (V.ed h 1 7 rfl) (V.ed h 3 9 rfl)
  ·exact V.me rfl 4 10 rfl
  ·exact V.gf 5 11 rfl rfl fun hp f W h => V.v1 (V.xa (V.eo h 2 s2))
  ·exact V.gf 5 11 rfl rfl fun hp f W h => V.v1 (V.xl (V.eg h 6 12 rfl hp) (V.lo h.g.1.2.2.2.1 rfl))
  ·exact V.gf 5 11 rfl rfl fun hp f W h => V.v1 (V.x_len (V.eg h 7 13 rfl hp))
  ·exact V.gf 5 11 rfl rfl fun hp f W h => V.v1 (V.xa (V.eo h 3 s3))
  ·exact V.gf 5 11 rfl rfl fun hp f W h => V.v1 (V.xl (V.eg h 9 15 rfl hp) (V.lo h.g.1.2.2.2.2 rfl))
  ·exact V.gf 5 11 rfl rfl fun hp f W h => V.v1 (V.x_len (V.eg h 10 16 rfl hp))
  ·exact V.gf 5 11 rfl rfl fun hp f W h => V.v1 (V.xb (V.eg h 8 14 rfl hp) (V.eg h 11 17 rfl hp))
  ·refine V.s1 rfl fun f W h => ?_
   have d18 := V.dp h 12 18 (by kernel_rfl) rfl
   exact V.x_or (V.ed h 5 11 rfl) rfl (fun e => V.ev_tmp rfl (V.gd_on d18 (V.not_t e)))
 intro f6 W7 e8
 clear hl hm hb bg1 bg2
 obtain ⟨⟨hl, hm, hb, bg1, bg2⟩, z_⟩ := e8.g
 obtain ⟨s0, s1, s2, s3, s4⟩ := V.e5 e8 s0 s1 s2 s3 s4
 have s19 := V.es e8 13 19 rfl
 clear e8 z_
 refine V.t_done rfl (V.nx ?_)
 cases hc9 : ((n0 != n1) || ((xs.length : Int) != (ys.length : Int)))
 ·have s19_ : f6 19 = .bool false := s19.trans (by rw [hc9])
  refine V.cond_f (V.ev_tmp rfl s19_) ?_
  have hne := hc9
  obtain ⟨hn0, hle⟩ : n0 = n1 ∧ xs.length = ys.length := by simp at hne; exact ⟨hne.1, by omega⟩
  refine V.skip ?_
  refine V.nx (V.seq (V.seq ?_))
  refine V.reg 1 [V.E (.int .i64 0)] [] (V.i hl (V.i hm (V.i hb (V.i bg1 bg2)))) ?_ ?_
  ·refine V.ac ?_ V.an
   ·exact V.z1 rfl fun h => V.xs rfl
  intro f10 W11 e12
  clear hl hm hb bg1 bg2
  obtain ⟨⟨hl, hm, hb, bg1, bg2⟩, z_⟩ := e12.g
  obtain ⟨s0, s1, s2, s3, s4⟩ := V.e5 e12 s0 s1 s2 s3 s4
  have s5 := V.es e12 0 5 rfl
  clear e12 z_
  refine V.t_done rfl (V.nx (V.block ?_))
  refine V.loop (fun k f W => ∃ i : Nat, (k = xs.length - i ∧ (i ≤ xs.length) ∧ (xs.take i = ys.take i)) ∧ (f 2 = Vp g1 0 ∧ f 3 = Vp g2 0 ∧ f 5 = .int .i64 (i : Int)) ∧ (Below w.heap.size w W ∧ Ls W 1 A xs.length c (xs.map U16) ∧ Ls W 1 B ys.length d (ys.map U16) ∧ Blk W g1 35 #[.bool n0, .slice A xs.length c] ∧ Blk W g2 35 #[.bool n1, .slice B ys.length d])) (xs.length - 0) ⟨0, ⟨rfl, by omega, by simp⟩, ⟨s2, s3, (s5.trans (by simp))⟩, ⟨hb, hl, hm, bg1, bg2⟩⟩ ?_
  clear hl hm hb bg1 bg2 s0 s1 s2 s3 s4 s5
  rintro k15 f13 W14 ⟨i, ⟨hk21, hil, hq⟩, ⟨s2, s3, s5⟩, ⟨r16, r17, r18, r19, r20⟩⟩
  refine V.seq (V.seq ?_)
  refine V.reg 5 [V.E (.int .i64 (i : Int)), V.E (Vp g1 1), V.E (.slice A xs.length c), V.E (.int .i64 (xs.length : Int)), V.E (.bool (decide ((i : Int) < (xs.length : Int))))] [] (V.i r16 (V.i r17 (V.i r18 (V.i r19 r20)))) ?_ ?_
  ·refine V.a5 ?_ ?_ ?_ ?_ ?_
   ·exact V.mo rfl 5 s5
   ·exact V.z1 rfl fun h => V.xa (V.eo h 2 s2)
   ·exact V.z1 rfl fun h => V.xl (V.ed h 1 21 rfl) (V.lo h.g.1.2.2.2.1 rfl)
   ·exact V.z1 rfl fun h => V.x_len (V.ed h 2 22 rfl)
   ·exact V.z1 rfl fun h => V.xb (V.ed h 0 20 rfl) (V.ed h 3 23 rfl)
  intro f22 W23 e24
  clear r16 r17 r18 r19 r20
  obtain ⟨⟨r16, r17, r18, r19, r20⟩, z_⟩ := e24.g
  obtain ⟨s2, s3, s5⟩ := V.e3 e24 s2 s3 s5
  have s24 := V.es e24 4 24 rfl
  clear e24 z_
  refine V.t_done rfl (V.nx ?_)
  cases hc25 : (decide ((i : Int) < (xs.length : Int)))
  ·have s24_ : f22 24 = .bool false := s24.trans (by rw [hc25])
   refine V.cond_f (V.ev_tmp rfl s24_) ?_
   have hi : i = xs.length := by have := of_decide_eq_false hc25; omega
   refine V.exit (V.tx (V.tx (V.bx (V.nx (V.seq ?_)))))
   refine V.reg 1 [V.E (.bool true)] [] (V.i r16 (V.i r17 (V.i r18 (V.i r19 r20)))) ?_ ?_
   ·refine V.ac ?_ V.an
    ·exact V.z1 rfl fun h => V.xs rfl
   intro f26 W27 e28
   clear r16 r17 r18 r19 r20
   obtain ⟨⟨r16, r17, r18, r19, r20⟩, z_⟩ := e28.g
   have s4 := V.es e28 0 4 rfl
   clear e28 z_
   refine V.t_done rfl (V.nx (V.ret ?_))
   refine V.leave_any (.inl rfl) (V.res_tmp rfl rfl s4) ?_
   exact ⟨by rw [show decide (n0 = n1 ∧ xs = ys) = true from by rw [decide_eq_true]; rw [hi, List.take_length, hle, List.take_length] at hq; exact ⟨hn0, hq⟩], r16⟩
  ·have s24_ : f22 24 = .bool true := s24.trans (by rw [hc25])
   refine V.cond_t (V.ev_tmp rfl s24_) ?_
   have hi : i < xs.length := by have := of_decide_eq_true hc25; omega
   obtain ⟨p, mp, ex, ex_⟩ := V.at_map U16 (l := xs) (i := i) hi
   obtain ⟨q, mq, ey, ey_⟩ := V.at_map U16 (l := ys) (i := i) (by omega)
   refine V.skip ?_
   refine V.nx (V.seq (V.block (V.seq ?_)))
   refine V.reg 11 [V.E (Vp g1 1), V.E (.slice A xs.length c), V.E (.int .i64 (i : Int)), V.E (.pointer (some ((adr A).add (i * 1 + 0)))), V.E (.int .u16 (p : Int)), V.E (Vp g2 1), V.E (.slice B ys.length d), V.E (.int .i64 (i : Int)), V.E (.pointer (some ((adr B).add (i * 1 + 0)))), V.E (.int .u16 (q : Int)), V.E (.bool ((p : Int) != (q : Int)))] [] (V.i r16 (V.i r17 (V.i r18 (V.i r19 r20)))) ?_ ?_
   ·refine V.b8 ?_ ?_ ?_ ?_ ?_ ?_ ?_ ?_ (V.a3 ?_ ?_ ?_)
    ·exact V.z1 rfl fun h => V.xa (V.eo h 2 s2)
    ·exact V.z1 rfl fun h => V.xl (V.ed h 0 27 rfl) (V.lo h.g.1.2.2.2.1 rfl)
    ·exact V.mo rfl 5 s5
    ·exact V.z1 rfl fun h => V.xi (i := i) h.g.1.2.1 ex_ (V.ed h 1 28 rfl) (V.ed h 2 29 rfl)
    ·exact V.z1 rfl fun h => V.xl (V.ed h 3 30 rfl) (V.ld_ls1 (i := i) (o := 0) h.g.1.2.1 ex_ rfl)
    ·exact V.z1 rfl fun h => V.xa (V.eo h 3 s3)
    ·exact V.z1 rfl fun h => V.xl (V.ed h 5 32 rfl) (V.lo h.g.1.2.2.2.2 rfl)
    ·exact V.mo rfl 5 s5
    ·exact V.z1 rfl fun h => V.xi (i := i) h.g.1.2.2.1 ey_ (V.ed h 6 33 rfl) (V.ed h 7 34 rfl)
    ·exact V.z1 rfl fun h => V.xl (V.ed h 8 35 rfl) (V.ld_ls1 (i := i) (o := 0) h.g.1.2.2.1 ey_ rfl)
    ·exact V.z1 rfl fun h => V.xb (V.ed h 4 31 rfl) (V.ed h 9 36 rfl)
   intro f29 W30 e31
   clear r16 r17 r18 r19 r20
   obtain ⟨⟨r16, r17, r18, r19, r20⟩, z_⟩ := e31.g
   obtain ⟨s2, s3, s5⟩ := V.e3 e31 s2 s3 s5
   have s37 := V.es e31 10 37 rfl
   clear e31 z_
   refine V.t_done rfl (V.nx ?_)
   cases hc32 : ((p : Int) != (q : Int))
   ·have s37_ : f29 37 = .bool false := s37.trans (by rw [hc32])
    refine V.cond_f (V.ev_tmp rfl s37_) ?_
    have hxy := hc32
    refine V.skip ?_
    refine V.bn (V.nx ?_)
    refine V.reg 3 [V.E (.int .i64 (i : Int)), V.E (.int .i64 ((i : Int) + 1)), V.E (.int .i64 ((i : Int) + 1))] [] (V.i r16 (V.i r17 (V.i r18 (V.i r19 r20)))) ?_ ?_
    ·refine V.a3 ?_ ?_ ?_
     ·exact V.mo rfl 5 s5
     ·refine V.s1 rfl fun f W h => ?_
      have hw33 : IntKind.i64.wrap ((i : Int) + 1) = (i : Int) + 1 := by exact IntWalk.i64_in _ (by omega)
      exact V.xb (V.ed h 0 25 rfl) rfl ((by kernel_rfl : _ = Result.ok (.int .i64 (IntKind.i64.wrap ((i : Int) + 1))) _).trans (by rw [hw33]))
     ·exact V.se rfl 1 26 rfl
    intro f34 W35 e36
    clear r16 r17 r18 r19 r20
    obtain ⟨⟨r16, r17, r18, r19, r20⟩, z_⟩ := e36.g
    obtain ⟨s2, s3⟩ := V.e2 e36 s2 s3
    have s5 := V.es e36 2 5 rfl
    clear e36 z_
    refine V.t_done rfl ?_
    refine V.handed (xs.length - (i + 1)) (by have := hk21; omega) ⟨(i + 1), ⟨rfl, by omega, by rw [List.take_add_one, List.take_add_one, hq, ex, ey, show p = q by simp at hxy; omega]⟩, ⟨s2, s3, (s5.trans (by simp))⟩, ⟨r16, r17, r18, r19, r20⟩⟩
   ·have s37_ : f29 37 = .bool true := s37.trans (by rw [hc32])
    refine V.cond_t (V.ev_tmp rfl s37_) ?_
    have hxy := hc32
    refine V.seq ?_
    refine V.reg 1 [V.E (.bool false)] [] (V.i r16 (V.i r17 (V.i r18 (V.i r19 r20)))) ?_ ?_
    ·refine V.ac ?_ V.an
     ·exact V.z1 rfl fun h => V.xs rfl
    intro f37 W38 e39
    clear r16 r17 r18 r19 r20
    obtain ⟨⟨r16, r17, r18, r19, r20⟩, z_⟩ := e39.g
    obtain ⟨s2, s3, s5⟩ := V.e3 e39 s2 s3 s5
    have s4 := V.es e39 0 4 rfl
    clear e39 z_
    refine V.t_done rfl (V.nx (V.ret (V.br (V.tr (V.tr (V.br (V.tr ?_)))))))
    refine V.leave_any (.inl rfl) (V.res_tmp rfl rfl s4) ?_
    exact ⟨by rw [show decide (n0 = n1 ∧ xs = ys) = false from by rw [decide_eq_false]; rintro ⟨_, e⟩; rw [e, ey] at ex; cases ex; simp at hxy], r16⟩
 ·have s19_ : f6 19 = .bool true := s19.trans (by rw [hc9])
  refine V.cond_t (V.ev_tmp rfl s19_) ?_
  have hne := hc9
  refine V.seq ?_
  refine V.reg 1 [V.E (.bool false)] [] (V.i hl (V.i hm (V.i hb (V.i bg1 bg2)))) ?_ ?_
  ·refine V.ac ?_ V.an
   ·exact V.z1 rfl fun h => V.xs rfl
  intro f40 W41 e42
  clear hl hm hb bg1 bg2
  obtain ⟨⟨hl, hm, hb, bg1, bg2⟩, z_⟩ := e42.g
  obtain ⟨s0, s1, s2, s3⟩ := V.e4 e42 s0 s1 s2 s3
  have s4 := V.es e42 0 4 rfl
  clear e42 z_
  refine V.t_done rfl (V.nx (V.ret (V.tr ?_)))
  refine V.leave_any (.inl rfl) (V.res_tmp rfl rfl s4) ?_
  exact ⟨by rw [show decide (n0 = n1 ∧ xs = ys) = false from by rw [decide_eq_false]; rintro ⟨e1, e2⟩; rw [e1, e2] at hne; simp at hne], hb⟩
theorem en78 : En 78 := en_ Tryz.func78
theorem same_q (p q : Rat) : (decide ((Q.neg p) = (Q.neg q) ∧ (Lb.limbs (Q.m p)) = (Lb.limbs (Q.m q))) && decide (false = false ∧ (Lb.limbs p.den) = (Lb.limbs q.den))) = decide (p = q) := by
  rw [← Bool.decide_and, decide_eq_decide]
  constructor
  · rintro ⟨⟨h1, h2⟩, _, h3⟩
    have h2 := Lb.limbs_inj h2
    have h3 := Lb.limbs_inj h3
    have hn : p.num = q.num := by rw [← Q.sgn_num p, ← Q.sgn_num q, h1, h2]
    exact Rat.ext hn h3
  · rintro rfl; simp
theorem RSame_s {x y : Fr} {w : World} (hx : Fr.ok w x) (hy : Fr.ok w y) :
    Calls Tryz.prog 37 #[x.v, y.v] w fun e w' => e = .returned (.bool (decide (x.q = y.q))) ∧ Below w.heap.size w w' := by
 refine V.nt Tryz.func37 rfl rfl fun f0 hf => ?_
 have s0 : f0 0 = x.v := hf 0 (by simp)
 have s1 : f0 1 = y.v := hf 1 (by simp)
 clear hf
 have hb := Below.refl w.heap.size w
 refine V.seq ?_
 refine V.reg 3 [V.Nb w 39 x.cs, V.Nb w 39 y.cs, V.E (.bool false)] [0, 1] (V.i hx (V.i hy hb)) ?_ ?_
 ·refine V.a3 ?_ ?_ ?_
  ·exact V.sn rfl fun f W h => V.x_box (V.eo h 0 s0)
  ·exact V.sn rfl fun f W h => V.x_box (V.eo h 1 s1)
  ·exact V.z1 rfl fun h => V.xs rfl
 have o_bel := hb.size
 intro f3 W4 e5
 clear hx hy hb
 obtain ⟨⟨hx, hy, hb⟩, z_⟩ := e5.g
 obtain ⟨s0, s1⟩ := V.e2 e5 s0 s1
 obtain ⟨g1, s2, bg1, lg1⟩ := V.eq e5 0 2 rfl
 obtain ⟨g2, s3, bg2, lg2⟩ := V.eq e5 1 3 rfl
 have s4 := V.es e5 2 4 rfl
 clear e5 z_
 clear o_bel
 refine V.t_done rfl (V.nx (V.seq ?_))
 refine V.reg 13 [V.E (Vp g1 0), V.E (.agg #[.bool (Q.neg x.q), Vs x.A (Q.m x.q) x.c]), V.E (Vp g2 0), V.E (.agg #[.bool (Q.neg y.q), Vs y.A (Q.m y.q) y.c]), V.E (.bool (decide ((Q.neg x.q) = (Q.neg y.q) ∧ (Lb.limbs (Q.m x.q)) = (Lb.limbs (Q.m y.q))))), V.E (.bool (decide ((Q.neg x.q) = (Q.neg y.q) ∧ (Lb.limbs (Q.m x.q)) = (Lb.limbs (Q.m y.q))))), (V.Gd (decide ((Q.neg x.q) = (Q.neg y.q) ∧ (Lb.limbs (Q.m x.q)) = (Lb.limbs (Q.m y.q)))) (V.E (Vp g1 2))), (V.Gd (decide ((Q.neg x.q) = (Q.neg y.q) ∧ (Lb.limbs (Q.m x.q)) = (Lb.limbs (Q.m y.q)))) (V.E (.agg #[.bool false, Vs x.A' x.q.den x.c']))), (V.Gd (decide ((Q.neg x.q) = (Q.neg y.q) ∧ (Lb.limbs (Q.m x.q)) = (Lb.limbs (Q.m y.q)))) (V.E (Vp g2 2))), (V.Gd (decide ((Q.neg x.q) = (Q.neg y.q) ∧ (Lb.limbs (Q.m x.q)) = (Lb.limbs (Q.m y.q)))) (V.E (.agg #[.bool false, Vs y.A' y.q.den y.c']))), (V.Gd (decide ((Q.neg x.q) = (Q.neg y.q) ∧ (Lb.limbs (Q.m x.q)) = (Lb.limbs (Q.m y.q)))) (V.E (.bool (decide (false = false ∧ (Lb.limbs x.q.den) = (Lb.limbs y.q.den)))))), V.E (.bool ((decide ((Q.neg x.q) = (Q.neg y.q) ∧ (Lb.limbs (Q.m x.q)) = (Lb.limbs (Q.m y.q)))) && (decide (false = false ∧ (Lb.limbs x.q.den) = (Lb.limbs y.q.den))))), V.E (.bool ((decide ((Q.neg x.q) = (Q.neg y.q) ∧ (Lb.limbs (Q.m x.q)) = (Lb.limbs (Q.m y.q)))) && (decide (false = false ∧ (Lb.limbs x.q.den) = (Lb.limbs y.q.den)))))] [] (V.i hx (V.i hy (V.i hb (V.i bg1 bg2)))) ?_ ?_
 ·refine V.b8 ?_ ?_ ?_ ?_ ?_ ?_ ?_ ?_ (V.a5 ?_ ?_ ?_ ?_ ?_)
  ·exact V.z1 rfl fun h => V.xa (V.eo h 2 s2)
  ·exact V.z1 rfl fun h => V.xl (V.ed h 0 5 rfl) (V.ld_mid (xs := [.bool (Q.neg x.q), Vs x.A (Q.m x.q) x.c]) h.g.1.2.2.2.1 (by intro j hj; match j, hj with | 0, _ => rfl | 1, _ => rfl) Tryz.underlying35)
  ·exact V.z1 rfl fun h => V.xa (V.eo h 3 s3)
  ·exact V.z1 rfl fun h => V.xl (V.ed h 2 7 rfl) (V.ld_mid (xs := [.bool (Q.neg y.q), Vs y.A (Q.m y.q) y.c]) h.g.1.2.2.2.2 (by intro j hj; match j, hj with | 0, _ => rfl | 1, _ => rfl) Tryz.underlying35)
  ·refine V.s2 rfl fun f W h => ?_
   refine V.call en78 (V.args2 (V.ed h 1 6 rfl) (V.ed h 3 8 rfl)) (Calls.mono (RSame (R16.ls h.g.1.1.n) (R16.ls h.g.1.2.1.n)) ?_)
   rintro e W' ⟨rfl, hb⟩
   exact ⟨_, rfl, rfl, hb⟩
  ·exact V.me rfl 4 9 rfl
  ·exact V.gt 5 10 rfl rfl fun hp f W h => V.v1 (V.xa (V.eo h 2 s2))
  ·exact V.gt 5 10 rfl rfl fun hp f W h => V.v1 (V.xl (V.eg h 6 11 rfl hp) (V.ld_mid (xs := [.bool false, Vs x.A' x.q.den x.c']) h.g.1.2.2.2.1 (by intro j hj; match j, hj with | 0, _ => rfl | 1, _ => rfl) Tryz.underlying35))
  ·exact V.gt 5 10 rfl rfl fun hp f W h => V.v1 (V.xa (V.eo h 3 s3))
  ·exact V.gt 5 10 rfl rfl fun hp f W h => V.v1 (V.xl (V.eg h 8 13 rfl hp) (V.ld_mid (xs := [.bool false, Vs y.A' y.q.den y.c']) h.g.1.2.2.2.2 (by intro j hj; match j, hj with | 0, _ => rfl | 1, _ => rfl) Tryz.underlying35))
  ·refine V.gt 5 10 rfl rfl fun hp f W h => ?_
   refine V.call en78 (V.args2 (V.eg h 7 12 rfl hp) (V.eg h 9 14 rfl hp)) (Calls.mono (RSame (R16.ls h.g.1.1.d) (R16.ls h.g.1.2.1.d)) ?_)
   rintro e W' ⟨rfl, hb⟩
   exact ⟨_, rfl, rfl, hb⟩
  ·refine V.s1 rfl fun f W h => ?_
   have d15 := V.dp h 10 15 (by kernel_rfl) rfl
   exact V.x_and (V.ed h 5 10 rfl) (fun e => V.ev_tmp rfl (V.gd_on d15 e)) rfl
  ·exact V.se rfl 11 16 rfl
 intro f6 W7 e8
 clear hx hy hb bg1 bg2
 obtain ⟨⟨hx, hy, hb, bg1, bg2⟩, z_⟩ := e8.g
 obtain ⟨s0, s1⟩ := V.e2 e8 s0 s1
 have s4 := V.es e8 12 4 rfl
 clear e8 z_
 refine V.t_done rfl (V.nx (V.ret ?_))
 refine V.leave_any (.inl rfl) (V.res_tmp rfl rfl s4) ?_
 exact ⟨by rw [same_q], hb⟩
theorem V.x_sliceH {W : World} {ρ : Operand → Value} {d : Option Tmp} {ty : TypeId} {pos : String} {af : Array Edge} {gd : Option (Nat × Bool)} {x y : Operand} {A : Option Addr} {n c k : Nat} (hx : ρ x = .slice A n c) (hy : ρ y = .int .i64 (k : Int)) (h : k ≤ c) :
  (execOp ρ ⟨d, .slice 33 x none (some y) none, ty, pos, af, gd⟩).run Tryz.prog W = .ok (.value (.slice A k c)) W := by
 have e : (Instr.sliceAt 33 (.slice A n c) none (some (.int .i64 (k : Int))) none).run Tryz.prog W = .ok (.slice A k c) W := by
  cases A <;> go_simp
 simp [execOp, hx, hy, e]
theorem en170 : En 170 := en_ Tryz.func170
theorem Ls.r16 {W : World} {A : Option Addr} {n c : Nat} {xs : List Nat} (h : Ls W 1 A n c (xs.map U16)) (ho : Lb.Ok xs) : R16 W A n c xs := by
  have hl : xs.length = n := by have := h.len; simpa using this
  refine ⟨⟨by simp [hl], h.cap, h.max, fun hn => ⟨_, h.adr hn, fun j u hu => ?_⟩⟩, ho⟩
  rw [List.getElem?_map] at hu
  obtain ⟨a, ha, rfl⟩ := Option.map_eq_some_iff.1 hu
  have := h.cell j (U16 a) 0 (u16 a) (by rw [List.getElem?_map, ha]; rfl) rfl
  simpa using this
theorem Ls.one {W : World} {g : Nat} {T : TypeId} {v : Value} (h : Blk W g T #[v]) : Ls W 1 (some ⟨g, 0, none⟩) 1 1 [[v]] := by
  have ho : Own W g T 1 [[v]] [] := ⟨h, by simp⟩
  exact ho.ls (by simp) (by simp)
theorem Lb.trim_stop {xs : List Nat} {j x : Nat} (hj : 0 < j) (hx : xs[j - 1]? = some x) (h0 : x ≠ 0) : Lb.trim (xs.take j) = xs.take j := by
  have hl := (List.getElem?_eq_some_iff.1 hx).1
  have e := Lb.take_succ_getD xs (j - 1) hl
  rw [show j - 1 + 1 = j by omega, hx] at e
  rw [e]; exact Lb.norm_snoc h0
theorem Lb.trim_go {xs : List Nat} {j : Nat} (hj : 0 < j) (hx : xs[j - 1]? = some 0) : Lb.trim (xs.take j) = Lb.trim (xs.take (j - 1)) := by
  have hl := (List.getElem?_eq_some_iff.1 hx).1
  have e := Lb.take_succ_getD xs (j - 1) hl
  rw [show j - 1 + 1 = j by omega, hx] at e
  rw [e]; exact Lb.trim_snoc_zero _
theorem V.quoD {W : World} {T d q : Nat} {X : Int} {x y : Operand} (hX : X = (T : Int)) (hq : q = T / d) (hd : 0 < d) (hb : T < 4611686018427387904) : (do eqGuard .quo 3 x y (.int .i64 X) (.int .i64 (d : Int)); binOp .quo 3 (.int .i64 X) (.int .i64 (d : Int))).run Tryz.prog W = .ok (.int .i64 (q : Int)) W := by
  have h0 : ¬ (d = 0) := by omega
  have hle : q ≤ T := by rw [hq]; exact Nat.div_le_self _ _
  have e : IntKind.i64.wrap (X.tdiv (d : Int)) = (q : Int) := by
    rw [hX, Int.tdiv_eq_ediv_of_nonneg (by omega), show ((T : Int) / (d : Int)) = (q : Int) by rw [hq]; rfl]
    exact IntWalk.i64_in _ (by omega)
  simp [eqGuard_quo, binOp_quo, Op.intDiv, h0, e]
theorem V.remD {W : World} {T d q : Nat} {X : Int} {x y : Operand} (hX : X = (T : Int)) (hq : q = T % d) (hd : 0 < d) : (do eqGuard .rem 3 x y (.int .i64 X) (.int .i64 (d : Int)); binOp .rem 3 (.int .i64 X) (.int .i64 (d : Int))).run Tryz.prog W = .ok (.int .i64 (q : Int)) W := by
  have h0 : ¬ (d = 0) := by omega
  have e : X.tmod (d : Int) = (q : Int) := by
    rw [hX, Int.tmod_eq_emod_of_nonneg (by omega), hq]; rfl
  simp [binOp, eqGuard, Op.intDiv, h0, e]
theorem short_step {x V d : Nat} (hd : 0 < d) : (x + 65536 * V) / d = (V % d * 65536 + x) / d + 65536 * (V / d) ∧ (x + 65536 * V) % d = (V % d * 65536 + x) % d := by
  have e : x + 65536 * V = (V % d * 65536 + x) + d * (65536 * (V / d)) := by
    have h1 := Nat.div_add_mod V d
    have h2 : d * (65536 * (V / d)) = 65536 * (d * (V / d)) := by rw [← Nat.mul_assoc, Nat.mul_comm d 65536, Nat.mul_assoc]
    omega
  rw [e, Nat.add_mul_div_left _ _ hd, Nat.add_mul_mod_self_left]
  exact ⟨rfl, rfl⟩
theorem R16.take_trim {W : World} {A : Option Addr} {n c : Nat} {xs : List Nat} (h : R16 W A n c xs) : R16 W A (Lb.trim xs).length c (Lb.trim xs) := by
  have h1 := h.take (Lb.trim xs).length (by rw [← h.len]; exact Lb.trim_length_le xs)
  rwa [← Lb.trim_prefix] at h1
theorem RTrim {A : Option Addr} {c n : Nat} {xs : List Nat} {w : World} (hl : Ls w 1 A n c (xs.map U16)) (ho : Lb.Ok xs) :
    Calls Tryz.prog 170 #[.slice A n c] w fun e w' => e = .returned (.slice A (Lb.trim xs).length c) ∧ R16 w' A (Lb.trim xs).length c (Lb.trim xs) ∧ Below w.heap.size w w' := by
 have hnl : xs.length = n := by have := hl.len; simpa using this
 subst hnl
 have hmx : xs.length ≤ 9223372036854775807 := Nat.le_trans hl.cap hl.max
 have hcc := hl.cap
 refine V.nt Tryz.func170 rfl rfl fun f0 hf => ?_
 have s0 : f0 0 = .slice A xs.length c := hf 0 (by simp)
 clear hf
 have hb := Below.refl w.heap.size w
 refine V.seq ?_
 refine V.reg 1 [V.E (.slice none 0 0)] [] (V.i hl hb) ?_ ?_
 ·refine V.ac ?_ V.an
  ·exact V.z1 rfl fun h => V.xs rfl
 intro f1 W2 e3
 clear hl hb
 obtain ⟨⟨hl, hb⟩, z_⟩ := e3.g
 replace s0 := V.e1 e3 s0
 have s2 := V.es e3 0 2 rfl
 clear e3 z_
 refine V.t_done rfl (V.nx (V.seq ?_))
 refine V.reg 3 [V.E (.slice A xs.length c), V.E (.int .i64 (xs.length : Int)), V.E (.int .i64 (xs.length : Int))] [] (V.i hl hb) ?_ ?_
 ·refine V.a3 ?_ ?_ ?_
  ·exact V.mo rfl 0 s0
  ·exact V.z1 rfl fun h => V.x_len (V.ed h 0 4 rfl)
  ·exact V.se rfl 1 5 rfl
 intro f4 W5 e6
 clear hl hb
 obtain ⟨⟨hl, hb⟩, z_⟩ := e6.g
 obtain ⟨s0, s2⟩ := V.e2 e6 s0 s2
 have s3 := V.es e6 2 3 rfl
 clear e6 z_
 refine V.t_done rfl (V.nx (V.seq (V.block ?_)))
 refine V.loop (fun k f W => ∃ j : Nat, (k = j ∧ (j ≤ xs.length) ∧ (Lb.trim xs = Lb.trim (xs.take j))) ∧ (f 0 = .slice A xs.length c ∧ f 3 = .int .i64 (j : Int)) ∧ (Below w.heap.size w W ∧ Ls W 1 A xs.length c (xs.map U16))) (xs.length) ⟨xs.length, ⟨rfl, by omega, by rw [List.take_length]⟩, ⟨s0, s3⟩, ⟨hb, hl⟩⟩ ?_
 clear hl hb s0 s2 s3
 rintro k9 f7 W8 ⟨j, ⟨hk12, hjl, htr⟩, ⟨s0, s3⟩, ⟨r10, r11⟩⟩
 obtain ⟨x, hx⟩ : ∃ x, 0 < j → xs[j - 1]? = some x := by
  by_cases h0 : 0 < j
  ·exact ⟨_, fun _ => List.getElem?_eq_getElem (show j - 1 < xs.length by omega)⟩
  ·exact ⟨0, fun h => absurd h h0⟩
 have hxm : 0 < j → (xs.map U16)[j - 1]? = some (U16 x) := fun h => by rw [List.getElem?_map, hx h]; rfl
 refine V.seq (V.seq ?_)
 refine V.reg 10 [V.E (.int .i64 (j : Int)), V.E (.bool (decide (0 < (j : Int)))), V.E (.bool (decide (0 < (j : Int)))), (V.Gd (decide (0 < (j : Int))) (V.E (.slice A xs.length c))), (V.Gd (decide (0 < (j : Int))) (V.E (.int .i64 (j : Int)))), (V.Gd (decide (0 < (j : Int))) (V.E (.int .i64 ((j : Int) - 1)))), (V.Gd (decide (0 < (j : Int))) (V.E (.pointer (some ((adr A).add ((j - 1) * 1 + 0)))))), (V.Gd (decide (0 < (j : Int))) (V.E (.int .u16 (x : Int)))), (V.Gd (decide (0 < (j : Int))) (V.E (.bool ((x : Int) == (0 : Int))))), V.E (.bool ((decide (0 < (j : Int))) && ((x : Int) == (0 : Int))))] [] (V.i r10 r11) ?_ ?_
 ·refine V.b8 ?_ ?_ ?_ ?_ ?_ ?_ ?_ ?_ (V.a2 ?_ ?_)
  ·exact V.mo rfl 3 s3
  ·exact V.z1 rfl fun h => V.xb (V.ed h 0 6 rfl) rfl
  ·exact V.me rfl 1 7 rfl
  ·exact V.gt 2 8 rfl rfl fun hp f W h => V.v1 (V.xm (V.eo h 0 s0))
  ·exact V.gt 2 8 rfl rfl fun hp f W h => V.v1 (V.xm (V.eo h 3 s3))
  ·refine V.gt 2 8 rfl rfl fun hp f W h => ?_
   have hw13 : IntKind.i64.wrap ((j : Int) - 1) = (j : Int) - 1 := by exact IntWalk.i64_in _ (by omega)
   exact V.v2 (.int .i64 ((j : Int) - 1)) (V.xb (V.eg h 4 10 rfl hp) rfl ((by kernel_rfl : _ = Result.ok (.int .i64 (IntKind.i64.wrap ((j : Int) - 1))) _).trans (by rw [hw13]))) rfl
  ·exact V.gt 2 8 rfl rfl fun hp f W h => V.v1 (V.xi (i := (j - 1)) h.g.1.2 (hxm (by have := of_decide_eq_true hp; omega)) (V.eg h 3 9 rfl hp) ((V.eg h 5 11 rfl hp).trans (congrArg (Value.int .i64) (by have := of_decide_eq_true hp; omega))))
  ·exact V.gt 2 8 rfl rfl fun hp f W h => V.v1 (V.xl (V.eg h 6 12 rfl hp) (V.ld_ls1 (i := (j - 1)) (o := 0) h.g.1.2 (hxm (by have := of_decide_eq_true hp; omega)) rfl))
  ·exact V.gt 2 8 rfl rfl fun hp f W h => V.v1 (V.xb (V.eg h 7 13 rfl hp) rfl)
  ·refine V.s1 rfl fun f W h => ?_
   have d14 := V.dp h 8 14 (by kernel_rfl) rfl
   exact V.x_and (V.ed h 2 8 rfl) (fun e => V.ev_tmp rfl (V.gd_on d14 e)) rfl
 intro f14 W15 e16
 clear r10 r11
 obtain ⟨⟨r10, r11⟩, z_⟩ := e16.g
 obtain ⟨s0, s3⟩ := V.e2 e16 s0 s3
 have s15 := V.es e16 9 15 rfl
 clear e16 z_
 refine V.t_done rfl (V.nx ?_)
 cases hc17 : ((decide (0 < (j : Int))) && ((x : Int) == (0 : Int)))
 ·have s15_ : f14 15 = .bool false := s15.trans (by rw [hc17])
  refine V.cond_f (V.ev_tmp rfl s15_) ?_
  have hz := hc17
  have htr2 : (Lb.trim xs).length = j := by
   rw [htr]
   by_cases h0 : 0 < j
   ·have hne : x ≠ 0 := fun h => by rw [h] at hz; simp [h0] at hz
    rw [Lb.trim_stop h0 (hx h0) hne, List.length_take]; omega
   ·have : j = 0 := by omega
    subst this; rfl
  refine V.exit (V.tx (V.tx (V.bx (V.nx (V.seq ?_)))))
  refine V.reg 4 [V.E (.slice A xs.length c), V.E (.int .i64 (j : Int)), V.E (.slice A j c), V.E (.slice A j c)] [] (V.i r10 r11) ?_ ?_
  ·refine V.a4 ?_ ?_ ?_ ?_
   ·exact V.mo rfl 0 s0
   ·exact V.mo rfl 3 s3
   ·exact V.z1 rfl fun h => V.x_sliceH (V.ed h 0 18 rfl) (V.ed h 1 19 rfl) (by omega)
   ·exact V.se rfl 2 20 rfl
  intro f18 W19 e20
  clear r10 r11
  obtain ⟨⟨r10, r11⟩, z_⟩ := e20.g
  replace s0 := V.e1 e20 s0
  have s2 := V.es e20 3 2 rfl
  clear e20 z_
  refine V.t_done rfl (V.nx (V.ret ?_))
  refine V.leave_any (.inl rfl) (V.res_tmp rfl rfl s2) ?_
  exact ⟨by rw [htr2], r11.r16 ho |>.take_trim, r10⟩
 ·have s15_ : f14 15 = .bool true := s15.trans (by rw [hc17])
  refine V.cond_t (V.ev_tmp rfl s15_) ?_
  have hz := hc17
  have hj0 : 0 < j := by have := of_decide_eq_true (V.and_l hz); omega
  have hx0 : x = 0 := by have := V.and_r hz; simp at this; omega
  have hx1 := hx hj0
  rw [hx0] at hx1
  have htg := Lb.trim_go hj0 hx1
  refine V.skip ?_
  refine V.nx (V.block ?_)
  refine V.reg 3 [V.E (.int .i64 (j : Int)), V.E (.int .i64 ((j : Int) - 1)), V.E (.int .i64 ((j : Int) - 1))] [] (V.i r10 r11) ?_ ?_
  ·refine V.a3 ?_ ?_ ?_
   ·exact V.mo rfl 3 s3
   ·refine V.s1 rfl fun f W h => ?_
    have hw21 : IntKind.i64.wrap ((j : Int) - 1) = (j : Int) - 1 := by exact IntWalk.i64_in _ (by omega)
    exact V.xb (V.ed h 0 16 rfl) rfl ((by kernel_rfl : _ = Result.ok (.int .i64 (IntKind.i64.wrap ((j : Int) - 1))) _).trans (by rw [hw21]))
   ·exact V.se rfl 1 17 rfl
  intro f22 W23 e24
  clear r10 r11
  obtain ⟨⟨r10, r11⟩, z_⟩ := e24.g
  replace s0 := V.e1 e24 s0
  have s3 := V.es e24 2 3 rfl
  clear e24 z_
  refine V.t_done rfl (V.bn ?_)
  refine V.handed ((j - 1)) (by have := hk12; omega) ⟨(j - 1), ⟨rfl, by omega, by rw [htr, htg]⟩, ⟨s0, (s3.trans (congrArg (Value.int .i64) (by omega)))⟩, ⟨r10, r11⟩⟩
theorem RShort {A : Option Addr} {c : Nat} {xs : List Nat} {d : Nat} {w : World} (hl : Ls w 1 A xs.length c (xs.map U16)) (ho : Lb.Ok xs) (hn : xs.length ≤ 100000) (hd : 0 < d) (hd' : d < 65536) :
    Calls Tryz.prog 134 #[.slice A xs.length c, .int .i64 (d : Int)] w fun e w' => ∃ A1 c1 A2 c2, e = .returned (.tuple #[Vs A1 (Lb.val xs / d) c1, Vs A2 (Lb.val xs % d) c2]) ∧ R16 w' A1 (Lb.limbs (Lb.val xs / d)).length c1 (Lb.limbs (Lb.val xs / d)) ∧ R16 w' A2 (Lb.limbs (Lb.val xs % d)).length c2 (Lb.limbs (Lb.val xs % d)) ∧ Below w.heap.size w w' := by
 have hmx : xs.length ≤ 9223372036854775807 := Nat.le_trans hl.cap hl.max
 refine V.nt Tryz.func134 rfl rfl fun f0 hf => ?_
 have s0 : f0 0 = .slice A xs.length c := hf 0 (by simp)
 have s1 : f0 1 = .int .i64 (d : Int) := hf 1 (by simp)
 clear hf
 have hb := Below.refl w.heap.size w
 have w_hl := hl
 refine V.seq ?_
 refine V.reg 2 [V.E (.slice none 0 0), V.E (.slice none 0 0)] [] (V.i hl hb) ?_ ?_
 ·refine V.a2 ?_ ?_
  ·exact V.z1 rfl fun h => V.xs rfl
  ·exact V.z1 rfl fun h => V.xs rfl
 intro f25 W26 e27
 clear hl hb
 obtain ⟨⟨hl, hb⟩, z_⟩ := e27.g
 obtain ⟨s0, s1⟩ := V.e2 e27 s0 s1
 have s4 := V.es e27 0 4 rfl
 have s5 := V.es e27 1 5 rfl
 clear e27 z_
 refine V.t_done rfl (V.nx (V.seq ?_))
 refine V.reg 4 [V.E (.slice A xs.length c), V.E (.int .i64 (xs.length : Int)), (fun v W => ∃ g28 : Nat, v = .slice (some ⟨g28, 0, none⟩) xs.length xs.length ∧ Own W g28 51 1 (List.replicate xs.length [.int .u16 0]) ([]) ∧ (w.heap.size ≤ g28) ∧ (W26.heap.size ≤ g28)), (fun v W => ∃ g29 : Nat, v = .slice (some ⟨g29, 0, none⟩) xs.length xs.length ∧ Own W g29 51 1 (List.replicate xs.length [.int .u16 0]) ([]) ∧ (w.heap.size ≤ g29) ∧ (W26.heap.size ≤ g29))] [] (V.i hl hb) ?_ ?_
 ·refine V.a4 ?_ ?_ ?_ ?_
  ·exact V.mo rfl 0 s0
  ·exact V.z1 rfl fun h => V.x_len (V.ed h 0 9 rfl)
  ·refine V.s2 rfl fun f W h => ?_
   exact V.valv (.slice (some ⟨W.heap.size, 0, none⟩) xs.length xs.length) (V.x_make (k := 1) (z := .int .u16 0) (V.ed h 1 10 rfl) rfl (by kernel_rfl) (by omega)) ⟨⟨W.heap.size, rfl, Own.made rfl rfl W, h.g.1.2.size, h.g.2⟩, (Below.refl _ _).alloc (Nat.le_refl _) _⟩
  ·refine V.s2 rfl fun f W h => ?_
   obtain ⟨g28, a11, k2_0, p2_0, p2_1⟩ := V.dp h 2 11 (by kernel_rfl) rfl
   exact V.v2 (.slice (some ⟨g28, 0, none⟩) xs.length xs.length) (V.xs (V.ev_tmp rfl a11)) ⟨g28, rfl, k2_0, p2_0, p2_1⟩
 intro f30 W31 e32
 clear hl hb
 obtain ⟨⟨hl, hb⟩, z_⟩ := e32.g
 obtain ⟨s0, s1, s4, s5⟩ := V.e4 e32 s0 s1 s4 s5
 obtain ⟨g29, s6, r33, n34, n35⟩ := V.eq e32 3 6 rfl
 have mg29 := n34
 have q36 : 0 < xs.length → (adr A).block ≠ g29 := fun h => Nat.ne_of_lt (Nat.lt_of_lt_of_le (w_hl.blt h) n34)
 clear e32 z_
 refine V.t_done rfl (V.nx (V.seq ?_))
 refine V.reg 1 [V.E (.int .i64 0)] [] (V.i hl (V.i hb r33)) ?_ ?_
 ·refine V.ac ?_ V.an
  ·exact V.z1 rfl fun h => V.xs rfl
 intro f37 W38 e39
 clear hl hb r33
 obtain ⟨⟨hl, hb, r33⟩, z_⟩ := e39.g
 obtain ⟨s0, s1, s4, s5, s6⟩ := V.e5 e39 s0 s1 s4 s5 s6
 have s7 := V.es e39 0 7 rfl
 clear e39 z_
 refine V.t_done rfl (V.nx (V.seq (V.seq ?_)))
 refine V.reg 4 [V.E (.slice A xs.length c), V.E (.int .i64 (xs.length : Int)), V.E (.int .i64 ((xs.length : Int) - 1)), V.E (.int .i64 ((xs.length : Int) - 1))] [] (V.i hl (V.i hb r33)) ?_ ?_
 ·refine V.a4 ?_ ?_ ?_ ?_
  ·exact V.mo rfl 0 s0
  ·exact V.z1 rfl fun h => V.x_len (V.ed h 0 12 rfl)
  ·refine V.s1 rfl fun f W h => ?_
   have hw40 : IntKind.i64.wrap ((xs.length : Int) - 1) = (xs.length : Int) - 1 := by exact IntWalk.i64_in _ (by omega)
   exact V.xb (V.ed h 1 13 rfl) rfl ((by kernel_rfl : _ = Result.ok (.int .i64 (IntKind.i64.wrap ((xs.length : Int) - 1))) _).trans (by rw [hw40]))
  ·exact V.se rfl 2 14 rfl
 intro f41 W42 e43
 clear hl hb r33
 obtain ⟨⟨hl, hb, r33⟩, z_⟩ := e43.g
 obtain ⟨s0, s1, s4, s5, s6, s7⟩ := V.e6 e43 s0 s1 s4 s5 s6 s7
 have s8 := V.es e43 3 8 rfl
 clear e43 z_
 refine V.t_done rfl (V.nx (V.block ?_))
 have r44 : Own W42 g29 51 1 ((List.replicate xs.length 0).map U16) [] := by rw [List.map_replicate]; exact r33
 refine V.loop (fun k f W => ∃ j : Nat, ∃ zs : List Nat, ∃ r : Nat, (k = j ∧ (j ≤ xs.length) ∧ (zs.length = xs.length) ∧ (Lb.Ok zs) ∧ (Lb.val (zs.drop j) = Lb.val (xs.drop j) / d) ∧ (r = Lb.val (xs.drop j) % d)) ∧ (f 0 = .slice A xs.length c ∧ f 1 = .int .i64 (d : Int) ∧ f 6 = .slice (some ⟨g29, 0, none⟩) xs.length xs.length ∧ f 7 = .int .i64 (r : Int) ∧ f 8 = .int .i64 ((j : Int) - 1)) ∧ (Below w.heap.size w W ∧ Ls W 1 A xs.length c (xs.map U16) ∧ Own W g29 51 1 (zs.map U16) ([]))) (xs.length) ⟨xs.length, (List.replicate xs.length 0), 0, ⟨rfl, by omega, by simp, Lb.ok_replicate _, by rw [List.drop_length, List.drop_of_length_le (by simp)]; simp [Lb.val], by rw [List.drop_length]; simp [Lb.val]⟩, ⟨s0, s1, s6, (s7.trans (congrArg (Value.int .i64) (by omega))), s8⟩, ⟨hb, hl, r44⟩⟩ ?_
 clear hl hb r44 s0 s1 s4 s5 s6 s7 s8
 rintro k47 f45 W46 ⟨j, zs, r, ⟨hk51, hjl, hzl, hzo, hqz, hr⟩, ⟨s0, s1, s6, s7, s8⟩, ⟨r48, r49, r50⟩⟩
 refine V.seq (V.seq ?_)
 refine V.reg 2 [V.E (.int .i64 ((j : Int) - 1)), V.E (.bool (decide (0 ≤ ((j : Int) - 1))))] [] (V.i r48 (V.i r49 r50)) ?_ ?_
 ·refine V.a2 ?_ ?_
  ·exact V.mo rfl 8 s8
  ·exact V.z1 rfl fun h => V.xb (V.ed h 0 15 rfl) rfl
 intro f52 W53 e54
 clear r48 r49 r50
 obtain ⟨⟨r48, r49, r50⟩, z_⟩ := e54.g
 obtain ⟨s0, s1, s6, s7, s8⟩ := V.e5 e54 s0 s1 s6 s7 s8
 have s16 := V.es e54 1 16 rfl
 clear e54 z_
 refine V.t_done rfl (V.nx ?_)
 cases hc55 : (decide (0 ≤ ((j : Int) - 1)))
 ·have s16_ : f52 16 = .bool false := s16.trans (by rw [hc55])
  refine V.cond_f (V.ev_tmp rfl s16_) ?_
  have hj0 : j = 0 := by have := of_decide_eq_false hc55; omega
  subst hj0
  rw [List.drop_zero, List.drop_zero] at hqz
  rw [List.drop_zero] at hr
  have hrd : r < d := by rw [hr]; exact Nat.mod_lt _ hd
  refine V.exit (V.tx (V.tx (V.bx (V.nx (V.seq ?_)))))
  refine V.reg 8 [V.E (.slice (some ⟨g29, 0, none⟩) xs.length xs.length), (fun v W => v = .slice (some ⟨g29, 0, none⟩) ((Lb.trim zs).length) xs.length ∧ R16 W (some ⟨g29, 0, none⟩) ((Lb.trim zs).length) xs.length (Lb.trim zs)), V.E (.int .i64 (r : Int)), V.E (.int .u16 (r : Int)), (fun v W => ∃ g58 : Nat, v = .slice (some ⟨g58, 0, none⟩) 1 1 ∧ Blk W g58 51 #[.int .u16 (r : Int)] ∧ (w.heap.size ≤ g58)), (fun v W => ∃ g60 : Nat, v = .slice (some ⟨g60, 0, none⟩) ((Lb.trim ([r])).length) 1 ∧ R16 W (some ⟨g60, 0, none⟩) ((Lb.trim ([r])).length) 1 (Lb.trim ([r]))), (fun v W => v = .slice (some ⟨g29, 0, none⟩) ((Lb.trim zs).length) xs.length ∧ R16 W (some ⟨g29, 0, none⟩) ((Lb.trim zs).length) xs.length (Lb.trim zs)), (fun v W => ∃ g61 : Nat, v = .slice (some ⟨g61, 0, none⟩) ((Lb.trim ([r])).length) 1 ∧ R16 W (some ⟨g61, 0, none⟩) ((Lb.trim ([r])).length) 1 (Lb.trim ([r])))] [] (V.i r48 (V.i r49 r50)) ?_ ?_
  ·refine V.a8 ?_ ?_ ?_ ?_ ?_ ?_ ?_ ?_
   ·exact V.mo rfl 6 s6
   ·refine V.s2 rfl fun f W h => ?_
    refine V.call en170 (V.args1 (V.ed h 0 37 rfl)) (Calls.mono (RTrim (xs := zs) (Own.lsn (n := xs.length) (c := xs.length) h.g.1.2.2 ⟨by simp [hzl], Nat.le_refl _, by omega⟩) hzo) ?_)
    rintro e W' ⟨rfl, k56, hb⟩
    exact ⟨_, rfl, ⟨rfl, k56⟩, hb⟩
   ·exact V.mo rfl 7 s7
   ·refine V.s1 rfl fun f W h => ?_
    have hw57 : IntKind.u16.wrap ((r : Int)) = (r : Int) := by exact IntWalk.u16_in _ (by omega)
    exact V.x_convert (V.ed h 2 39 rfl) ((by kernel_rfl : _ = Result.ok (.int .u16 (IntKind.u16.wrap ((r : Int)))) _).trans (by rw [hw57]))
   ·refine V.s2 rfl fun f W h => ?_
    exact V.valv (.slice (some ⟨W.heap.size, 0, none⟩) 1 1) (V.c1 (V.ed h 3 40 rfl)) ⟨⟨W.heap.size, rfl, Blk.new W 51 #[.int .u16 (r : Int)], h.g.1.1.size⟩, (Below.refl _ _).alloc (Nat.le_refl _) _⟩
   ·refine V.s2 rfl fun f W h => ?_
    obtain ⟨g58, a41, k4_0, p4_0⟩ := V.dp h 4 41 (by kernel_rfl) rfl
    refine V.call en170 (V.args1 (V.ev_tmp rfl a41)) (Calls.mono (RTrim (xs := [r]) (Ls.one k4_0) (by intro y hy; simp at hy; omega)) ?_)
    rintro e W' ⟨rfl, k59, hb⟩
    exact ⟨_, rfl, ⟨g58, rfl, k59⟩, hb⟩
   ·refine V.s2 rfl fun f W h => ?_
    obtain ⟨a38, k1_0⟩ := V.dp h 1 38 (by kernel_rfl) rfl
    exact V.v2 (.slice (some ⟨g29, 0, none⟩) ((Lb.trim zs).length) xs.length) (V.xs (V.ev_tmp rfl a38)) ⟨rfl, k1_0⟩
   ·refine V.s2 rfl fun f W h => ?_
    obtain ⟨g60, a42, k5_0⟩ := V.dp h 5 42 (by kernel_rfl) rfl
    exact V.v2 (.slice (some ⟨g60, 0, none⟩) ((Lb.trim ([r])).length) 1) (V.xs (V.ev_tmp rfl a42)) ⟨g60, rfl, k5_0⟩
  intro f62 W63 e64
  clear r48 r49 r50
  obtain ⟨⟨r48, r49, r50⟩, z_⟩ := e64.g
  obtain ⟨s0, s1⟩ := V.e2 e64 s0 s1
  obtain ⟨s4, r65⟩ := V.eq e64 6 4 rfl
  obtain ⟨g61, s5, r66⟩ := V.eq e64 7 5 rfl
  clear e64 z_
  refine V.t_done rfl (V.nx (V.ret ?_))
  refine V.leave_any (.inl rfl) (V.res_tmp2 rfl rfl rfl s4 s5) ?_
  have e1 : Lb.trim zs = Lb.limbs (Lb.val xs / d) := by rw [Lb.trim_limbs _ hzo, hqz]
  have e2 : Lb.trim [r] = Lb.limbs (Lb.val xs % d) := by rw [Lb.trim_limbs _ (by intro y hy; simp at hy; omega), ← hr]; simp [Lb.val]
  rw [e1] at r65
  rw [e2] at r66
  exact ⟨_, _, _, _, by rw [e1, e2], r65, r66, r48⟩
 ·have s16_ : f52 16 = .bool true := s16.trans (by rw [hc55])
  refine V.cond_t (V.ev_tmp rfl s16_) ?_
  have hj0 : 0 < j := by have := of_decide_eq_true hc55; omega
  obtain ⟨x, mx, ex, ex_⟩ := V.at_map U16 (l := xs) (i := j - 1) (by omega)
  have hx16 : x < 65536 := ho x mx
  have hrd : r < d := by rw [hr]; exact Nat.mod_lt _ hd
  obtain ⟨T, hT⟩ : ∃ T, T = r * 65536 + x := ⟨_, rfl⟩
  obtain ⟨q, hq⟩ : ∃ q, q = T / d := ⟨_, rfl⟩
  obtain ⟨m, hm⟩ : ∃ m, m = T % d := ⟨_, rfl⟩
  have hTd : T < d * 65536 := by omega
  have hq16 : q < 65536 := by rw [hq]; exact Nat.div_lt_of_lt_mul hTd
  have hmd : m < d := by rw [hm]; exact Nat.mod_lt _ hd
  have hst := short_step (x := x) (V := Lb.val (xs.drop j)) hd
  rw [← hr, ← hT, ← hq, ← hm] at hst
  have hdx : Lb.val (xs.drop (j - 1)) = x + 65536 * Lb.val (xs.drop j) := by rw [Lb.val_drop, ex, show j - 1 + 1 = j by omega]; rfl
  have hdz : Lb.val ((zs.set (j - 1) q).drop (j - 1)) = q + 65536 * Lb.val (zs.drop j) := by rw [Lb.val_drop, List.getElem?_set_self (by omega), show j - 1 + 1 = j by omega, List.drop_set_of_lt (by omega)]; rfl
  have hez : (zs.map U16)[j - 1]? = some (U16 (zs[j - 1]?.getD 0)) := by rw [List.getElem?_map, List.getElem?_eq_getElem (show j - 1 < zs.length by omega)]; rfl
  refine V.skip ?_
  refine V.nx (V.seq (V.block (V.seq ?_)))
  refine V.reg 9 [V.E (.int .i64 (r : Int)), V.E (.int .i64 ((r : Int) * 65536)), V.E (.slice A xs.length c), V.E (.int .i64 ((j : Int) - 1)), V.E (.pointer (some ((adr A).add ((j - 1) * 1 + 0)))), V.E (.int .u16 (x : Int)), V.E (.int .i64 (x : Int)), V.E (.int .i64 (((r : Int) * 65536) + (x : Int))), V.E (.int .i64 (((r : Int) * 65536) + (x : Int)))] [] (V.i r48 (V.i r49 r50)) ?_ ?_
  ·refine V.b8 ?_ ?_ ?_ ?_ ?_ ?_ ?_ ?_ (V.ac ?_ V.an)
   ·exact V.mo rfl 7 s7
   ·refine V.s1 rfl fun f W h => ?_
    have hw67 : IntKind.i64.wrap ((r : Int) * 65536) = (r : Int) * 65536 := by exact IntWalk.i64_in _ (by omega)
    exact V.xb (V.ed h 0 19 rfl) rfl ((by kernel_rfl : _ = Result.ok (.int .i64 (IntKind.i64.wrap ((r : Int) * 65536))) _).trans (by rw [hw67]))
   ·exact V.mo rfl 0 s0
   ·exact V.mo rfl 8 s8
   ·exact V.z1 rfl fun h => V.xi (i := (j - 1)) h.g.1.2.1 ex_ (V.ed h 2 21 rfl) ((V.ed h 3 22 rfl).trans (congrArg (Value.int .i64) (by omega)))
   ·exact V.z1 rfl fun h => V.xl (V.ed h 4 23 rfl) (V.ld_ls1 (i := (j - 1)) (o := 0) h.g.1.2.1 ex_ rfl)
   ·refine V.s1 rfl fun f W h => ?_
    have hw68 : IntKind.i64.wrap ((x : Int)) = (x : Int) := by exact IntWalk.i64_in _ (by omega)
    exact V.x_convert (V.ed h 5 24 rfl) ((by kernel_rfl : _ = Result.ok (.int .i64 (IntKind.i64.wrap ((x : Int)))) _).trans (by rw [hw68]))
   ·refine V.s1 rfl fun f W h => ?_
    have hw69 : IntKind.i64.wrap (((r : Int) * 65536) + (x : Int)) = ((r : Int) * 65536) + (x : Int) := by exact IntWalk.i64_in _ (by omega)
    exact V.xb (V.ed h 1 20 rfl) (V.ed h 6 25 rfl) ((by kernel_rfl : _ = Result.ok (.int .i64 (IntKind.i64.wrap (((r : Int) * 65536) + (x : Int)))) _).trans (by rw [hw69]))
   ·exact V.se rfl 7 26 rfl
  intro f70 W71 e72
  clear r48 r49 r50
  obtain ⟨⟨r48, r49, r50⟩, z_⟩ := e72.g
  obtain ⟨s0, s1, s6, s8⟩ := V.e4 e72 s0 s1 s6 s8
  have s7 := V.es e72 8 7 rfl
  clear e72 z_
  refine V.t_done rfl (V.nx (V.seq ?_))
  refine V.reg 7 [V.E (.slice (some ⟨g29, 0, none⟩) xs.length xs.length), V.E (.int .i64 ((j : Int) - 1)), V.E (.int .i64 (((r : Int) * 65536) + (x : Int))), V.E (.int .i64 (d : Int)), V.E (.int .i64 (q : Int)), V.E (.int .u16 (q : Int)), V.E (.pointer (some ((adr (some ⟨g29, 0, none⟩)).add ((j - 1) * 1 + 0))))] [] (V.i r48 (V.i r49 r50)) ?_ ?_
  ·refine V.a7 ?_ ?_ ?_ ?_ ?_ ?_ ?_
   ·exact V.mo rfl 6 s6
   ·exact V.mo rfl 8 s8
   ·exact V.mo rfl 7 s7
   ·exact V.mo rfl 1 s1
   ·exact V.z1 rfl fun h => V.xb (V.ed h 2 29 rfl) (V.ed h 3 30 rfl) (V.quoD (by omega) hq hd (by omega))
   ·refine V.s1 rfl fun f W h => ?_
    have hw73 : IntKind.u16.wrap ((q : Int)) = (q : Int) := by exact IntWalk.u16_in _ (by omega)
    exact V.x_convert (V.ed h 4 31 rfl) ((by kernel_rfl : _ = Result.ok (.int .u16 (IntKind.u16.wrap ((q : Int)))) _).trans (by rw [hw73]))
   ·exact V.z1 rfl fun h => V.xi (i := (j - 1)) (Own.lsn (n := xs.length) (c := xs.length) h.g.1.2.2 ⟨by simp; omega, Nat.le_refl _, by omega⟩) hez (V.ed h 0 27 rfl) ((V.ed h 1 28 rfl).trans (congrArg (Value.int .i64) (by omega)))
  intro f74 W75 e76
  clear r48 r49 r50
  obtain ⟨⟨r48, r49, r50⟩, z_⟩ := e76.g
  obtain ⟨s0, s1, s6, s8, s7⟩ := V.e5 e76 s0 s1 s6 s8 s7
  have s32 := V.es e76 5 32 rfl
  have s33 := V.es e76 6 33 rfl
  clear e76 z_
  refine V.t_skip (k := 7) rfl rfl rfl (by kernel_rfl) trivial (V.x_store (V.ev_tmp rfl s33) (V.ev_tmp rfl s32) (V.st_own1 (i := (j - 1)) (v := .int .u16 (q : Int)) r50 (by simp; omega) (fun _ => by kernel_rfl) (by kernel_rfl))) ?_
  replace r48 := V.bel_far (cs := (((zs.map U16).set (j - 1) [.int .u16 (q : Int)]).flatten ++ []).toArray) r48 mg29
  replace r49 := Ls.far r49 q36 ((((zs.map U16).set (j - 1) [.int .u16 (q : Int)]).flatten ++ []).toArray)
  replace r50 := Own.set (i := (j - 1)) (x := [.int .u16 (q : Int)]) r50 rfl
  generalize W75.setRow g29 (((zs.map U16).set (j - 1) [.int .u16 (q : Int)]).flatten ++ []).toArray = W77 at *
  have r50_ : Own W77 g29 51 1 ((zs.set (j - 1) q).map U16) [] := by rw [List.map_set]; exact r50
  clear r50
  have r50 := r50_
  clear r50_
  refine V.t_done rfl (V.nx ?_)
  refine V.reg 4 [V.E (.int .i64 (((r : Int) * 65536) + (x : Int))), V.E (.int .i64 (d : Int)), V.E (.int .i64 (m : Int)), V.E (.int .i64 (m : Int))] [] (V.i r48 (V.i r49 r50)) ?_ ?_
  ·refine V.a4 ?_ ?_ ?_ ?_
   ·exact V.mo rfl 7 s7
   ·exact V.mo rfl 1 s1
   ·exact V.z1 rfl fun h => V.xb (V.ed h 0 34 rfl) (V.ed h 1 35 rfl) (V.remD (by omega) hm hd)
   ·exact V.se rfl 2 36 rfl
  intro f78 W79 e80
  clear r48 r49 r50
  obtain ⟨⟨r48, r49, r50⟩, z_⟩ := e80.g
  obtain ⟨s0, s1, s6, s8⟩ := V.e4 e80 s0 s1 s6 s8
  have s7 := V.es e80 3 7 rfl
  clear e80 z_
  refine V.t_done rfl (V.bn (V.nx ?_))
  refine V.reg 3 [V.E (.int .i64 ((j : Int) - 1)), V.E (.int .i64 (((j : Int) - 1) - 1)), V.E (.int .i64 (((j : Int) - 1) - 1))] [] (V.i r48 (V.i r49 r50)) ?_ ?_
  ·refine V.a3 ?_ ?_ ?_
   ·exact V.mo rfl 8 s8
   ·refine V.s1 rfl fun f W h => ?_
    have hw81 : IntKind.i64.wrap (((j : Int) - 1) - 1) = ((j : Int) - 1) - 1 := by exact IntWalk.i64_in _ (by omega)
    exact V.xb (V.ed h 0 17 rfl) rfl ((by kernel_rfl : _ = Result.ok (.int .i64 (IntKind.i64.wrap (((j : Int) - 1) - 1))) _).trans (by rw [hw81]))
   ·exact V.se rfl 1 18 rfl
  intro f82 W83 e84
  clear r48 r49 r50
  obtain ⟨⟨r48, r49, r50⟩, z_⟩ := e84.g
  obtain ⟨s0, s1, s6, s7⟩ := V.e4 e84 s0 s1 s6 s7
  have s8 := V.es e84 2 8 rfl
  clear e84 z_
  refine V.t_done rfl ?_
  refine V.handed ((j - 1)) (by have := hk51; omega) ⟨(j - 1), (zs.set (j - 1) q), m, ⟨rfl, by omega, by rw [List.length_set]; exact hzl, Lb.ok_set hzo _ _ hq16, by rw [hdz, hdx, hst.1, hqz], by rw [hdx, hst.2]⟩, ⟨s0, s1, s6, s7, (s8.trans (congrArg (Value.int .i64) (by omega)))⟩, ⟨r48, r49, r50⟩⟩
end Go.Proofs.YtjbcalbbhomkjaaGreat
