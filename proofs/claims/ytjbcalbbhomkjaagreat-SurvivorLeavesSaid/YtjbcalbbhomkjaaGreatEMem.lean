import Derived.Test.YtjbcalbbhomkjaaGreatProg
import Derived.WalkKit
import Derived.WalkSpells
import Derived.WalkLawsBesides
import Derived.Lib.Hide
import Derived.Laws.OwnMore
import Derived.Deep.AppendLies
import Derived.Deep.Draws
import Derived.Maps.AppendAt
import Derived.IntWalk
import Derived.Test.YtjbcalbbhomkjaaGreatELimb
namespace Go.Proofs.YtjbcalbbhomkjaaGreat
open Go.RowKit
theorem block_of_add (a : Addr) (n : Nat) : (a.add n).block = a.block := by unfold Addr.add; split <;> rfl
theorem add_of_add (a : Addr) (i j : Nat) : (a.add i).add j = a.add (i + j) := by
 unfold Addr.add
 by_cases hi : i = 0 <;> by_cases hj : j = 0 <;> simp [hi, hj, Nat.add_assoc]
theorem block_lt_of_cell {w : World} {a : Addr} {u : Value} (h : w.cell? a = some u) : a.block < w.heap.size := by
 rcases Nat.lt_or_ge a.block w.heap.size with h1 | h1
 ·exact h1
 ·unfold World.cell? at h; rw [Array.getElem?_eq_none h1] at h; cases h
structure Rd (w : World) (sz : Nat) (A : Option Addr) (n c : Nat) (cs : List Value) : Prop where
 len : cs.length = n * sz
 cap : n ≤ c
 max : c ≤ 9223372036854775807
 cells : 0 < n → ∃ ad, A = some ad ∧ ∀ (j : Nat) (u : Value), cs[j]? = some u → w.cell? (ad.add j) = some u
theorem Rd.keep {w w' : World} {sz n c : Nat} {A : Option Addr} {cs : List Value} (h : Rd w sz A n c cs) (hk : ∀ p : Addr, p.block < w.heap.size → w'.cell? p = w.cell? p) : Rd w' sz A n c cs :=
 ⟨h.len, h.cap, h.max, fun hn => by
  obtain ⟨ad, e, hc⟩ := h.cells hn
  refine ⟨ad, e, fun j u hu => ?_⟩
  have := hc j u hu
  rw [hk _ (block_lt_of_cell this)]; exact this⟩
theorem Rd.below {w w' : World} {B sz n c : Nat} {A : Option Addr} {cs : List Value} (h : Rd w sz A n c cs) (hb : Below B w w') (hB : w.heap.size ≤ B) : Rd w' sz A n c cs :=
 h.keep fun _ hp => hb.cell (Nat.lt_of_lt_of_le hp hB)
theorem Rd.alloc {w : World} {sz n c : Nat} {A : Option Addr} {cs : List Value} (h : Rd w sz A n c cs) (o : Obj) : Rd (w.alloc o) sz A n c cs :=
 h.below ((Below.refl w.heap.size w).alloc (Nat.le_refl _) o) (Nat.le_refl _)
theorem Rd.nil {w : World} {sz c : Nat} {A : Option Addr} (hc : c ≤ 9223372036854775807) : Rd w sz A 0 c [] := ⟨by simp, by omega, hc, fun h => by omega⟩
def Fresh (B : Nat) (A : Option Addr) (n : Nat) : Prop := 0 < n → ∀ ad, A = some ad → B ≤ ad.block
theorem Rd.of_own {w : World} {base : Nat} {e : TypeId} {sz n c : Nat} {A : Option Addr} {xs : List Value} (h : w.ownsRow base e sz (.slice A n c) n xs) (hn : n ≤ c) (hc : c ≤ 9223372036854775807) : Rd w sz A n c xs := by
 refine ⟨h.1, hn, hc, fun hn => ?_⟩
 obtain ⟨g, cap, hv, _, hlt⟩ := h.form hn
 have hA : A = some ⟨g, 0, none⟩ := by injection hv
 subst hA
 exact ⟨_, rfl, h.cells (g := g) rfl⟩
def u16 (x : Nat) : Value := .int .u16 (x : Int)
structure R16 (w : World) (A : Option Addr) (n c : Nat) (xs : List Nat) : Prop where
 rd : Rd w 1 A n c (xs.map u16)
 ok : Lb.Ok xs
theorem R16.len {w : World} {A : Option Addr} {n c : Nat} {xs : List Nat} (h : R16 w A n c xs) : xs.length = n := by have := h.rd.len; simpa using this
theorem R16.cap {w : World} {A : Option Addr} {n c : Nat} {xs : List Nat} (h : R16 w A n c xs) : n ≤ c := h.rd.cap
theorem R16.max {w : World} {A : Option Addr} {n c : Nat} {xs : List Nat} (h : R16 w A n c xs) : c ≤ 9223372036854775807 := h.rd.max
theorem R16.keep {w w' : World} {n c : Nat} {A : Option Addr} {xs : List Nat} (h : R16 w A n c xs) (hk : ∀ p : Addr, p.block < w.heap.size → w'.cell? p = w.cell? p) : R16 w' A n c xs := ⟨h.rd.keep hk, h.ok⟩
theorem R16.below {w w' : World} {B n c : Nat} {A : Option Addr} {xs : List Nat} (h : R16 w A n c xs) (hb : Below B w w') (hB : w.heap.size ≤ B) : R16 w' A n c xs := ⟨h.rd.below hb hB, h.ok⟩
theorem cell_alloc {w : World} {p : Addr} {v : Value} (h : w.cell? p = some v) (o : Obj) : (w.alloc o).cell? p = some v :=
 ((((Below.refl w.heap.size w).alloc (Nat.le_refl _) o).cell (block_lt_of_cell h))).trans h
theorem Rd.far {w : World} {sz n c : Nat} {A : Option Addr} {cs : List Value} (h : Rd w sz A n c cs) (p : Addr) (v : Value) (hne : ∀ ad, A = some ad → ad.block ≠ p.block) : Rd (w.setCell p v) sz A n c cs :=
 ⟨h.len, h.cap, h.max, fun hn => by
  obtain ⟨ad, e, hc⟩ := h.cells hn
  refine ⟨ad, e, fun j u hu => ?_⟩
  rw [World.cell?_setCell_other _ _ _ _ (fun he => hne ad e (by rw [he]; exact (block_of_add ad j).symm))]; exact hc j u hu⟩
theorem R16.far {w : World} {n c : Nat} {A : Option Addr} {xs : List Nat} (h : R16 w A n c xs) (p : Addr) (v : Value) (hne : ∀ ad, A = some ad → ad.block ≠ p.block) : R16 (w.setCell p v) A n c xs := ⟨h.rd.far p v hne, h.ok⟩
theorem R16.alloc {w : World} {n c : Nat} {A : Option Addr} {xs : List Nat} (h : R16 w A n c xs) (o : Obj) : R16 (w.alloc o) A n c xs := ⟨h.rd.alloc o, h.ok⟩
theorem R16.nil {w : World} {c : Nat} {A : Option Addr} (hc : c ≤ 9223372036854775807) : R16 w A 0 c [] := ⟨Rd.nil hc, Lb.ok_nil⟩
theorem R16.some {w : World} {A : Option Addr} {n c : Nat} {xs : List Nat} (h : R16 w A n c xs) (hn : 0 < n) :
  ∃ ad, A = Option.some ad ∧ ∀ k, k < n → w.cell? (ad.add k) = Option.some (.int .u16 ((xs[k]?.getD 0 : Nat) : Int)) := by
 obtain ⟨ad, e, hc⟩ := h.rd.cells hn
 refine ⟨ad, e, fun k hk => hc k _ ?_⟩
 have hl := h.len
 rw [List.getElem?_map, List.getElem?_eq_getElem (by omega)]; rfl
theorem R16.take {w : World} {A : Option Addr} {n c : Nat} {xs : List Nat} (h : R16 w A n c xs) (k : Nat) (hk : k ≤ n) : R16 w A k c (xs.take k) := by
 have hl := h.len
 refine ⟨⟨by simp; omega, by have := h.cap; omega, h.max, fun hk0 => ?_⟩, Lb.ok_take h.ok k⟩
 obtain ⟨ad, e, hc⟩ := h.rd.cells (by omega)
 refine ⟨ad, e, fun j u hu => hc j u ?_⟩
 rw [List.map_take, List.getElem?_take] at hu
 split at hu
 ·exact hu
 ·cases hu
theorem ret_slice {A : Option Addr} {n m c : Nat} (h : n = m) : Ending.returned (.slice A n c) = .returned (.slice A m c) := by rw [h]
def lenOf : Value → Nat | .slice _ n _ => n | _ => 0
theorem hide {p : Prop} (h : p) : Hid p := h
def Blk (w : World) (g : Nat) (t : TypeId) (cs : Array Value) : Prop := w.heap[g]? = some (.cells cs t (0, 0))
section
variable {w w' : World} {g : Nat} {t : TypeId} {cs : Array Value}
theorem Blk.lt (h : Blk w g t cs) : g < w.heap.size := by
 rcases Nat.lt_or_ge g w.heap.size with hlt | hge
 ·exact hlt
 ·unfold Blk at h; rw [Array.getElem?_eq_none hge] at h; cases h
theorem Blk.cell (h : Blk w g t cs) (i : Nat) : w.cell? ⟨g, i, none⟩ = cs[i]? := cell_of_row w g i cs t (0, 0) h
theorem Blk.frozen (h : Blk w g t cs) (i : Nat) : w.frozen? ⟨g, i, none⟩ = false := by
 unfold Blk at h
 simp [World.frozen?, h]
theorem Blk.new (w : World) (t : TypeId) (cs : Array Value) : Blk (w.alloc (.cells cs t)) w.heap.size t cs := heap_alloc_new w _
theorem Blk.drew (h : Blk w g t cs) : Blk w.drew g t cs := h
theorem Blk.drewN (h : Blk w g t cs) (n : Nat) : Blk (w.drewN n) g t cs := h
theorem Blk.alloc (h : Blk w g t cs) (o : Obj) : Blk (w.alloc o) g t cs := (Below.heap_alloc w o g h.lt).trans h
theorem Blk.set_ (h : Blk w g t cs) (i : Nat) (u : Value) : Blk (w.setCell ⟨g, i, none⟩ u) g t (cs.setIfInBounds i u) := by
 unfold Blk at h ⊢
 simp [World.setCell, Array.getElem?_modify, h]
theorem Blk.far (h : Blk w g t cs) {p : Addr} (hp : g ≠ p.block) (u : Value) : Blk (w.setCell p u) g t cs := (Below.heap_setCell w p u g hp).trans h
theorem Blk.below {B : Nat} (h : Blk w g t cs) (hb : Below B w w') (hg : g < B) : Blk w' g t cs := (hb.block g hg).trans h
theorem Blk.grown {row : Option Nat} (h : Blk w g t cs) (hb : w.grownBy w' row) (hg : some g ≠ row) : Blk w' g t cs := (hb.block g h.lt hg).trans h
theorem Blk.one {v : Value} (h : Blk w g t #[v]) : w.cell? ⟨g, 0, none⟩ = some v := by rw [h.cell]; rfl
end
theorem Rd.of_lit {w : World} {base : Nat} {e : TypeId} {sz n c g : Nat} {xs : List Value} (h : w.ownsRow base e sz (.slice (some ⟨g, 0, none⟩) n c) n xs) : Rd w sz (some ⟨g, 0, none⟩) n c xs := by
 have h2 := h.2
 refine Rd.of_own h ?_ ?_
 ·rcases h2 with ⟨h3, _⟩ | ⟨g', cap, cur, hv, _, _, hn, _, _⟩
  ·cases h3
  ·cases hv; exact hn
 ·rcases h2 with ⟨h3, _⟩ | ⟨g', cap, cur, hv, _, _, _, hm, _⟩
  ·cases h3
  ·cases hv; simpa [maxLen] using hm
theorem wp_app {P : Program} (w : World) {ops : Array Oper} {rest : List Oper} {o : Oper} {a : Act} {Q : Exit → Act → World → Prop} (hgd : o.guard = none) (s x : Operand) (t : TypeId)
  (ho : o.op = .call { callee := .builtin .append, args := #[s, x], argTypes := #[t, t] })
  (base : Nat) (e : TypeId) (i : TypeInfo) (z : Value) (size bytes : Nat) (ht : P.underlying t = some (.slice e)) (hi : P.info? e = some i) (hz : i.zero = some z)
  (hsize : i.size = size) (hby : i.bytes = bytes) (hzs : z.cells.size = size) (hsz : 0 < size)
  (v : Value) (n : Nat) (xs : List Value) (hs : a.eval s = v) (hown : w.ownsRow base e size v n xs)
  (ad : Addr) (m c : Nat) (news : List Value) (hx : a.eval x = .slice (some ad) (m + 1) c) (hl : news.length = (m + 1) * size) (hnews : ∀ j u, news[j]? = some u → w.cell? (ad.add j) = some u) (h1 : ∀ u ∈ news, u.oneCell' = true)
  (h63 : n + (m + 1) ≤ 70368744177664) (hb : bytes * (n + (m + 1)) ≤ 140737488355328) (hbase : base ≤ w.heap.size)
  (h : ∀ g cap w', w'.ownsRow base e size (.slice (some ⟨g, 0, none⟩) (n + (m + 1)) cap) (n + (m + 1)) (xs ++ news) → w.grownBy w' v.ownBlock → (some g = v.ownBlock ∨ g = w.heap.size) → n + (m + 1) ≤ cap → cap ≤ 9223372036854775807 →
   wpList P ops Q rest (a.put o.dst (.slice (some ⟨g, 0, none⟩) (n + (m + 1)) cap)) w') : wpList P ops Q (o :: rest) a w := by
 obtain ⟨v', w', hrun, h2, h3, _, h4⟩ := run_append_own_at (P := P) w base t o.type e i z size bytes ht hi hz hsize hby hzs hsz v n xs hown ad (m + 1) c news hl hnews h1 (by simp only [maxLen]; omega) (by rw [Nat.mul_comm]; exact hb) hbase
 refine wpList_plain hgd fun _ hK => ?_
 unfold Oper.wp execOp
 simp only [ho, resolve, invoke, builtin, Sem.run_bind, Sem.run_pure, Result.andThen_ok, List.map_toArray, List.map_cons, List.map_nil, hs, hx, hrun]
 rcases h2.2 with ⟨_, h0⟩ | ⟨g, cap, cur, rfl, _, _, hn, hm, _⟩
 ·omega
 ·refine hK _ _ (h g cap w' h2 h3 ?_ hn (by simpa [maxLen] using hm))
  simp only [Value.ownBlock] at h4
  rcases h4 with h4 | h4
  ·exact .inl h4
  ·cases h4; exact .inr rfl
theorem own_slice {w : World} {base : Nat} {e : TypeId} {sz n : Nat} {v : Value} {xs : List Value} (h : w.ownsRow base e sz v n xs) :
  ∃ A d, v = .slice A n d ∧ Rd w sz A n d xs ∧ ∀ ad, A = some ad → base ≤ ad.block := by
 have h1 := h
 rcases h.2 with ⟨rfl, rfl⟩ | ⟨g, cap, cur, rfl, hg, _, hn, hm, _⟩
 ·exact ⟨none, 0, rfl, ⟨h.1, by omega, by omega, fun h => by omega⟩, fun ad h => by cases h⟩
 ·exact ⟨some ⟨g, 0, none⟩, cap, rfl, Rd.of_lit h1, fun ad e => by cases e; exact hg⟩
theorem run_app_none {P : Program} (w : World) (base : Nat) (t ty e : TypeId) (i : TypeInfo) (size : Nat) (ht : P.underlying t = some (.slice e)) (hi : P.info? e = some i)
  (v : Value) (n : Nat) (xs : List Value) (hown : w.ownsRow base e size v n xs) (c : Nat) : (Builtin.append_ #[t, t] ty #[v, .slice none 0 c]).run P w = .ok v w := by
 rcases hown.2 with ⟨rfl, rfl⟩ | ⟨g, cap, cur, rfl, _, _, hnc, _⟩
 ·simp [Builtin.append_, run_underlying ht, sizeOf, typeInfo, hi, Builtin.lenOf, Builtin.firstCells]
 ·simp [Builtin.append_, run_underlying ht, sizeOf, typeInfo, hi, Builtin.lenOf, Builtin.firstCells, hnc, storeCells]
theorem run_app_rd {P : Program} (w : World) (base : Nat) (t ty e : TypeId) (i : TypeInfo) (z : Value) (size bytes : Nat) (ht : P.underlying t = some (.slice e)) (hi : P.info? e = some i) (hz : i.zero = some z)
  (hsize : i.size = size) (hby : i.bytes = bytes) (hzs : z.cells.size = size) (hsz : 0 < size)
  (v : Value) (n : Nat) (xs : List Value) (hown : w.ownsRow base e size v n xs) (A : Option Addr) (m c : Nat) (news : List Value) (hr : Rd w size A m c news) (h1 : ∀ u ∈ news, u.oneCell' = true)
  (h63 : n + m ≤ 70368744177664) (hb : bytes * (n + m) ≤ 140737488355328) (hbase : base ≤ w.heap.size) :
  ∃ A' d w', (Builtin.append_ #[t, t] ty #[v, .slice A m c]).run P w = .ok (.slice A' (n + m) d) w' ∧ w'.ownsRow base e size (.slice A' (n + m) d) (n + m) (xs ++ news) ∧ w.grownBy w' v.ownBlock ∧ (∀ ad, A' = some ad → some ad.block = v.ownBlock ∨ ad.block = w.heap.size) := by
 rcases A with _ | ad
 ·have hm : m = 0 := by
   rcases Nat.eq_zero_or_pos m with h0 | h0
   ·exact h0
   ·obtain ⟨ad, h, _⟩ := hr.cells h0; cases h
  subst hm
  have hn : news = [] := List.eq_nil_of_length_eq_zero (by simpa using hr.len)
  subst hn
  obtain ⟨A', d, rfl, _, _⟩ := own_slice hown
  exact ⟨A', d, w, run_app_none w base t ty e i size ht hi _ n xs hown c, by simpa using hown, World.grownBy.refl w _, fun ad e => by subst e; exact .inl rfl⟩
 ·have hcells : ∀ j u, news[j]? = some u → w.cell? (ad.add j) = some u := by
   intro j u hu
   rcases Nat.eq_zero_or_pos m with h0 | h0
   ·subst h0
    have hn : news = [] := List.eq_nil_of_length_eq_zero (by simpa using hr.len)
    subst hn
    simp at hu
   ·obtain ⟨ad', h, hc⟩ := hr.cells h0
    injection h with h
    subst h
    exact hc j u hu
  obtain ⟨v', w', hrun, h2, h3, _, h4⟩ := run_append_own_at (P := P) w base t ty e i z size bytes ht hi hz hsize hby hzs hsz v n xs hown ad m c news hr.len hcells h1 (by simp only [maxLen]; omega) (by rw [Nat.mul_comm]; exact hb) hbase
  obtain ⟨A', d, rfl, _, _⟩ := own_slice h2
  refine ⟨A', d, w', hrun, h2, h3, fun ad e => ?_⟩
  subst e
  simp only [Value.ownBlock] at h4
  rcases h4 with h4 | h4
  ·exact .inl h4
  ·exact .inr (by simpa using h4)
theorem wp_app_rd {P : Program} (w : World) {ops : Array Oper} {rest : List Oper} {o : Oper} {a : Act} {Q : Exit → Act → World → Prop} (hgd : o.guard = none) (s x : Operand) (t : TypeId)
  (ho : o.op = .call { callee := .builtin .append, args := #[s, x], argTypes := #[t, t] })
  (base : Nat) (e : TypeId) (i : TypeInfo) (z : Value) (size bytes : Nat) (ht : P.underlying t = some (.slice e)) (hi : P.info? e = some i) (hz : i.zero = some z)
  (hsize : i.size = size) (hby : i.bytes = bytes) (hzs : z.cells.size = size) (hsz : 0 < size)
  (v : Value) (n : Nat) (xs : List Value) (hs : a.eval s = v) (hown : w.ownsRow base e size v n xs)
  (A : Option Addr) (m c : Nat) (news : List Value) (hx : a.eval x = .slice A m c) (hr : Rd w size A m c news) (h1 : ∀ u ∈ news, u.oneCell' = true)
  (h63 : n + m ≤ 70368744177664) (hb : bytes * (n + m) ≤ 140737488355328) (hbase : base ≤ w.heap.size)
  (h : ∀ A' d w', w'.ownsRow base e size (.slice A' (n + m) d) (n + m) (xs ++ news) → w.grownBy w' v.ownBlock → (∀ ad, A' = some ad → some ad.block = v.ownBlock ∨ ad.block = w.heap.size) →
   wpList P ops Q rest (a.put o.dst (.slice A' (n + m) d)) w') : wpList P ops Q (o :: rest) a w := by
 obtain ⟨A', d, w', hrun, h2, h3, h4⟩ := run_app_rd (P := P) w base t o.type e i z size bytes ht hi hz hsize hby hzs hsz v n xs hown A m c news hr h1 h63 hb hbase
 refine wpList_plain hgd fun _ hK => ?_
 unfold Oper.wp execOp
 simp only [ho, resolve, invoke, builtin, Sem.run_bind, Sem.run_pure, Result.andThen_ok, List.map_toArray, List.map_cons, List.map_nil, hs, hx, hrun]
 exact hK _ _ (h A' d w' h2 h3 h4)
theorem own_empty (w : World) (e : TypeId) (size : Nat) {B : Nat} (hB : B ≤ w.heap.size) : (w.alloc (.cells #[] e)).ownsRow B e size (.slice (some ⟨w.heap.size, 0, none⟩) 0 0) 0 [] :=
 ⟨by simp, .inr ⟨w.heap.size, 0, #[], rfl, hB, heap_alloc_new w _, Nat.le_refl _, by simp [maxLen], by simp, by simp⟩⟩
theorem cells_one (w : World) (u : Value) (t : TypeId) : ∀ j v, [u][j]? = some v → (w.alloc (.cells #[u] t)).cell? ((⟨w.heap.size, 0, none⟩ : Addr).add j) = some v := by
 intro j v h
 have hj : j = 0 := by have := (List.getElem?_eq_some_iff.1 h).1; simpa using this
 subst hj
 cases h
 exact (Blk.new w t #[u]).one
theorem blk_ne {w : World} {g g' : Nat} {t t' : TypeId} {cs cs' : Array Value} (h : Blk w g t cs) (h' : Blk w g' t' cs') (hne : t ≠ t') : g ≠ g' := by
 rintro rfl
 unfold Blk at h h'
 rw [h] at h'
 injection h' with h'
 injection h' with _ ht
 exact hne ht
theorem own_blk_ne {w : World} {g : Nat} {t : TypeId} {cs : Array Value} {base : Nat} {e : TypeId} {size n : Nat} {v : Value} {xs : List Value} (h : w.ownsRow base e size v n xs) (hg : Blk w g t cs) (hne : e ≠ t) : some g ≠ v.ownBlock := by
 rcases h.2 with ⟨rfl, _⟩ | ⟨g', cap, cur, rfl, _, hh, _⟩
 ·simp [Value.ownBlock]
 ·intro he
  have : g = g' := by simpa [Value.ownBlock] using he
  subst this
  exact blk_ne (t := e) hh hg hne rfl
theorem own_set {w : World} {base : Nat} {e : TypeId} {size n : Nat} {v : Value} {xs : List Value} (h : w.ownsRow base e size v n xs) {g : Nat} {t : TypeId} {cs : Array Value} (hg : Blk w g t cs) (hne : e ≠ t) (i : Nat) (u : Value) : (w.setCell ⟨g, i, none⟩ u).ownsRow base e size v n xs := by
 obtain ⟨h1, h2⟩ := h
 have hb := own_blk_ne (h := ⟨h1, h2⟩) hg hne
 refine ⟨h1, ?_⟩
 rcases h2 with h2 | ⟨g', cap, cur, rfl, hgb, hh, r⟩
 ·exact .inl h2
 ·refine .inr ⟨g', cap, cur, rfl, hgb, ?_, r⟩
  rw [Below.heap_setCell _ _ _ _ (by rintro rfl; exact hb rfl)]; exact hh
theorem ownsRow_below {w w' : World} {base : Nat} {e : TypeId} {sz n : Nat} {v : Value} {xs : List Value} (h : w.ownsRow base e sz v n xs) (hb : Below w.heap.size w w') : w'.ownsRow base e sz v n xs := by
 obtain ⟨h1, h2⟩ := h
 refine ⟨h1, ?_⟩
 rcases h2 with h2 | ⟨g, cap, cur, hv, hg, hh, r⟩
 ·exact .inl h2
 ·exact .inr ⟨g, cap, cur, hv, hg, (hb.block g (Array.getElem?_eq_some_iff.1 hh).1).trans hh, r⟩
def Out16 (w w' : World) (e : Ending) (m : Nat) : Prop :=
 ∃ A d, e = .returned (.slice A (Lb.limbs m).length d) ∧ R16 w' A (Lb.limbs m).length d (Lb.limbs m) ∧ (∀ ad, A = some ad → w.heap.size ≤ ad.block) ∧ Below w.heap.size w w'
theorem Out16.mk {w w' : World} {A : Option Addr} {n d m : Nat} {xs : List Nat} (h1 : Rd w' 1 A n d (xs.map u16)) (h2 : xs = Lb.limbs m) (h3 : ∀ ad, A = some ad → w.heap.size ≤ ad.block) (h4 : Below w.heap.size w w') :
  Out16 w w' (.returned (.slice A n d)) m := by
 have hl : xs.length = n := by have := h1.len; simpa using this
 subst h2
 rw [← hl] at h1
 exact ⟨A, d, by rw [hl], ⟨h1, Lb.ok_limbs m⟩, h3, h4⟩
def Out16r (w w' : World) (e : Ending) (m r : Nat) : Prop :=
 ∃ A d, e = .returned (.tuple #[.slice A (Lb.limbs m).length d, .int .u32 (r : Int)]) ∧ R16 w' A (Lb.limbs m).length d (Lb.limbs m) ∧ (∀ ad, A = some ad → w.heap.size ≤ ad.block) ∧ Below w.heap.size w w'
end Go.Proofs.YtjbcalbbhomkjaaGreat
