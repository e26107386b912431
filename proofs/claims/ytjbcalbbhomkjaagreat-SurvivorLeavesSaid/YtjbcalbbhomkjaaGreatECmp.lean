import Derived.Test.YtjbcalbbhomkjaaGreatEDown
import Derived.Test.YtjbcalbbhomkjaaGreatEWh1
namespace Go.Proofs.YtjbcalbbhomkjaaGreat
open Go.RowKit Go.Shelf
attribute [local go_sem] Oper.semAt_some
def cmpN (a b : Nat) : Int := if a < b then -1 else if a = b then 0 else 1
namespace Lb
theorem lt_at {xs ys : List Nat} {j : Nat} (hx : Ok xs) (hjx : j < xs.length) (hjy : j < ys.length) (hd : xs.drop (j + 1) = ys.drop (j + 1)) (h : xs[j]?.getD 0 < ys[j]?.getD 0) : val xs < val ys := by
 rw [val_split xs j hjx, val_split ys j hjy, hd]
 have h1 := val_lt (ok_take hx j)
 rw [List.length_take, Nat.min_eq_left (by omega)] at h1
 have h2 : 65536 ^ j * (xs[j]?.getD 0 + 65536 * val (ys.drop (j + 1)) + 1) ≤ 65536 ^ j * (ys[j]?.getD 0 + 65536 * val (ys.drop (j + 1))) := Nat.mul_le_mul_left _ (by omega)
 rw [Nat.mul_add, Nat.mul_one] at h2
 omega
theorem lt_of_length {a b : Nat} (h : (limbs a).length < (limbs b).length) : a < b := by
 rcases Nat.lt_or_ge a b with h1 | h1
 ·exact h1
 ·have := limbs_length_mono h1; omega
end Lb
theorem cmpN_lt {a b : Nat} (h : a < b) : cmpN a b = -1 := by simp [cmpN, h]
theorem cmpN_gt {a b : Nat} (h : b < a) : cmpN a b = 1 := by unfold cmpN; rw [if_neg (by omega), if_neg (by omega)]
theorem cmpN_eq {a b : Nat} (h : a = b) : cmpN a b = 0 := by unfold cmpN; rw [if_neg (by omega), if_pos h]
def CmpI (A' : Option Addr) (n c' a b : Nat) (w : World) (k : Nat) (W : World) : Prop :=
 Below w.heap.size w W ∧ Blk W w.heap.size 33 #[.slice A' n c'] ∧ (∃ u, Blk W (w.heap.size + 1) 3 #[u]) ∧ ∃ j, j + k = n ∧ (Lb.limbs a).drop j = (Lb.limbs b).drop j
def CmpA (A' : Option Addr) (n c' a b : Nat) (w : World) (k : Nat) (args : Array Value) (W : World) : Prop :=
 Below w.heap.size w W ∧ Blk W w.heap.size 33 #[.slice A' n c'] ∧ (∃ u, Blk W (w.heap.size + 1) 3 #[u]) ∧ ∃ j, j + k + 1 = n ∧ (Lb.limbs a).drop (j + 1) = (Lb.limbs b).drop (j + 1) ∧
  args = #[.int .i64 (j : Int), .int .u16 (((Lb.limbs a)[j]?.getD 0 : Nat) : Int)]
def CmpX (a b : Nat) (w : World) (c : Code) (W : World) : Prop := c = .ret ∧ Below w.heap.size w W ∧ Blk W (w.heap.size + 1) 3 #[.int .i64 (cmpN a b)]
def CmpD (a b : Nat) (w : World) (W : World) : Prop := Below w.heap.size w W ∧ (∃ u, Blk W (w.heap.size + 1) 3 #[u]) ∧ a = b
def CmpB (A A' : Option Addr) (n c c' a b : Nat) (w : World) (k : Nat) (args : Array Value) (a' : Act) (W : World) : Prop :=
 CmpA A' n c' a b w k args W ∧ a' = { tmps := #[Value.slice A n c, Value.slice A' n c', undef, Value.pointer (some { block := w.heap.size, off := 0 }),
     Value.pointer (some { block := w.heap.size + 1, off := 0 }), args[0]?.getD undef, args[1]?.getD undef, Value.slice A n c,
     Value.int IntKind.i64 ↑n, Value.slice A' n c', Value.int IntKind.i64 ↑n, Value.bool false, undef, undef,
     undef, undef, undef, undef, Value.slice A n c,
     Value.func (Fn.func 149) #[] #[Value.pointer (some { block := w.heap.size + 1 + 1, off := 0 })], args[0]?.getD undef, args[1]?.getD undef,
     undef, undef, undef, undef, undef, undef, undef, undef, undef, undef, undef, undef, undef], defers := [] }
set_option maxRecDepth 100000 in
set_option maxHeartbeats 1000000 in
theorem compare_any (A A' : Option Addr) (n n' c c' : Nat) (a b : Nat) (w : World) (h : R16 w A n c (Lb.limbs a)) (h' : R16 w A' n' c' (Lb.limbs b)) :
  Calls Tryz.prog 97 #[.slice A n c, .slice A' n' c'] w fun e w' => e = .returned (.int .i64 (cmpN a b)) ∧ Below w.heap.size w w' := by
 refine (callsIn_wide (n := 3)).1 ?_
 refine callsIn_of_wp_marks Tryz.func97 rfl trivial ?_
 simp only [Tryz.ntmps97, List.size_toArray, List.length_cons, List.length_nil, Nat.reduceAdd, Nat.reduceSub, Array.replicate_succ, Array.replicate_zero, List.push_toArray, List.append_toArray, List.nil_append, List.cons_append]
 have hn := h.cap
 have hc := h.max
 have hn' := h'.cap
 have hc' := h'.max
 by_cases hne : n = n'
 ·subst hne
  gi_wp2_with ((refine ⟨trivial, ?_⟩; gi_at_call 120; refine (callsIn_wide.2 (down_any _ _ _ _)).mono ?_; rintro e w' ⟨rfl, rfl⟩))
  have hla := h.len
  have hlb := h'.len
  refine rf_law rfl (enters_of Tryz.func149 (by kernel_rfl) rfl) (down_iter (w.heap.size + 1 + 1) n c A _ (by omega) ?keep) (fun h k => DownK.trans h k) DownK.sim ?hm ?hf
   (CmpI A' n c' a b w) (CmpA A' n c' a b w) (CmpB A A' n c c' a b w) (CmpX a b w) (CmpD a b w) ?i1 ?i2 ?i3 ?i4 ?i5 ?i6 ?asg ?body ?fin ?done ?stop
  case hm => rintro k W W' args ⟨rfl, j, _, ad, _, x, _, rfl⟩; exact ⟨keeps_refl _ _, rfl⟩
  case hf => rintro k W W' ⟨_, rfl⟩; exact keeps_refl _ _
  case keep =>
   intro W hW
   refine ⟨?_, fun hn0 => ?_⟩
   ·exact (hW.cell (p := ⟨w.heap.size + 1 + 1, 0, none⟩) (by simp)).trans (Blk.one (by have := Blk.new ((w.alloc (.cells #[.slice A' n c'] 33)).alloc (.cells #[.int .i64 0] 3)) 33 #[.slice A n c]; simpa using this))
   ·obtain ⟨ad, e, hx⟩ := h.some hn0
    refine ⟨ad, e, fun j hj => ⟨(((Lb.limbs a)[j]?.getD 0 : Nat) : Int), ?_⟩⟩
    have hb := block_lt_of_cell (hx j hj)
    have hB : Below w.heap.size w W := ((((Below.refl _ w).alloc (Nat.le_refl _) _).alloc (by simp) _).alloc (by simp; omega) _).trans (hW.mono (by simp; omega))
    exact (hB.cell hb).trans (hx j hj)
  case i1 => rintro k W W' ⟨h1, h2, ⟨u, h3⟩, h4⟩ hs; exact ⟨below_sim h1 hs (by simp; omega), h2.sim hs, ⟨u, h3.sim hs⟩, h4⟩
  case i2 => rintro k args a' W W' ⟨⟨h1, h2, ⟨u, h3⟩, h4⟩, h5⟩ hs; exact ⟨⟨below_sim h1 hs (by simp; omega), h2.sim hs, ⟨u, h3.sim hs⟩, h4⟩, h5⟩
  case i3 => rintro c W W' ⟨h1, h2, h3⟩ hs; exact ⟨h1, below_sim h2 hs (by simp; omega), h3.sim hs⟩
  case i4 => rintro W W' ⟨h1, ⟨u, h3⟩, h4⟩ hs; exact ⟨below_sim h1 hs (by simp; omega), ⟨u, h3.sim hs⟩, h4⟩
  case i5 =>
   intro W hW _
   have e1 := Blk.new w 33 #[.slice A' n c']
   have e2 := Blk.new (w.alloc (.cells #[.slice A' n c'] 33)) 3 #[.int .i64 0]
   rw [World.size_alloc] at e2
   refine ⟨((((Below.refl _ w).alloc (Nat.le_refl _) _).alloc (by simp) _).alloc (by simp; omega) _).trans (hW.mono (by simp; omega)), ?_, ⟨.int .i64 0, ?_⟩, n, by omega, ?_⟩
   ·exact ((e1.alloc _).alloc _).below hW (by simp; omega)
   ·exact (e2.alloc _).below hW (by simp)
   ·rw [List.drop_of_length_le (by omega), List.drop_of_length_le (by omega)]
  case i6 =>
   rintro k W W' args ⟨h1, h2, h3, j, hj, hd⟩ ⟨rfl, j', hj', ad, e, x, hx, rfl⟩
   obtain rfl : j = j' + 1 := by omega
   refine ⟨h1, h2, h3, j', by omega, hd, ?_⟩
   obtain ⟨ad', e', hx'⟩ := h.some (by omega)
   rw [e] at e'; cases e'
   have := (h1.cell (block_lt_of_cell (hx' j' (by omega)))).trans (hx' j' (by omega))
   rw [this] at hx; cases hx; rfl
  case asg =>
   rintro l k args W ⟨h1, h2, h3, j, hj, hd, rfl⟩ _
   gi_wp2
   exact ⟨keeps_refl _ _, fun x => x, ⟨h1, h2, h3, j, hj, hd, rfl⟩, rfl⟩
  case body =>
   rintro l k args a' W hlw hlr ⟨⟨h1, h2, ⟨u, h3⟩, j, hj, hd, rfl⟩, rfl⟩
   obtain ⟨ad, rfl, hx⟩ := h'.some (by omega)
   have hxj := (h1.cell (block_lt_of_cell (hx j (by omega)))).trans (hx j (by omega))
   have hb := h2.one
   have hu := h3.one
   have hf := h3.frozen 0
   have HD := Lib.hid hd
   have HJ := Lib.hid hj
   have HH := hide h
   have HH' := hide h'
   have H1 := hide h1
   have H2 := hide h2
   have H3 := hide h3
   have hjn : j < n := by omega
   have HA := Lib.hid hla
   have HB := Lib.hid hlb
   clear hd hj hx h1 h2 h3 h h' hla hlb hlr
   by_cases heq : (Lb.limbs a)[j]?.getD 0 = (Lb.limbs b)[j]?.getD 0
   ·have ht : ((((Lb.limbs a)[j]?.getD 0 : Nat) : Int) != (((Lb.limbs b)[j]?.getD 0 : Nat) : Int)) = false := by rw [heq]; simp
    have HE := Lib.hid heq
    clear heq
    simp only [List.getElem?_toArray, List.getElem?_cons_zero, List.getElem?_cons_succ, Option.getD_some]
    gi_wp2
    refine ⟨keeps_refl _ _, fun x => x, H1.out, H2.out, ⟨u, H3.out⟩, j, by have := HJ.out; omega, ?_⟩
    rw [List.drop_eq_getElem_cons (l := Lb.limbs a) (i := j) (by have := HA.out; omega), List.drop_eq_getElem_cons (l := Lb.limbs b) (i := j) (by have := HB.out; omega), HD.out]
    have := HE.out
    rw [List.getElem?_eq_getElem (by have := HA.out; omega), List.getElem?_eq_getElem (by have := HB.out; omega)] at this
    simp only [Option.getD_some] at this
    rw [this]
   ·have ht : ((((Lb.limbs a)[j]?.getD 0 : Nat) : Int) != (((Lb.limbs b)[j]?.getD 0 : Nat) : Int)) = true := by rw [bne_iff_ne]; omega
    have HE := Lib.hid heq
    clear heq
    simp only [List.getElem?_toArray, List.getElem?_cons_zero, List.getElem?_cons_succ, Option.getD_some]
    by_cases hlt : (Lb.limbs a)[j]?.getD 0 < (Lb.limbs b)[j]?.getD 0
    all_goals
     gi_wp2_with ((refine ⟨trivial, ?_⟩; gi_at_call 96; go_must (refine (CallsIn.inRound l (callsIn_wide.2 (sign_any _ _))).mono ?_; rintro e w' ⟨rfl, rfl⟩)))
     refine ⟨keeps_setCell _ _ _ _, rfl, H1.out.setCell (by simp) _, ?_⟩
     have := H3.out.set_ 0 (.int .i64 (cmpN a b))
    ·have e1 := Lb.lt_at (Lb.ok_limbs a) (by have := HA.out; omega) (by have := HB.out; omega) HD.out hlt
     rw [Lb.val_limbs, Lb.val_limbs] at e1
     rw [cmpN_lt e1] at this ⊢
     simpa using this
    ·have e1 := Lb.lt_at (Lb.ok_limbs b) (by have := HB.out; omega) (by have := HA.out; omega) HD.out.symm (by have := HE.out; omega)
     rw [Lb.val_limbs, Lb.val_limbs] at e1
     rw [cmpN_gt e1] at this ⊢
     simpa using this
  case fin =>
   rintro k W W' ⟨h1, h2, h3, j, hj, hd⟩ ⟨rfl, rfl⟩
   obtain rfl : j = 0 := by omega
   exact ⟨h1, h3, Lb.limbs_inj (by simpa using hd)⟩
  case done =>
   rintro D W hD ⟨h1, ⟨u, h3⟩, h4⟩ hK
   have hu := h3.one
   have hf := h3.frozen 0
   have H1 := hide h1
   have H3 := hide h3
   have HE := Lib.hid h4
   clear h4 h1 h3
   gi_wp2
   have hK' := (keeps_setCell 0 W ⟨w.heap.size + 1, 0, none⟩ (.int .i64 0)).same D _ (Nat.zero_le _) hK rfl
   have h3 := ((H3.out.set_ 0 (.int .i64 0)).putObj hK' (.deferred none)).one
   refine leave_mark hK' (results_cell rfl rfl (v := .int .i64 0) (by simp [go_sem, h3])) ⟨by rw [cmpN_eq HE.out], below_putObj (H1.out.setCell (by simp) _) (by simp at hD; omega) _⟩
  case stop =>
   rintro D c W hD ⟨rfl, h1, h3⟩ hK
   gi_wp2
   have h3 := (h3.putObj hK (.deferred none)).one
   exact leave_mark hK (results_cell rfl rfl (v := .int .i64 (cmpN a b)) (by simp [go_sem, h3])) ⟨rfl, below_putObj h1 (by simp at hD; omega) _⟩
 ·have hne' : ((n : Int) != n') = true := by rw [bne_iff_ne]; omega
  have hla := h.len
  have hlb := h'.len
  have HA := Lib.hid hla
  have HB := Lib.hid hlb
  have HH := hide h
  have HH' := hide h'
  clear h h' hla hlb
  by_cases hlt : n < n'
  all_goals
   gi_wp2_with ((refine ⟨trivial, ?_⟩; gi_at_call 96; refine (callsIn_wide.2 (sign_any _ _)).mono ?_; rintro e w' ⟨rfl, rfl⟩))
  ·exact leave_plain (results_cell rfl rfl (v := .int .i64 (-1)) (by simp [go_sem])) ⟨by rw [cmpN_lt (Lb.lt_of_length (by have := HA.out; have := HB.out; omega))], ((Below.refl _ w).alloc (Nat.le_refl _) _).alloc (by simp) _⟩
  ·exact leave_plain (results_cell rfl rfl (v := .int .i64 1) (by simp [go_sem])) ⟨by rw [cmpN_gt (Lb.lt_of_length (by have := HA.out; have := HB.out; omega))], ((Below.refl _ w).alloc (Nat.le_refl _) _).alloc (by simp) _⟩
end Go.Proofs.YtjbcalbbhomkjaaGreat
