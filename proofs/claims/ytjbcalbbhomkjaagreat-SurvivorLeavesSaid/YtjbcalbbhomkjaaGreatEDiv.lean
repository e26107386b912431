import Derived.Test.YtjbcalbbhomkjaaGreatEClone
import Derived.Test.YtjbcalbbhomkjaaGreatEShort
import Derived.Test.YtjbcalbbhomkjaaGreatEDigit
import Derived.Test.YtjbcalbbhomkjaaGreatEDivI
namespace Go.Proofs.YtjbcalbbhomkjaaGreat
open Go.RowKit Go.Shelf
attribute [local go_sem] Oper.semAt_some
def Out16q (w w' : World) (e : Ending) (q r : Nat) : Prop :=
 ∃ A d A' d', e = .returned (.tuple #[.slice A (Lb.limbs q).length d, .slice A' (Lb.limbs r).length d']) ∧ R16 w' A (Lb.limbs q).length d (Lb.limbs q) ∧ R16 w' A' (Lb.limbs r).length d' (Lb.limbs r) ∧
  (∀ ad, A = some ad → w.heap.size ≤ ad.block) ∧ (∀ ad, A' = some ad → w.heap.size ≤ ad.block) ∧ Below w.heap.size w w'
theorem add_zero' (ad : Addr) : ad.add 0 = ad := by unfold Addr.add; split <;> simp_all
theorem Rd.one (w : World) (u : Value) (t : TypeId) : Rd (w.alloc (.cells #[u] t)) 1 (some ⟨w.heap.size, 0, none⟩) 1 1 [u] :=
 ⟨rfl, Nat.le_refl _, by omega, fun _ => ⟨_, rfl, cells_one w u t⟩⟩
theorem wrap64 {x : Int} (h0 : -9223372036854775808 ≤ x) (h1 : x ≤ 9223372036854775807) : IntKind.i64.wrap x = x := by
 rw [IntKind.wrap_i64]; omega
def DvK (p : DvP) (w : World) (k : Nat) (W : World) : Prop := ∃ j zs qs, j + k = p.q + 1 ∧ DvI p w j zs qs W
def DvA (p : DvP) (w : World) (k : Nat) (args : Array Value) (W : World) : Prop := ∃ j zs qs x, j + k + 1 = p.q + 1 ∧ DvI p w (j + 1) zs qs W ∧ args = #[.int .i64 (j : Int), x]
def DvF (A : Option Addr) (ad : Addr) (m q c c' b4 bn bu bv gu gv gq S v s x : Nat) (args : Array Value) : Array Value :=
 #[Value.slice A (m + 2 + q) c, Value.slice (some ad) (m + 2) c', undef, undef,
     Value.pointer (some { block := b4, off := 0 }), Value.slice none 0 0, undef, undef,
     Value.int IntKind.i64 ↑s, Value.pointer (some { block := bn, off := 0 }),
     Value.pointer (some { block := bu, off := 0 }), Value.pointer (some { block := bv, off := 0 }), args[0]?.getD undef, undef,
     undef, Value.slice A (m + 2 + q) c, Value.slice (some ad) (m + 2) c', Value.int IntKind.i64 ↑v,
     Value.bool (decide ((v : Int) < 0)), undef, undef, Value.slice (some ad) (m + 2) c', Value.int IntKind.i64 (↑m + 2),
     Value.bool false, undef, undef, undef, undef, undef, undef, undef, undef, undef, undef, undef, undef, undef,
     undef, Value.slice (some ad) (m + 2) c', Value.slice (some ad) (m + 2) c', Value.int IntKind.i64 (↑m + 2),
     Value.int IntKind.i64 (↑m + 2 - 1), Value.pointer (some { block := ad.block, off := ad.off + (m + 1) }),
     Value.int IntKind.u16 ↑x, Value.int IntKind.i64 ↑s, Value.slice (some ad) (m + 2) c',
     Value.int IntKind.i64 (↑m + 2), Value.slice A (m + 2 + q) c, Value.int IntKind.i64 ↑s,
     Value.slice (some { block := gu, off := 0 }) (m + 2 + q + 1) (m + 2 + q + 1),
     Value.slice (some ad) (m + 2) c', Value.int IntKind.i64 ↑s,
     Value.slice (some { block := gv, off := 0 }) (m + 3) (m + 3), Value.int IntKind.i64 (↑m + 2),
     Value.slice (some { block := gv, off := 0 }) (m + 2) (m + 3),
     Value.slice (some { block := gu, off := 0 }) (m + 2 + q + 1) (m + 2 + q + 1),
     Value.int IntKind.i64 (↑m + 2 + ↑q + 1), Value.int IntKind.i64 (↑m + 2),
     Value.int IntKind.i64 (↑m + 2 + ↑q + 1 - (↑m + 2)),
     Value.slice (some { block := gq, off := 0 }) (q + 1) (q + 1),
     Value.slice (some { block := gq, off := 0 }) (q + 1) (q + 1),
     Value.func (Fn.func 149) #[] #[Value.pointer (some { block := S, off := 0 })], args[0]?.getD undef, args[1]?.getD undef, undef,
     undef, undef, undef, undef, undef, undef, undef, undef, undef, undef, undef, undef, undef, undef, undef,
     undef, undef, undef, undef, undef, undef, undef, undef, undef]
def DvB (p : DvP) (w : World) (f : Array Value → Array Value) (k : Nat) (args : Array Value) (a' : Act) (W : World) : Prop := DvA p w k args W ∧ a' = { tmps := f args, defers := [] }
set_option maxRecDepth 100000 in
set_option maxHeartbeats 8000000 in
theorem div_any (A A' : Option Addr) (n n' c c' : Nat) (a b : Nat) (w : World) (h : R16 w A n c (Lb.limbs a)) (h' : R16 w A' n' c' (Lb.limbs b)) (hb : b ≠ 0) (hn : n ≤ 100000) (hn' : n' ≤ 100000) :
  Calls Tryz.prog 124 #[.slice A n c, .slice A' n' c'] w fun e w' => Out16q w w' e (a / b) (a % b) := by
 refine (callsIn_wide (n := 3)).1 ?_
 refine callsIn_of_wp_marks Tryz.func124 rfl trivial ?_
 simp only [Tryz.ntmps124, List.size_toArray, List.length_cons, List.length_nil, Nat.reduceAdd, Nat.reduceSub, Array.replicate_succ, Array.replicate_zero, List.push_toArray, List.append_toArray, List.nil_append, List.cons_append]
 have hcap := h.cap
 have hmax := h.max
 have hcap' := h'.cap
 have hmax' := h'.max
 have hl := h.len
 have hl' := h'.len
 have hn1 : 1 ≤ n' := by
  rcases Nat.eq_zero_or_pos n' with h0 | h0
  ·exfalso; exact hb (Lb.limbs_eq_nil.1 (List.eq_nil_of_length_eq_zero (by omega)))
  ·exact h0
 have HH := hide h
 have HH' := hide h'
 have HB := Lib.hid hb
 have HL := Lib.hid hl
 have HL' := Lib.hid hl'
 clear h h' hb hl hl'
 by_cases hab : a < b
 ·have hcm := cmpN_lt hab
  gi_wp2_with (first
   | (refine ⟨trivial, ?_⟩; gi_at_call 97; refine (callsIn_wide.2 (compare_any _ _ _ _ _ _ a b _ (HH.out.alloc _) (HH'.out.alloc _))).mono ?_; rintro e w1 ⟨rfl, hb1⟩; rw [hcm]; have e1 := (Blk.new w 33 #[.slice none 0 0]).below hb1 (by simp))
   | (refine ⟨trivial, ?_⟩; gi_at_call 59; refine (callsIn_wide.2 (clone16_any _ _ _ (Lb.limbs a) _ ((HH.out.alloc _).below hb1 (by simp)) (by omega))).mono ?_; rintro e w2 ⟨A2, d2, rfl, h2, h3, h4⟩; have hc2 := (e1.below h4 e1.lt).one; have hf2 := (e1.below h4 e1.lt).frozen 0; have E2 := hide (e1.below h4 e1.lt); have HB2 := hide ((((Below.refl w.heap.size w).alloc (Nat.le_refl _) _).trans (hb1.mono (by simp))).trans (h4.mono (by have := e1.lt; omega))); have H2 := hide h2; have H3 := hide (fun ad e => Nat.le_trans e1.lt (h3 ad e)); clear h2 h3 e1 h4 hb1))
  have hc3 := (E2.out.set_ 0 (.slice none 0 0)).one
  refine leave_plain (results_cellTmp rfl rfl rfl (v := .slice none 0 0) (by simp [go_sem, hc3])) ?_
  have e1 : a / b = 0 := Nat.div_eq_of_lt hab
  have e2 : a % b = a := Nat.mod_eq_of_lt hab
  rw [e1, e2]
  exact ⟨none, 0, A2, d2, by rw [HL.out]; rfl, R16.nil (by omega), by rw [HL.out]; exact H2.out.far _ _ (fun ad e => by have := H3.out ad e; simp; omega), fun _ h => (by cases h), fun ad e => by have := H3.out ad e; omega, HB2.out.setCell (by simp) _⟩
 ·obtain ⟨v, hcm, hv⟩ : ∃ v : Nat, cmpN a b = (v : Int) ∧ v ≤ 1 := by
   by_cases he : a = b
   ·exact ⟨0, cmpN_eq he, by omega⟩
   ·exact ⟨1, cmpN_gt (by omega), by omega⟩
  have HAB := Lib.hid hab
  clear hab
  obtain ⟨ad, rfl, hy⟩ := HH'.out.some hn1
  by_cases h1 : n' = 1
  ·subst h1
   have hb0 : (Lb.limbs b)[0]?.getD 0 = b := by
    have e1 := Lb.val_limbs b
    have e2 := Lb.val_split (Lb.limbs b) 0 (by have := HL'.out; omega)
    rw [List.drop_of_length_le (by have := HL'.out; omega)] at e2
    simp at e2
    omega
   have hbb : b < 65536 := by rw [← hb0]; exact Lb.getD_lt HH'.out.ok 0
   have hb1 : 1 ≤ b := by have := HB.out; omega
   have hy0 := hy 0 (by omega)
   rw [hb0, add_zero'] at hy0
   have HY := Lib.hid hy0
   clear hy hy0 hb0
   obtain ⟨r, hr⟩ : ∃ r, r = a % b := ⟨_, rfl⟩
   have hrb : r < b := by rw [hr]; exact Nat.mod_lt _ hb1
   have HR := Lib.hid hr
   clear hr
   have hro : Lb.Ok [r] := Lb.ok_cons.2 ⟨by omega, Lb.ok_nil⟩
   gi_wp2_with (first
    | (refine ⟨trivial, ?_⟩; gi_at_call 97; refine (callsIn_wide.2 (compare_any _ _ _ _ _ _ a b _ (HH.out.alloc _) (HH'.out.alloc _))).mono ?_; rintro e w1 ⟨rfl, hb1⟩; rw [hcm]; have e1 := (Blk.new w 33 #[.slice none 0 0]).below hb1 (by simp); have hy1 : w1.cell? ad = some (.int .u16 (b : Int)) := (hb1.cell (block_lt_of_cell (cell_alloc HY.out _))).trans (cell_alloc HY.out _); have HB1 := hide hb1; have E1 := hide e1; clear hb1 e1)
    | (refine ⟨trivial, ?_⟩; gi_at_call 160; refine (callsIn_wide.2 (short_any _ _ _ a b _ ((HH.out.alloc _).below HB1.out (by simp)) (by omega) (by omega) (by omega))).mono ?_; rintro e w2 ⟨A2, d2, he, h2, h3, h4⟩; rw [← HR.out] at he; subst he; have E2 := hide (E1.out.below h4 E1.out.lt); have HB2 := hide ((((Below.refl w.heap.size w).alloc (Nat.le_refl _) _).trans (HB1.out.mono (by simp))).trans (h4.mono (by have := E1.out.lt; omega))); have H2 := hide h2; have H3 := hide (fun ad e => Nat.le_trans E1.out.lt (h3 ad e)); clear h2 h3 h4)
    | (refine ⟨trivial, ?_⟩; gi_at_call 99; refine (callsIn_wide.2 (trimmed_any _ 1 1 [r] (w2.alloc (.cells #[.int .u16 (r : Int)] 51)) ⟨Rd.one w2 (u16 r) 51, hro⟩)).mono ?_; rintro e w3 ⟨rfl, rfl⟩; have hc3 := (E2.out.alloc (.cells #[.int .u16 (r : Int)] 51)).one; have hf3 := (E2.out.alloc (.cells #[.int .u16 (r : Int)] 51)).frozen 0))
   have hc4 := ((E2.out.alloc (.cells #[.int .u16 (r : Int)] 51)).set_ 0 (.slice A2 (Lb.limbs (a / b)).length d2)).one
   refine leave_plain (results_cellTmp rfl rfl rfl (v := .slice A2 (Lb.limbs (a / b)).length d2) (by simp [go_sem, hc4])) ?_
   have ht : Lb.trim [r] = Lb.limbs (a % b) := by rw [Lb.trim_limbs [r] hro, HR.out]; simp
   have hlt := E2.out.lt
   have hrr := (R16.mk (xs := [r]) (Rd.one w2 (u16 r) 51) hro).take (Lb.trim [r]).length (Lb.trim_length_le [r])
   rw [← Lb.trim_prefix, ht] at hrr
   refine ⟨A2, d2, some ⟨w2.heap.size, 0, none⟩, 1, by rw [← ht]; rfl, (H2.out.alloc _).far _ _ (fun ad e => by have := H3.out ad e; simp; omega), hrr.far _ _ (fun ad e => by cases e; simp; omega), fun ad e => by have := H3.out ad e; omega, fun ad e => by cases e; simp; omega, (HB2.out.alloc (by omega) _).setCell (by simp) _⟩
  ·obtain ⟨m, rfl⟩ : ∃ m, n' = m + 2 := ⟨n' - 2, by omega⟩
   clear hn1 h1
   obtain ⟨x, hx⟩ : ∃ x, x = (Lb.limbs b)[m + 1]?.getD 0 := ⟨_, rfl⟩
   have hxb : x < 65536 := by rw [hx]; exact Lb.getD_lt HH'.out.ok _
   have hx1 : 1 ≤ x := by
    have := Lb.limbs_top_ne HB.out
    rw [HL'.out, show m + 2 - 1 = m + 1 from rfl, ← hx] at this
    omega
   obtain ⟨s, hs, hse, ht1, ht2⟩ := shift_law hx1 hxb
   have hyt : w.cell? ⟨ad.block, ad.off + (m + 1), none⟩ = some (.int .u16 (x : Int)) := by rw [hx]; exact hy (m + 1) (by omega)
   have HY := Lib.hid hyt
   have HX := Lib.hid hx
   have HT1 := Lib.hid ht1
   have HT2 := Lib.hid ht2
   clear hyt hx ht1 ht2 hy
   gi_wp2_with (first
    | (refine ⟨trivial, ?_⟩; gi_at_call 97; refine (callsIn_wide.2 (compare_any _ _ _ _ _ _ a b _ (HH.out.alloc _) (HH'.out.alloc _))).mono ?_; rintro e w1 ⟨rfl, hb1⟩; rw [hcm]; have e1 := (Blk.new w 33 #[.slice none 0 0]).below hb1 (by simp); have hy1 : w1.cell? ⟨ad.block, ad.off + (m + 1), none⟩ = some (.int .u16 (x : Int)) := (hb1.cell (block_lt_of_cell (cell_alloc HY.out _))).trans (cell_alloc HY.out _); have HB1 := hide hb1; have E1 := hide e1; clear hb1 e1)
    | (refine ⟨trivial, ?_⟩; gi_at_call 161; refine (callsIn_wide.2 (Tryz.bits_LeadingZeros16 (x : Int) _ (by omega) (by omega))).mono ?_; rintro e w2 ⟨rfl, rfl⟩; rw [Int.toNat_natCast, hse]))
   have hsz1 : w.heap.size + 1 ≤ w2.heap.size := by have := HB1.out.size; simpa using this
   obtain ⟨W0, hW0⟩ : ∃ W0, W0 = w2.alloc (.cells #[.int .i64 ((m : Int) + 2)] 3) := ⟨_, rfl⟩
   have HX0 := hide (((HH.out.alloc (.cells #[.slice none 0 0] 33)).below HB1.out (by simp)).alloc (.cells #[.int .i64 ((m : Int) + 2)] 3))
   have HY0 := hide (((HH'.out.alloc (.cells #[.slice none 0 0] 33)).below HB1.out (by simp)).alloc (.cells #[.int .i64 ((m : Int) + 2)] 3))
   have E0 := hide (E1.out.alloc (.cells #[.int .i64 ((m : Int) + 2)] 3))
   have hN0 := Blk.new w2 3 #[.int .i64 ((m : Int) + 2)]
   have HBw := hide ((((Below.refl w.heap.size w).alloc (Nat.le_refl _) _).trans (HB1.out.mono (by simp))).alloc (by omega) (.cells #[.int .i64 ((m : Int) + 2)] 3))
   have hlt9 := hN0.lt
   have hn0 := hN0.one
   have HN0 := hide hN0
   rw [← hW0] at HX0 HY0 E0 hn0 hlt9 HN0 HBw ⊢
   generalize hbn : w2.heap.size = bn at *
   clear hN0 hW0 hy1 HB1 E1 hbn w2
   refine wpi_cutF (fun t t' w' => ∃ gu gv bu bv, t' = ((((((((((t.setIfInBounds 47 (.slice A n c)).setIfInBounds 48 (.int .i64 (s : Int))).setIfInBounds 50 (.slice (some ad) (m + 2) c')).setIfInBounds 51 (.int .i64 (s : Int))).setIfInBounds 53 (.int .i64 ((m : Int) + 2))).setIfInBounds 49 (.slice (some ⟨gu, 0, none⟩) (n + 1) (n + 1))).setIfInBounds 52 (.slice (some ⟨gv, 0, none⟩) (m + 3) (m + 3))).setIfInBounds 54 (.slice (some ⟨gv, 0, none⟩) (m + 2) (m + 3))).setIfInBounds 10 (.pointer (some ⟨bu, 0, none⟩))).setIfInBounds 11 (.pointer (some ⟨bv, 0, none⟩)))
    ∧ D7 W0.heap.size W0 (n + 1) (m + 3) (a * 2 ^ s) (b * 2 ^ s) gu gv bu bv w') ?_ ?_
   ·have hS := (Below.refl W0.heap.size W0).drew
    refine wpi_region_held isWide (Below W0.heap.size W0) 12 #[false, false, false, false, false, false, false, false, false, false, false, false] rfl rfl (by kernel_rfl) (by kernel_rfl) ?_
    generalize W0.drew = V0 at hS ⊢
    refine takeH 0 47 rfl rfl (by kernel_rfl) (by kernel_rfl) (by kernel_rfl) rfl hS (by rintro w' hs'; have hn9 := (hs'.cell hlt9).trans hn0; go_simp; with_reducible rfl) ?_
    simp only [List.setIfInBounds_toArray, List.set_cons_zero, List.set_cons_succ]
    refine takeH 1 48 rfl rfl (by kernel_rfl) (by kernel_rfl) (by kernel_rfl) rfl hS (by rintro w' hs'; have hn9 := (hs'.cell hlt9).trans hn0; go_simp; with_reducible rfl) ?_
    simp only [List.setIfInBounds_toArray, List.set_cons_zero, List.set_cons_succ]
    refine takeH 3 50 rfl rfl (by kernel_rfl) (by kernel_rfl) (by kernel_rfl) rfl hS (by rintro w' hs'; have hn9 := (hs'.cell hlt9).trans hn0; go_simp; with_reducible rfl) ?_
    simp only [List.setIfInBounds_toArray, List.set_cons_zero, List.set_cons_succ]
    refine takeH 4 51 rfl rfl (by kernel_rfl) (by kernel_rfl) (by kernel_rfl) rfl hS (by rintro w' hs'; have hn9 := (hs'.cell hlt9).trans hn0; go_simp; with_reducible rfl) ?_
    simp only [List.setIfInBounds_toArray, List.set_cons_zero, List.set_cons_succ]
    refine takeH 6 53 rfl rfl (by kernel_rfl) (by kernel_rfl) (by kernel_rfl) rfl hS (by rintro w' hs'; have hn9 := (hs'.cell hlt9).trans hn0; go_simp; with_reducible rfl) ?_
    simp only [List.setIfInBounds_toArray, List.set_cons_zero, List.set_cons_succ]
    refine onlyH3 2 8 9 (by kernel_rfl) rfl rfl rfl rfl rfl rfl ?_ ?_ ?_
    ·skip
     go_simp
     refine (shifted_any _ _ _ s _ V0 (HX0.out.below hS (Nat.le_refl _)) (by omega) hs).mono ?_
     rintro e V1 ⟨z, rfl, hI, hv⟩
     have fu := FRow.mk (V := a * 2 ^ s) hS.size hI (by rw [hv, Lb.val_limbs])
     have hb := hI.below
     clear hI hv
     refine ⟨hS.trans (hb.mono hS.size), ?_⟩
     replace hS := hS.trans (hb.mono hS.size)
     generalize V0.heap.size = GU at *
     refine onlyH3 5 8 9 (by kernel_rfl) rfl rfl rfl rfl rfl rfl ?_ ?_ ?_
     ·skip
      go_simp
      refine (shifted_any _ _ _ s _ V1 (HY0.out.below hS (Nat.le_refl _)) (by omega) hs).mono ?_
      rintro e V2 ⟨z, rfl, hI, hv⟩
      have fv := FRow.mk (V := b * 2 ^ s) hS.size hI (by rw [hv, Lb.val_limbs])
      have hb := hI.below
      clear hI hv
      have hgg : GU ≠ V1.heap.size := by have := fu.lt; omega
      refine ⟨hS.trans (hb.mono hS.size), ?_⟩
      replace hS := hS.trans (hb.mono hS.size)
      have fu := fu.next hb
      generalize V1.heap.size = GV at *
      refine takeH (v := .slice (some ⟨GV, 0, none⟩) (m + 2) (m + 3)) 7 54 rfl rfl (by kernel_rfl) (by kernel_rfl) (by kernel_rfl) rfl hS (by rintro w' hs'; go_simp; rw [if_pos (by omega), show ((m : Int) + 2).toNat = m + 2 from by omega]) ?_
      simp only [List.setIfInBounds_toArray, List.set_cons_zero, List.set_cons_succ]
      refine onlyH2 8 9 (by kernel_rfl) rfl rfl rfl rfl ?_ ?_
      ·skip
       go_simp
       have bu := Blk.new V2 33 #[.slice none 0 0]
       have hbu := hS.size
       have hb := (Below.refl V2.heap.size V2).alloc (Nat.le_refl _) (.cells #[.slice none 0 0] 33)
       refine ⟨hS.trans (hb.mono hS.size), ?_⟩
       generalize V2.alloc (.cells #[.slice none 0 0] 33) = V3 at bu hb ⊢
       replace hS := hS.trans (hb.mono hS.size)
       have fu := fu.next hb
       have fv := fv.next hb
       generalize V2.heap.size = BU at *
       refine onlyH 9 rfl (by kernel_rfl) rfl ?_
       go_simp
       have bv := Blk.new V3 33 #[.slice none 0 0]
       have hbv := hS.size
       have hb := (Below.refl V3.heap.size V3).alloc (Nat.le_refl _) (.cells #[.slice none 0 0] 33)
       have hbb : BU ≠ V3.heap.size := by have := bu.lt; omega
       refine ⟨hS.trans (hb.mono hS.size), ?_⟩
       generalize V3.alloc (.cells #[.slice none 0 0] 33) = V4 at bv hb ⊢
       replace hS := hS.trans (hb.mono hS.size)
       have fu := fu.next hb
       have fv := fv.next hb
       have bu := bu.next hb
       generalize V3.heap.size = BV at *
       have c1 := bu.one
       have c2 := bu.frozen 0
       have E := hide (div7_end hbu hbv hbb hgg fu fv bu bv hS)
       have c3 := E.out.1.2.one
       have c4 := E.out.1.2.frozen 0
       refine onlyH 10 rfl (by kernel_rfl) rfl ?_
       go_simp
       refine ⟨E.out.1.1, onlyH 11 rfl (by kernel_rfl) rfl ?_⟩
       go_simp
       refine ⟨E.out.2.1, wpAnyH_done (by kernel_rfl) (onlyN_intro ?_) _⟩
       exact ⟨⟨_, _, _, _, rfl, E.out.2⟩, rfl⟩
      ·skip
       go_simp
       have bv := Blk.new V2 33 #[.slice none 0 0]
       have hbv := hS.size
       have hb := (Below.refl V2.heap.size V2).alloc (Nat.le_refl _) (.cells #[.slice none 0 0] 33)
       refine ⟨hS.trans (hb.mono hS.size), ?_⟩
       generalize V2.alloc (.cells #[.slice none 0 0] 33) = V3 at bv hb ⊢
       replace hS := hS.trans (hb.mono hS.size)
       have fu := fu.next hb
       have fv := fv.next hb
       generalize V2.heap.size = BV at *
       refine onlyH 8 rfl (by kernel_rfl) rfl ?_
       go_simp
       have bu := Blk.new V3 33 #[.slice none 0 0]
       have hbu := hS.size
       have hb := (Below.refl V3.heap.size V3).alloc (Nat.le_refl _) (.cells #[.slice none 0 0] 33)
       have hbb : V3.heap.size ≠ BV := by have := bv.lt; omega
       refine ⟨hS.trans (hb.mono hS.size), ?_⟩
       generalize V3.alloc (.cells #[.slice none 0 0] 33) = V4 at bu hb ⊢
       replace hS := hS.trans (hb.mono hS.size)
       have fu := fu.next hb
       have fv := fv.next hb
       have bv := bv.next hb
       generalize V3.heap.size = BU at *
       have c1 := bu.one
       have c2 := bu.frozen 0
       have E := hide (div7_end hbu hbv hbb hgg fu fv bu bv hS)
       have c3 := E.out.1.2.one
       have c4 := E.out.1.2.frozen 0
       refine onlyH 10 rfl (by kernel_rfl) rfl ?_
       go_simp
       refine ⟨E.out.1.1, onlyH 11 rfl (by kernel_rfl) rfl ?_⟩
       go_simp
       refine ⟨E.out.2.1, wpAnyH_done (by kernel_rfl) (onlyN_intro ?_) _⟩
       exact ⟨⟨_, _, _, _, rfl, E.out.2⟩, rfl⟩
     ·skip
      go_simp
      have bu := Blk.new V1 33 #[.slice none 0 0]
      have hbu := hS.size
      have hb := (Below.refl V1.heap.size V1).alloc (Nat.le_refl _) (.cells #[.slice none 0 0] 33)
      refine ⟨hS.trans (hb.mono hS.size), ?_⟩
      generalize V1.alloc (.cells #[.slice none 0 0] 33) = V2 at bu hb ⊢
      replace hS := hS.trans (hb.mono hS.size)
      have fu := fu.next hb
      generalize V1.heap.size = BU at *
      refine onlyH2 5 9 (by kernel_rfl) rfl rfl rfl rfl ?_ ?_
      ·skip
       go_simp
       refine (shifted_any _ _ _ s _ V2 (HY0.out.below hS (Nat.le_refl _)) (by omega) hs).mono ?_
       rintro e V3 ⟨z, rfl, hI, hv⟩
       have fv := FRow.mk (V := b * 2 ^ s) hS.size hI (by rw [hv, Lb.val_limbs])
       have hb := hI.below
       clear hI hv
       have hgg : GU ≠ V2.heap.size := by have := fu.lt; omega
       refine ⟨hS.trans (hb.mono hS.size), ?_⟩
       replace hS := hS.trans (hb.mono hS.size)
       have fu := fu.next hb
       have bu := bu.next hb
       generalize V2.heap.size = GV at *
       refine takeH (v := .slice (some ⟨GV, 0, none⟩) (m + 2) (m + 3)) 7 54 rfl rfl (by kernel_rfl) (by kernel_rfl) (by kernel_rfl) rfl hS (by rintro w' hs'; go_simp; rw [if_pos (by omega), show ((m : Int) + 2).toNat = m + 2 from by omega]) ?_
       simp only [List.setIfInBounds_toArray, List.set_cons_zero, List.set_cons_succ]
       refine onlyH 9 rfl (by kernel_rfl) rfl ?_
       go_simp
       have bv := Blk.new V3 33 #[.slice none 0 0]
       have hbv := hS.size
       have hb := (Below.refl V3.heap.size V3).alloc (Nat.le_refl _) (.cells #[.slice none 0 0] 33)
       have hbb : BU ≠ V3.heap.size := by have := bu.lt; omega
       refine ⟨hS.trans (hb.mono hS.size), ?_⟩
       generalize V3.alloc (.cells #[.slice none 0 0] 33) = V4 at bv hb ⊢
       replace hS := hS.trans (hb.mono hS.size)
       have fu := fu.next hb
       have bu := bu.next hb
       have fv := fv.next hb
       generalize V3.heap.size = BV at *
       have c1 := bu.one
       have c2 := bu.frozen 0
       have E := hide (div7_end hbu hbv hbb hgg fu fv bu bv hS)
       have c3 := E.out.1.2.one
       have c4 := E.out.1.2.frozen 0
       refine onlyH 10 rfl (by kernel_rfl) rfl ?_
       go_simp
       refine ⟨E.out.1.1, onlyH 11 rfl (by kernel_rfl) rfl ?_⟩
       go_simp
       refine ⟨E.out.2.1, wpAnyH_done (by kernel_rfl) (onlyN_intro ?_) _⟩
       exact ⟨⟨_, _, _, _, rfl, E.out.2⟩, rfl⟩
      ·skip
       go_simp
       have bv := Blk.new V2 33 #[.slice none 0 0]
       have hbv := hS.size
       have hb := (Below.refl V2.heap.size V2).alloc (Nat.le_refl _) (.cells #[.slice none 0 0] 33)
       have hbb : BU ≠ V2.heap.size := by have := bu.lt; omega
       refine ⟨hS.trans (hb.mono hS.size), ?_⟩
       generalize V2.alloc (.cells #[.slice none 0 0] 33) = V3 at bv hb ⊢
       replace hS := hS.trans (hb.mono hS.size)
       have fu := fu.next hb
       have bu := bu.next hb
       generalize V2.heap.size = BV at *
       refine onlyH 5 rfl (by kernel_rfl) rfl ?_
       go_simp
       refine (shifted_any _ _ _ s _ V3 (HY0.out.below hS (Nat.le_refl _)) (by omega) hs).mono ?_
       rintro e V4 ⟨z, rfl, hI, hv⟩
       have fv := FRow.mk (V := b * 2 ^ s) hS.size hI (by rw [hv, Lb.val_limbs])
       have hb := hI.below
       clear hI hv
       have hgg : GU ≠ V3.heap.size := by have := fu.lt; omega
       refine ⟨hS.trans (hb.mono hS.size), ?_⟩
       replace hS := hS.trans (hb.mono hS.size)
       have fu := fu.next hb
       have bu := bu.next hb
       have bv := bv.next hb
       generalize V3.heap.size = GV at *
       refine takeH (v := .slice (some ⟨GV, 0, none⟩) (m + 2) (m + 3)) 7 54 rfl rfl (by kernel_rfl) (by kernel_rfl) (by kernel_rfl) rfl hS (by rintro w' hs'; go_simp; rw [if_pos (by omega), show ((m : Int) + 2).toNat = m + 2 from by omega]) ?_
       simp only [List.setIfInBounds_toArray, List.set_cons_zero, List.set_cons_succ]
       have c1 := bu.one
       have c2 := bu.frozen 0
       have E := hide (div7_end hbu hbv hbb hgg fu fv bu bv hS)
       have c3 := E.out.1.2.one
       have c4 := E.out.1.2.frozen 0
       refine onlyH 10 rfl (by kernel_rfl) rfl ?_
       go_simp
       refine ⟨E.out.1.1, onlyH 11 rfl (by kernel_rfl) rfl ?_⟩
       go_simp
       refine ⟨E.out.2.1, wpAnyH_done (by kernel_rfl) (onlyN_intro ?_) _⟩
       exact ⟨⟨_, _, _, _, rfl, E.out.2⟩, rfl⟩
     ·skip
      go_simp
      have bv := Blk.new V1 33 #[.slice none 0 0]
      have hbv := hS.size
      have hb := (Below.refl V1.heap.size V1).alloc (Nat.le_refl _) (.cells #[.slice none 0 0] 33)
      refine ⟨hS.trans (hb.mono hS.size), ?_⟩
      generalize V1.alloc (.cells #[.slice none 0 0] 33) = V2 at bv hb ⊢
      replace hS := hS.trans (hb.mono hS.size)
      have fu := fu.next hb
      generalize V1.heap.size = BV at *
      refine onlyH2 5 8 (by kernel_rfl) rfl rfl rfl rfl ?_ ?_
      ·skip
       go_simp
       refine (shifted_any _ _ _ s _ V2 (HY0.out.below hS (Nat.le_refl _)) (by omega) hs).mono ?_
       rintro e V3 ⟨z, rfl, hI, hv⟩
       have fv := FRow.mk (V := b * 2 ^ s) hS.size hI (by rw [hv, Lb.val_limbs])
       have hb := hI.below
       clear hI hv
       have hgg : GU ≠ V2.heap.size := by have := fu.lt; omega
       refine ⟨hS.trans (hb.mono hS.size), ?_⟩
       replace hS := hS.trans (hb.mono hS.size)
       have fu := fu.next hb
       have bv := bv.next hb
       generalize V2.heap.size = GV at *
       refine takeH (v := .slice (some ⟨GV, 0, none⟩) (m + 2) (m + 3)) 7 54 rfl rfl (by kernel_rfl) (by kernel_rfl) (by kernel_rfl) rfl hS (by rintro w' hs'; go_simp; rw [if_pos (by omega), show ((m : Int) + 2).toNat = m + 2 from by omega]) ?_
       simp only [List.setIfInBounds_toArray, List.set_cons_zero, List.set_cons_succ]
       refine onlyH 8 rfl (by kernel_rfl) rfl ?_
       go_simp
       have bu := Blk.new V3 33 #[.slice none 0 0]
       have hbu := hS.size
       have hb := (Below.refl V3.heap.size V3).alloc (Nat.le_refl _) (.cells #[.slice none 0 0] 33)
       have hbb : V3.heap.size ≠ BV := by have := bv.lt; omega
       refine ⟨hS.trans (hb.mono hS.size), ?_⟩
       generalize V3.alloc (.cells #[.slice none 0 0] 33) = V4 at bu hb ⊢
       replace hS := hS.trans (hb.mono hS.size)
       have fu := fu.next hb
       have bv := bv.next hb
       have fv := fv.next hb
       generalize V3.heap.size = BU at *
       have c1 := bu.one
       have c2 := bu.frozen 0
       have E := hide (div7_end hbu hbv hbb hgg fu fv bu bv hS)
       have c3 := E.out.1.2.one
       have c4 := E.out.1.2.frozen 0
       refine onlyH 10 rfl (by kernel_rfl) rfl ?_
       go_simp
       refine ⟨E.out.1.1, onlyH 11 rfl (by kernel_rfl) rfl ?_⟩
       go_simp
       refine ⟨E.out.2.1, wpAnyH_done (by kernel_rfl) (onlyN_intro ?_) _⟩
       exact ⟨⟨_, _, _, _, rfl, E.out.2⟩, rfl⟩
      ·skip
       go_simp
       have bu := Blk.new V2 33 #[.slice none 0 0]
       have hbu := hS.size
       have hb := (Below.refl V2.heap.size V2).alloc (Nat.le_refl _) (.cells #[.slice none 0 0] 33)
       have hbb : V2.heap.size ≠ BV := by have := bv.lt; omega
       refine ⟨hS.trans (hb.mono hS.size), ?_⟩
       generalize V2.alloc (.cells #[.slice none 0 0] 33) = V3 at bu hb ⊢
       replace hS := hS.trans (hb.mono hS.size)
       have fu := fu.next hb
       have bv := bv.next hb
       generalize V2.heap.size = BU at *
       refine onlyH 5 rfl (by kernel_rfl) rfl ?_
       go_simp
       refine (shifted_any _ _ _ s _ V3 (HY0.out.below hS (Nat.le_refl _)) (by omega) hs).mono ?_
       rintro e V4 ⟨z, rfl, hI, hv⟩
       have fv := FRow.mk (V := b * 2 ^ s) hS.size hI (by rw [hv, Lb.val_limbs])
       have hb := hI.below
       clear hI hv
       have hgg : GU ≠ V3.heap.size := by have := fu.lt; omega
       refine ⟨hS.trans (hb.mono hS.size), ?_⟩
       replace hS := hS.trans (hb.mono hS.size)
       have fu := fu.next hb
       have bv := bv.next hb
       have bu := bu.next hb
       generalize V3.heap.size = GV at *
       refine takeH (v := .slice (some ⟨GV, 0, none⟩) (m + 2) (m + 3)) 7 54 rfl rfl (by kernel_rfl) (by kernel_rfl) (by kernel_rfl) rfl hS (by rintro w' hs'; go_simp; rw [if_pos (by omega), show ((m : Int) + 2).toNat = m + 2 from by omega]) ?_
       simp only [List.setIfInBounds_toArray, List.set_cons_zero, List.set_cons_succ]
       have c1 := bu.one
       have c2 := bu.frozen 0
       have E := hide (div7_end hbu hbv hbb hgg fu fv bu bv hS)
       have c3 := E.out.1.2.one
       have c4 := E.out.1.2.frozen 0
       refine onlyH 10 rfl (by kernel_rfl) rfl ?_
       go_simp
       refine ⟨E.out.1.1, onlyH 11 rfl (by kernel_rfl) rfl ?_⟩
       go_simp
       refine ⟨E.out.2.1, wpAnyH_done (by kernel_rfl) (onlyN_intro ?_) _⟩
       exact ⟨⟨_, _, _, _, rfl, E.out.2⟩, rfl⟩
    ·skip
     go_simp
     have bu := Blk.new V0 33 #[.slice none 0 0]
     have hbu := hS.size
     have hb := (Below.refl V0.heap.size V0).alloc (Nat.le_refl _) (.cells #[.slice none 0 0] 33)
     refine ⟨hS.trans (hb.mono hS.size), ?_⟩
     generalize V0.alloc (.cells #[.slice none 0 0] 33) = V1 at bu hb ⊢
     replace hS := hS.trans (hb.mono hS.size)
     generalize V0.heap.size = BU at *
     refine onlyH2 2 9 (by kernel_rfl) rfl rfl rfl rfl ?_ ?_
     ·skip
      go_simp
      refine (shifted_any _ _ _ s _ V1 (HX0.out.below hS (Nat.le_refl _)) (by omega) hs).mono ?_
      rintro e V2 ⟨z, rfl, hI, hv⟩
      have fu := FRow.mk (V := a * 2 ^ s) hS.size hI (by rw [hv, Lb.val_limbs])
      have hb := hI.below
      clear hI hv
      refine ⟨hS.trans (hb.mono hS.size), ?_⟩
      replace hS := hS.trans (hb.mono hS.size)
      have bu := bu.next hb
      generalize V1.heap.size = GU at *
      refine onlyH2 5 9 (by kernel_rfl) rfl rfl rfl rfl ?_ ?_
      ·skip
       go_simp
       refine (shifted_any _ _ _ s _ V2 (HY0.out.below hS (Nat.le_refl _)) (by omega) hs).mono ?_
       rintro e V3 ⟨z, rfl, hI, hv⟩
       have fv := FRow.mk (V := b * 2 ^ s) hS.size hI (by rw [hv, Lb.val_limbs])
       have hb := hI.below
       clear hI hv
       have hgg : GU ≠ V2.heap.size := by have := fu.lt; omega
       refine ⟨hS.trans (hb.mono hS.size), ?_⟩
       replace hS := hS.trans (hb.mono hS.size)
       have bu := bu.next hb
       have fu := fu.next hb
       generalize V2.heap.size = GV at *
       refine takeH (v := .slice (some ⟨GV, 0, none⟩) (m + 2) (m + 3)) 7 54 rfl rfl (by kernel_rfl) (by kernel_rfl) (by kernel_rfl) rfl hS (by rintro w' hs'; go_simp; rw [if_pos (by omega), show ((m : Int) + 2).toNat = m + 2 from by omega]) ?_
       simp only [List.setIfInBounds_toArray, List.set_cons_zero, List.set_cons_succ]
       refine onlyH 9 rfl (by kernel_rfl) rfl ?_
       go_simp
       have bv := Blk.new V3 33 #[.slice none 0 0]
       have hbv := hS.size
       have hb := (Below.refl V3.heap.size V3).alloc (Nat.le_refl _) (.cells #[.slice none 0 0] 33)
       have hbb : BU ≠ V3.heap.size := by have := bu.lt; omega
       refine ⟨hS.trans (hb.mono hS.size), ?_⟩
       generalize V3.alloc (.cells #[.slice none 0 0] 33) = V4 at bv hb ⊢
       replace hS := hS.trans (hb.mono hS.size)
       have bu := bu.next hb
       have fu := fu.next hb
       have fv := fv.next hb
       generalize V3.heap.size = BV at *
       have c1 := bu.one
       have c2 := bu.frozen 0
       have E := hide (div7_end hbu hbv hbb hgg fu fv bu bv hS)
       have c3 := E.out.1.2.one
       have c4 := E.out.1.2.frozen 0
       refine onlyH 10 rfl (by kernel_rfl) rfl ?_
       go_simp
       refine ⟨E.out.1.1, onlyH 11 rfl (by kernel_rfl) rfl ?_⟩
       go_simp
       refine ⟨E.out.2.1, wpAnyH_done (by kernel_rfl) (onlyN_intro ?_) _⟩
       exact ⟨⟨_, _, _, _, rfl, E.out.2⟩, rfl⟩
      ·skip
       go_simp
       have bv := Blk.new V2 33 #[.slice none 0 0]
       have hbv := hS.size
       have hb := (Below.refl V2.heap.size V2).alloc (Nat.le_refl _) (.cells #[.slice none 0 0] 33)
       have hbb : BU ≠ V2.heap.size := by have := bu.lt; omega
       refine ⟨hS.trans (hb.mono hS.size), ?_⟩
       generalize V2.alloc (.cells #[.slice none 0 0] 33) = V3 at bv hb ⊢
       replace hS := hS.trans (hb.mono hS.size)
       have bu := bu.next hb
       have fu := fu.next hb
       generalize V2.heap.size = BV at *
       refine onlyH 5 rfl (by kernel_rfl) rfl ?_
       go_simp
       refine (shifted_any _ _ _ s _ V3 (HY0.out.below hS (Nat.le_refl _)) (by omega) hs).mono ?_
       rintro e V4 ⟨z, rfl, hI, hv⟩
       have fv := FRow.mk (V := b * 2 ^ s) hS.size hI (by rw [hv, Lb.val_limbs])
       have hb := hI.below
       clear hI hv
       have hgg : GU ≠ V3.heap.size := by have := fu.lt; omega
       refine ⟨hS.trans (hb.mono hS.size), ?_⟩
       replace hS := hS.trans (hb.mono hS.size)
       have bu := bu.next hb
       have fu := fu.next hb
       have bv := bv.next hb
       generalize V3.heap.size = GV at *
       refine takeH (v := .slice (some ⟨GV, 0, none⟩) (m + 2) (m + 3)) 7 54 rfl rfl (by kernel_rfl) (by kernel_rfl) (by kernel_rfl) rfl hS (by rintro w' hs'; go_simp; rw [if_pos (by omega), show ((m : Int) + 2).toNat = m + 2 from by omega]) ?_
       simp only [List.setIfInBounds_toArray, List.set_cons_zero, List.set_cons_succ]
       have c1 := bu.one
       have c2 := bu.frozen 0
       have E := hide (div7_end hbu hbv hbb hgg fu fv bu bv hS)
       have c3 := E.out.1.2.one
       have c4 := E.out.1.2.frozen 0
       refine onlyH 10 rfl (by kernel_rfl) rfl ?_
       go_simp
       refine ⟨E.out.1.1, onlyH 11 rfl (by kernel_rfl) rfl ?_⟩
       go_simp
       refine ⟨E.out.2.1, wpAnyH_done (by kernel_rfl) (onlyN_intro ?_) _⟩
       exact ⟨⟨_, _, _, _, rfl, E.out.2⟩, rfl⟩
     ·skip
      go_simp
      have bv := Blk.new V1 33 #[.slice none 0 0]
      have hbv := hS.size
      have hb := (Below.refl V1.heap.size V1).alloc (Nat.le_refl _) (.cells #[.slice none 0 0] 33)
      have hbb : BU ≠ V1.heap.size := by have := bu.lt; omega
      refine ⟨hS.trans (hb.mono hS.size), ?_⟩
      generalize V1.alloc (.cells #[.slice none 0 0] 33) = V2 at bv hb ⊢
      replace hS := hS.trans (hb.mono hS.size)
      have bu := bu.next hb
      generalize V1.heap.size = BV at *
      refine onlyH 2 rfl (by kernel_rfl) rfl ?_
      go_simp
      refine (shifted_any _ _ _ s _ V2 (HX0.out.below hS (Nat.le_refl _)) (by omega) hs).mono ?_
      rintro e V3 ⟨z, rfl, hI, hv⟩
      have fu := FRow.mk (V := a * 2 ^ s) hS.size hI (by rw [hv, Lb.val_limbs])
      have hb := hI.below
      clear hI hv
      refine ⟨hS.trans (hb.mono hS.size), ?_⟩
      replace hS := hS.trans (hb.mono hS.size)
      have bu := bu.next hb
      have bv := bv.next hb
      generalize V2.heap.size = GU at *
      refine onlyH 5 rfl (by kernel_rfl) rfl ?_
      go_simp
      refine (shifted_any _ _ _ s _ V3 (HY0.out.below hS (Nat.le_refl _)) (by omega) hs).mono ?_
      rintro e V4 ⟨z, rfl, hI, hv⟩
      have fv := FRow.mk (V := b * 2 ^ s) hS.size hI (by rw [hv, Lb.val_limbs])
      have hb := hI.below
      clear hI hv
      have hgg : GU ≠ V3.heap.size := by have := fu.lt; omega
      refine ⟨hS.trans (hb.mono hS.size), ?_⟩
      replace hS := hS.trans (hb.mono hS.size)
      have bu := bu.next hb
      have bv := bv.next hb
      have fu := fu.next hb
      generalize V3.heap.size = GV at *
      refine takeH (v := .slice (some ⟨GV, 0, none⟩) (m + 2) (m + 3)) 7 54 rfl rfl (by kernel_rfl) (by kernel_rfl) (by kernel_rfl) rfl hS (by rintro w' hs'; go_simp; rw [if_pos (by omega), show ((m : Int) + 2).toNat = m + 2 from by omega]) ?_
      simp only [List.setIfInBounds_toArray, List.set_cons_zero, List.set_cons_succ]
      have c1 := bu.one
      have c2 := bu.frozen 0
      have E := hide (div7_end hbu hbv hbb hgg fu fv bu bv hS)
      have c3 := E.out.1.2.one
      have c4 := E.out.1.2.frozen 0
      refine onlyH 10 rfl (by kernel_rfl) rfl ?_
      go_simp
      refine ⟨E.out.1.1, onlyH 11 rfl (by kernel_rfl) rfl ?_⟩
      go_simp
      refine ⟨E.out.2.1, wpAnyH_done (by kernel_rfl) (onlyN_intro ?_) _⟩
      exact ⟨⟨_, _, _, _, rfl, E.out.2⟩, rfl⟩
    ·skip
     go_simp
     have bv := Blk.new V0 33 #[.slice none 0 0]
     have hbv := hS.size
     have hb := (Below.refl V0.heap.size V0).alloc (Nat.le_refl _) (.cells #[.slice none 0 0] 33)
     refine ⟨hS.trans (hb.mono hS.size), ?_⟩
     generalize V0.alloc (.cells #[.slice none 0 0] 33) = V1 at bv hb ⊢
     replace hS := hS.trans (hb.mono hS.size)
     generalize V0.heap.size = BV at *
     refine onlyH2 2 8 (by kernel_rfl) rfl rfl rfl rfl ?_ ?_
     ·skip
      go_simp
      refine (shifted_any _ _ _ s _ V1 (HX0.out.below hS (Nat.le_refl _)) (by omega) hs).mono ?_
      rintro e V2 ⟨z, rfl, hI, hv⟩
      have fu := FRow.mk (V := a * 2 ^ s) hS.size hI (by rw [hv, Lb.val_limbs])
      have hb := hI.below
      clear hI hv
      refine ⟨hS.trans (hb.mono hS.size), ?_⟩
      replace hS := hS.trans (hb.mono hS.size)
      have bv := bv.next hb
      generalize V1.heap.size = GU at *
      refine onlyH2 5 8 (by kernel_rfl) rfl rfl rfl rfl ?_ ?_
      ·skip
       go_simp
       refine (shifted_any _ _ _ s _ V2 (HY0.out.below hS (Nat.le_refl _)) (by omega) hs).mono ?_
       rintro e V3 ⟨z, rfl, hI, hv⟩
       have fv := FRow.mk (V := b * 2 ^ s) hS.size hI (by rw [hv, Lb.val_limbs])
       have hb := hI.below
       clear hI hv
       have hgg : GU ≠ V2.heap.size := by have := fu.lt; omega
       refine ⟨hS.trans (hb.mono hS.size), ?_⟩
       replace hS := hS.trans (hb.mono hS.size)
       have bv := bv.next hb
       have fu := fu.next hb
       generalize V2.heap.size = GV at *
       refine takeH (v := .slice (some ⟨GV, 0, none⟩) (m + 2) (m + 3)) 7 54 rfl rfl (by kernel_rfl) (by kernel_rfl) (by kernel_rfl) rfl hS (by rintro w' hs'; go_simp; rw [if_pos (by omega), show ((m : Int) + 2).toNat = m + 2 from by omega]) ?_
       simp only [List.setIfInBounds_toArray, List.set_cons_zero, List.set_cons_succ]
       refine onlyH 8 rfl (by kernel_rfl) rfl ?_
       go_simp
       have bu := Blk.new V3 33 #[.slice none 0 0]
       have hbu := hS.size
       have hb := (Below.refl V3.heap.size V3).alloc (Nat.le_refl _) (.cells #[.slice none 0 0] 33)
       have hbb : V3.heap.size ≠ BV := by have := bv.lt; omega
       refine ⟨hS.trans (hb.mono hS.size), ?_⟩
       generalize V3.alloc (.cells #[.slice none 0 0] 33) = V4 at bu hb ⊢
       replace hS := hS.trans (hb.mono hS.size)
       have bv := bv.next hb
       have fu := fu.next hb
       have fv := fv.next hb
       generalize V3.heap.size = BU at *
       have c1 := bu.one
       have c2 := bu.frozen 0
       have E := hide (div7_end hbu hbv hbb hgg fu fv bu bv hS)
       have c3 := E.out.1.2.one
       have c4 := E.out.1.2.frozen 0
       refine onlyH 10 rfl (by kernel_rfl) rfl ?_
       go_simp
       refine ⟨E.out.1.1, onlyH 11 rfl (by kernel_rfl) rfl ?_⟩
       go_simp
       refine ⟨E.out.2.1, wpAnyH_done (by kernel_rfl) (onlyN_intro ?_) _⟩
       exact ⟨⟨_, _, _, _, rfl, E.out.2⟩, rfl⟩
      ·skip
       go_simp
       have bu := Blk.new V2 33 #[.slice none 0 0]
       have hbu := hS.size
       have hb := (Below.refl V2.heap.size V2).alloc (Nat.le_refl _) (.cells #[.slice none 0 0] 33)
       have hbb : V2.heap.size ≠ BV := by have := bv.lt; omega
       refine ⟨hS.trans (hb.mono hS.size), ?_⟩
       generalize V2.alloc (.cells #[.slice none 0 0] 33) = V3 at bu hb ⊢
       replace hS := hS.trans (hb.mono hS.size)
       have bv := bv.next hb
       have fu := fu.next hb
       generalize V2.heap.size = BU at *
       refine onlyH 5 rfl (by kernel_rfl) rfl ?_
       go_simp
       refine (shifted_any _ _ _ s _ V3 (HY0.out.below hS (Nat.le_refl _)) (by omega) hs).mono ?_
       rintro e V4 ⟨z, rfl, hI, hv⟩
       have fv := FRow.mk (V := b * 2 ^ s) hS.size hI (by rw [hv, Lb.val_limbs])
       have hb := hI.below
       clear hI hv
       have hgg : GU ≠ V3.heap.size := by have := fu.lt; omega
       refine ⟨hS.trans (hb.mono hS.size), ?_⟩
       replace hS := hS.trans (hb.mono hS.size)
       have bv := bv.next hb
       have fu := fu.next hb
       have bu := bu.next hb
       generalize V3.heap.size = GV at *
       refine takeH (v := .slice (some ⟨GV, 0, none⟩) (m + 2) (m + 3)) 7 54 rfl rfl (by kernel_rfl) (by kernel_rfl) (by kernel_rfl) rfl hS (by rintro w' hs'; go_simp; rw [if_pos (by omega), show ((m : Int) + 2).toNat = m + 2 from by omega]) ?_
       simp only [List.setIfInBounds_toArray, List.set_cons_zero, List.set_cons_succ]
       have c1 := bu.one
       have c2 := bu.frozen 0
       have E := hide (div7_end hbu hbv hbb hgg fu fv bu bv hS)
       have c3 := E.out.1.2.one
       have c4 := E.out.1.2.frozen 0
       refine onlyH 10 rfl (by kernel_rfl) rfl ?_
       go_simp
       refine ⟨E.out.1.1, onlyH 11 rfl (by kernel_rfl) rfl ?_⟩
       go_simp
       refine ⟨E.out.2.1, wpAnyH_done (by kernel_rfl) (onlyN_intro ?_) _⟩
       exact ⟨⟨_, _, _, _, rfl, E.out.2⟩, rfl⟩
     ·skip
      go_simp
      have bu := Blk.new V1 33 #[.slice none 0 0]
      have hbu := hS.size
      have hb := (Below.refl V1.heap.size V1).alloc (Nat.le_refl _) (.cells #[.slice none 0 0] 33)
      have hbb : V1.heap.size ≠ BV := by have := bv.lt; omega
      refine ⟨hS.trans (hb.mono hS.size), ?_⟩
      generalize V1.alloc (.cells #[.slice none 0 0] 33) = V2 at bu hb ⊢
      replace hS := hS.trans (hb.mono hS.size)
      have bv := bv.next hb
      generalize V1.heap.size = BU at *
      refine onlyH 2 rfl (by kernel_rfl) rfl ?_
      go_simp
      refine (shifted_any _ _ _ s _ V2 (HX0.out.below hS (Nat.le_refl _)) (by omega) hs).mono ?_
      rintro e V3 ⟨z, rfl, hI, hv⟩
      have fu := FRow.mk (V := a * 2 ^ s) hS.size hI (by rw [hv, Lb.val_limbs])
      have hb := hI.below
      clear hI hv
      refine ⟨hS.trans (hb.mono hS.size), ?_⟩
      replace hS := hS.trans (hb.mono hS.size)
      have bv := bv.next hb
      have bu := bu.next hb
      generalize V2.heap.size = GU at *
      refine onlyH 5 rfl (by kernel_rfl) rfl ?_
      go_simp
      refine (shifted_any _ _ _ s _ V3 (HY0.out.below hS (Nat.le_refl _)) (by omega) hs).mono ?_
      rintro e V4 ⟨z, rfl, hI, hv⟩
      have fv := FRow.mk (V := b * 2 ^ s) hS.size hI (by rw [hv, Lb.val_limbs])
      have hb := hI.below
      clear hI hv
      have hgg : GU ≠ V3.heap.size := by have := fu.lt; omega
      refine ⟨hS.trans (hb.mono hS.size), ?_⟩
      replace hS := hS.trans (hb.mono hS.size)
      have bv := bv.next hb
      have bu := bu.next hb
      have fu := fu.next hb
      generalize V3.heap.size = GV at *
      refine takeH (v := .slice (some ⟨GV, 0, none⟩) (m + 2) (m + 3)) 7 54 rfl rfl (by kernel_rfl) (by kernel_rfl) (by kernel_rfl) rfl hS (by rintro w' hs'; go_simp; rw [if_pos (by omega), show ((m : Int) + 2).toNat = m + 2 from by omega]) ?_
      simp only [List.setIfInBounds_toArray, List.set_cons_zero, List.set_cons_succ]
      have c1 := bu.one
      have c2 := bu.frozen 0
      have E := hide (div7_end hbu hbv hbb hgg fu fv bu bv hS)
      have c3 := E.out.1.2.one
      have c4 := E.out.1.2.frozen 0
      refine onlyH 10 rfl (by kernel_rfl) rfl ?_
      go_simp
      refine ⟨E.out.1.1, onlyH 11 rfl (by kernel_rfl) rfl ?_⟩
      go_simp
      refine ⟨E.out.2.1, wpAnyH_done (by kernel_rfl) (onlyN_intro ?_) _⟩
      exact ⟨⟨_, _, _, _, rfl, E.out.2⟩, rfl⟩
   ·intro t' w' hG
    obtain ⟨gu, gv, bu, bv, ht, h7⟩ := hG
    simp only [List.setIfInBounds_toArray, List.set_cons_zero, List.set_cons_succ] at ht
    subst ht
    obtain ⟨hb7, ⟨zu, hu, hvu⟩, ⟨zv, hv7, hvv⟩, hbu, hbv, hne, hgg, hBu, hBv⟩ := h7
    obtain ⟨q, rfl⟩ : ∃ q, n = m + 2 + q := ⟨n - (m + 2), by have := Lb.limbs_length_mono (a := b) (b := a) (by have := HAB.out; omega); have := HL.out; have := HL'.out; omega⟩
    obtain ⟨hV1, hV2, hV3, hV4⟩ := Lb.shift_top (Lb.ok_limbs b) HL'.out hv7.ok hv7.len (s := s) (by rw [← HX.out]; exact HT1.out) (by rw [← HX.out]; exact HT2.out) (by rw [Lb.val_limbs]; exact hvv)
    rw [Lb.val_limbs] at hV1 hV3 hV4
    have hZ := Lb.shift_small (k := m + 1) (Lb.ok_limbs a) HL.out (Lb.val_limbs a) hs hV4 (by omega)
    rw [show m + 2 + q - (m + 1) = q + 1 from by omega] at hZ
    have hU : Hid (RowI W0.heap.size gu (m + 2 + q + 1) w' zu ∧ Lb.val zu = a * 2 ^ s) := ⟨hu, hvu⟩
    have hVV : Hid (RowI W0.heap.size gv (m + 3) w' zv ∧ Lb.val zv = b * 2 ^ s) := ⟨hv7, hvv⟩
    have HVF : Hid (Lb.val (zv.take (m + 2)) = b * 2 ^ s ∧ 32768 ≤ (zv.take (m + 2))[m + 1]?.getD 0 ∧ b * 2 ^ s < 65536 ^ (m + 2) ∧ a * 2 ^ s < 65536 ^ (q + 1) * (b * 2 ^ s)) := ⟨hV1, hV2, hV3, hZ⟩
    have hgv := (FRow.lt ⟨zv, hv7, hvv⟩)
    have hgu := (FRow.lt ⟨zu, hu, hvu⟩)
    have hc1 := hbu.one
    have hc2 := (HN0.out.below hb7 hlt9).one
    have hc3 := (E0.out.below hb7 E0.out.lt).one
    have hf3 := (E0.out.below hb7 E0.out.lt).frozen 0
    have hc4 := hbv.one
    obtain ⟨i0, hi, hz0, hz1, hz2⟩ := info_parts u16_info
    clear hV1 hV2 hV3 hV4 hZ hu hvu hv7 hvv
    gi_wp2_with (gi_at_make; refine wpi_make _ rfl _ _ 33 rfl w'.heap.size 51 i0 (.int .u16 0) 1 Tryz.underlying33 hi hz0 hz1 _ (q + 1) rfl rfl (by omega) ?c1 ?c2 ?c3 ?_)
    case c1 => rw [hz2]; omega
    case c2 => simp only [maxLen]; omega
    case c3 => exact Nat.le_refl _
    intro w4 hown hgr
    have hbw4 : Below w'.heap.size w' w4 := (Below.refl _ w').grown hgr (Nat.le_refl _) (fun k hk => by cases hk)
    rw [made_u16] at hown
    have hq0 := hown.lt _ rfl
    have e4 := (E0.out.below hb7 E0.out.lt).below hbw4 (by have := E0.out.lt; have := hb7.size; omega)
    have hc3' := e4.one
    have hf3' := e4.frozen 0
    have hc5 := (e4.set_ 0 (.slice (some ⟨w'.heap.size, 0, none⟩) (q + 1) (q + 1))).one
    clear hc3 hf3 hc1 hc2 hc4
    gi_wp2_with ((refine ⟨trivial, ?_⟩; gi_at_call 120; refine (callsIn_wide.2 (down_any _ _ _ _)).mono ?_; rintro e w5 ⟨rfl, rfl⟩))
    have hBW := HBw.out.size
    have hWw := hb7.size
    have hgr1 := hbw4.size
    obtain ⟨W5, hW5⟩ : ∃ W5, W5 = ((w4.setCell { block := w.heap.size, off := 0 } (Value.slice (some { block := w'.heap.size, off := 0 }) (q + 1) (q + 1))).alloc (Obj.cells #[Value.slice (some { block := w'.heap.size, off := 0 }) (q + 1) (q + 1)] 33)) := ⟨_, rfl⟩
    have hbox : Blk W5 w4.heap.size 33 #[.slice (some ⟨w'.heap.size, 0, none⟩) (q + 1) (q + 1)] := by
     rw [hW5]
     have := Blk.new (w4.setCell { block := w.heap.size, off := 0 } (Value.slice (some { block := w'.heap.size, off := 0 }) (q + 1) (q + 1))) 33 #[.slice (some ⟨w'.heap.size, 0, none⟩) (q + 1) (q + 1)]
     simpa using this
    have hs5 : W5.heap.size = w4.heap.size + 1 := by rw [hW5]; simp
    obtain ⟨p, hp⟩ : ∃ p : DvP, p = ⟨w.heap.size, bn, bu, bv, gu, gv, w'.heap.size, w4.heap.size, m, q, a * 2 ^ s, b * 2 ^ s, w.heap.size, zv⟩ := ⟨_, rfl⟩
    have hG : DvG p := by
     subst hp
     exact ⟨hgg, by simp; omega, by simp; omega, by simp; omega, by simp; omega, by simp; omega, HVF.out.1, HVF.out.2.1, HVF.out.2.2.1⟩
    have hI0 : DvI p w (q + 1) zu (List.replicate (q + 1) 0) W5 := by
     subst hp
     have k1 : Below w.heap.size w w4 := (HBw.out.trans (hb7.mono hBW)).trans (hbw4.mono (by omega))
     have ru := (hU.out.1.next hbw4).set30 e4 0 (.slice (some ⟨w'.heap.size, 0, none⟩) (q + 1) (q + 1))
     have rv := (hVV.out.1.next hbw4).set30 e4 0 (.slice (some ⟨w'.heap.size, 0, none⟩) (q + 1) (q + 1))
     have rq : RowI w'.heap.size w'.heap.size (q + 1) w4 (List.replicate (q + 1) 0) := ⟨by simp, Lb.ok_replicate _, hown⟩
     have rq2 := rq.set30 e4 0 (.slice (some ⟨w'.heap.size, 0, none⟩) (q + 1) (q + 1))
     rw [hW5]
     refine ⟨(e4.set_ 0 _).alloc _, ?_, ?_, ?_, (ru.alloc _).base hBW, (rv.alloc _).base hBW, (rq2.alloc _).base (show w.heap.size ≤ w'.heap.size by omega), (k1.setCell (Nat.le_refl _) _).alloc (by simp; omega) _, ?_, ?_⟩
     ·exact (((HN0.out.below hb7 hlt9).below hbw4 (by omega)).far (p := ⟨w.heap.size, 0, none⟩) (by simp; omega) _).alloc _
     ·exact ((hbu.below hbw4 hbu.lt).far (p := ⟨w.heap.size, 0, none⟩) (by simp; omega) _).alloc _
     ·exact ((hbv.below hbw4 hbv.lt).far (p := ⟨w.heap.size, 0, none⟩) (by simp; omega) _).alloc _
     ·show Lb.val zu < _
      rw [hU.out.2]; exact HVF.out.2.2.2
     ·show _ = a * 2 ^ s
      rw [List.drop_of_length_le (by simp), hU.out.2]; simp
    have hSlt : w.heap.size < w4.heap.size := by omega
    rw [← hW5]
    generalize w4.heap.size = S at *
    generalize w'.heap.size = gq at *
    generalize hb4 : w.heap.size = b4 at *
    refine rf_law rfl (enters_of Tryz.func149 (by kernel_rfl) rfl) (down_iter S (q + 1) (q + 1) (some ⟨gq, 0, none⟩) _ (by omega) ?keep) (fun h k => DownK.trans h k) DownK.sim ?hm ?hf
     (DvK p w) (DvA p w) (DvB p w (DvF A ad m q c c' b4 bn bu bv gu gv gq S v s x)) (fun _ _ => False) (fun W => ∃ zs qs, DvI p w 0 zs qs W) ?i1 ?i2 ?i3 ?i4 ?i5 ?i6 ?asg ?body ?fin ?done ?stop
    case hm => rintro k W W' args ⟨rfl, j, _, ad, _, x, _, rfl⟩; exact ⟨keeps_refl _ _, rfl⟩
    case hf => rintro k W W' ⟨_, rfl⟩; exact keeps_refl _ _
    case keep =>
     intro W hW
     refine ⟨(hbox.below hW hbox.lt).one, fun _ => ?_⟩
     obtain ⟨ad', e, hx'⟩ := hI0.rq.r16.some (by omega)
     refine ⟨ad', ?_, fun j hj => ⟨_, (hW.cell (block_lt_of_cell (hx' j ?_))).trans (hx' j ?_)⟩⟩
     ·rw [← e, hp]
     ·rw [hp]; exact hj
     ·rw [hp]; exact hj
    case i1 => rintro k W W' ⟨j, zs, qs, h1, h2⟩ hs; exact ⟨j, zs, qs, h1, h2.sim hs (by rw [hp, hs5]; simp; omega)⟩
    case i2 => rintro k args a' W W' ⟨⟨j, zs, qs, x, h1, h2, h3⟩, h5⟩ hs; exact ⟨⟨j, zs, qs, x, h1, h2.sim hs (by rw [hp, hs5]; simp; omega), h3⟩, h5⟩
    case i3 => rintro c W W' h _; exact h.elim
    case i4 => rintro W W' ⟨zs, qs, h2⟩ hs; exact ⟨zs, qs, h2.sim hs (by rw [hp, hs5]; simp; omega)⟩
    case i5 =>
     intro W hW _
     exact ⟨q + 1, zu, _, by rw [hp], hI0.next hW⟩
    case i6 =>
     rintro k W W' args ⟨j, zs, qs, hj, h1⟩ ⟨rfl, j', hj', ad', e, x', hx', rfl⟩
     obtain rfl : j = j' + 1 := by rw [hp] at hj; simp at hj; omega
     exact ⟨j', zs, qs, _, by omega, h1, rfl⟩
    case fin =>
     rintro k W W' ⟨j, zs, qs, hj, h1⟩ ⟨rfl, rfl⟩
     obtain rfl : j = 0 := by rw [hp] at hj; simp at hj; omega
     exact ⟨zs, qs, h1⟩
    case stop => rintro D c W _ h; exact h.elim
    case asg =>
     rintro l k args W ⟨j, zs, qs, x', hj, hd, rfl⟩ _
     gi_wp2
     exact ⟨keeps_refl _ _, fun x => x, ⟨j, zs, qs, x', hj, hd, rfl⟩, rfl⟩
    case body =>
     rintro l k args a' W hlw hlr ⟨⟨j, zs, qs, x', hj, hI, rfl⟩, rfl⟩
     have hjq : j < q + 1 := by rw [hp] at hj; simp at hj; omega
     have hS0 := hI.drew.s
     have hSW : S < W.heap.size := by obtain ⟨r, hr⟩ := hlr; have := (Array.getElem?_eq_some_iff.1 hr).1; omega
     subst hp
     have hS : DvS _ W.drew := hS0
     have HI := hide hI
     have HJ := Lib.hid hj
     clear hI hj hlr hS0 hI0 hbox e4 hc5 hc3' hf3' hown hbu hbv hn0
     simp only [DvF, List.getElem?_toArray, List.getElem?_cons_zero, List.getElem?_cons_succ, Option.getD_some]
     gi_wp2
     refine wpi_region_held (isWide_round l) (DvS ⟨b4, bn, bu, bv, gu, gv, gq, S, m, q, a * 2 ^ s, b * 2 ^ s, b4, zv⟩) 13 #[false, false, false, false, false, false, false, false, false, false, false, false, false] rfl rfl (by kernel_rfl) (by kernel_rfl) ?_
     refine takeH 0 64 rfl rfl (by kernel_rfl) (by kernel_rfl) (by kernel_rfl) rfl hS (by rintro w9 ⟨s1, s2, s3, s4⟩; go_simp; with_reducible rfl) ?_
     simp only [List.setIfInBounds_toArray, List.set_cons_zero, List.set_cons_succ]
     refine takeH 1 65 rfl rfl (by kernel_rfl) (by kernel_rfl) (by kernel_rfl) rfl hS (by rintro w9 ⟨s1, s2, s3, s4⟩; go_simp; with_reducible rfl) ?_
     simp only [List.setIfInBounds_toArray, List.set_cons_zero, List.set_cons_succ]
     refine takeH 2 66 rfl rfl (by kernel_rfl) (by kernel_rfl) (by kernel_rfl) rfl hS (by rintro w9 ⟨s1, s2, s3, s4⟩; go_simp; with_reducible rfl) ?_
     simp only [List.setIfInBounds_toArray, List.set_cons_zero, List.set_cons_succ]
     refine takeH 3 67 rfl rfl (by kernel_rfl) (by kernel_rfl) (by kernel_rfl) rfl hS (by rintro w9 ⟨s1, s2, s3, s4⟩; go_simp; with_reducible rfl) ?_
     simp only [List.setIfInBounds_toArray, List.set_cons_zero, List.set_cons_succ]
     refine takeH 4 68 rfl rfl (by kernel_rfl) (by kernel_rfl) (by kernel_rfl) rfl hS (by rintro w9 ⟨s1, s2, s3, s4⟩; go_simp; with_reducible rfl) ?_
     simp only [List.setIfInBounds_toArray, List.set_cons_zero, List.set_cons_succ]
     refine takeH 5 69 rfl rfl (by kernel_rfl) (by kernel_rfl) (by kernel_rfl) rfl hS (by rintro w9 ⟨s1, s2, s3, s4⟩; go_simp; with_reducible rfl) ?_
     simp only [List.setIfInBounds_toArray, List.set_cons_zero, List.set_cons_succ]
     refine takeH (v := .int .i64 ((j : Int) + ((m : Int) + 2))) 6 70 rfl rfl (by kernel_rfl) (by kernel_rfl) (by kernel_rfl) rfl hS (by rintro w9 ⟨s1, s2, s3, s4⟩; go_simp; rw [wrap64 (by omega) (by omega)]) ?_
     simp only [List.setIfInBounds_toArray, List.set_cons_zero, List.set_cons_succ]
     refine takeH (v := .int .i64 ((j : Int) + ((m : Int) + 2) + 1)) 7 71 rfl rfl (by kernel_rfl) (by kernel_rfl) (by kernel_rfl) rfl hS (by rintro w9 ⟨s1, s2, s3, s4⟩; go_simp; rw [wrap64 (by omega) (by omega)]) ?_
     simp only [List.setIfInBounds_toArray, List.set_cons_zero, List.set_cons_succ]
     refine takeH (v := .slice (some ⟨gu, j, none⟩) (m + 3) (m + 2 + q + 1 - j)) 8 72 rfl rfl (by kernel_rfl) (by kernel_rfl) (by kernel_rfl) rfl hS (by rintro w9 ⟨s1, s2, s3, s4⟩; go_simp; rw [if_pos ⟨by omega, by omega⟩, if_pos (by omega), if_neg (by omega), show ((j : Int) + ((m : Int) + 2) + 1).toNat - j = m + 3 from by omega]) ?_
     simp only [List.setIfInBounds_toArray, List.set_cons_zero, List.set_cons_succ]
     refine takeH 9 73 rfl rfl (by kernel_rfl) (by kernel_rfl) (by kernel_rfl) rfl hS (by rintro w9 ⟨s1, s2, s3, s4⟩; go_simp; with_reducible rfl) ?_
     simp only [List.setIfInBounds_toArray, List.set_cons_zero, List.set_cons_succ]
     refine onlyH 10 rfl (by kernel_rfl) rfl ?_
     go_simp
     have hmm : j + m + 3 ≤ m + 2 + q + 1 := by omega
     have hVV : Lb.val (zv.take (m + 2)) = b * 2 ^ s := HVF.out.1
     refine (digit_any b4 gu (m + 2 + q + 1) j m _ _ (some ⟨gv, 0, none⟩) zs (zv.take (m + 2)) _ HI.out.drew.ru hmm (by omega) (HI.out.drew.rv.take16 (m + 2) (Nat.le_succ (m + 2))) (fun ad e => by cases e; exact Ne.symm hG.uv) HVF.out.2.1 (by rw [hVV]; have := HI.out.lt; rw [Nat.pow_succ, Nat.mul_right_comm] at this; exact this)).mono ?_
     rintro e W1 ⟨zs', rfl, r1, r2, r3⟩
     rw [hVV] at r2 ⊢
     obtain ⟨m1, m2, ⟨m3, m4⟩, m5⟩ := HI.out.drew.mid hG hjq r1 r2 r3
     have M1 := hide m1
     have M2 := hide m2
     have M5 := hide m5
     have m3' : W1.cell? ⟨gq, j, none⟩ = some (.int .u16 ((qs[j]?.getD 0 : Nat) : Int)) := m3
     have m4' : W1.frozen? ⟨gq, j, none⟩ = false := m4
     clear m1 m2 m5 m3 m4
     refine ⟨M1.out, ?_⟩
     refine takeH (v := .pointer (some ⟨gq, j, none⟩)) 11 75 rfl rfl (by kernel_rfl) (by kernel_rfl) (by kernel_rfl) rfl M1.out (by rintro w9 ⟨s1, s2, s3, s4⟩; go_simp; intro hh; omega) ?_
     simp only [List.setIfInBounds_toArray, List.set_cons_zero, List.set_cons_succ]
     refine onlyH 12 rfl (by kernel_rfl) rfl ?_
     go_simp
     refine ⟨M2.out _, wpAnyH_done (by kernel_rfl) ?_ _⟩
     have hgS := hG.uS
     have hqS := hG.qS
     refine ⟨keeps_trans (keeps_drew (keeps_refl _ _)) (keeps_trans (r3.keeps (by rw [hs5]; show gu < S + 1; have : gu < S := hgS; omega)) (keeps_setCell _ _ _ _)), M5.out.downK ?_, ⟨j, _, _, by have := HJ.out; omega, M5.out⟩⟩
     show World.cell? (World.setCell _ _ _) _ = _
     rw [World.cell?_setCell_other _ _ _ _ (fun e => by have : gq < S := hqS; injection e; omega)]
     exact World.cell?_of_block (r3.grown.block S hSW (fun e => by have : gu < S := hgS; injection e; omega))
    case done =>
     rintro D W hD ⟨zs, qs, hI⟩ hK
     have hS0 := hI.drew.s
     subst hp
     have hS : DvS _ W.drew := hS0
     have HI := hide hI
     clear hI hS0 hI0 hbox e4 hc5 hc3' hf3' hown hbu hbv hn0
     gi_wp2
     refine wpi_region_held isWide (DvS ⟨b4, bn, bu, bv, gu, gv, gq, S, m, q, a * 2 ^ s, b * 2 ^ s, b4, zv⟩) 12 #[false, false, false, false, false, false, false, false, false, false, false, false] rfl rfl (by kernel_rfl) (by kernel_rfl) ?_
     refine takeH 0 77 rfl rfl (by kernel_rfl) (by kernel_rfl) (by kernel_rfl) rfl hS (by rintro w9 ⟨s1, s2, s3, s4⟩; go_simp; with_reducible rfl) ?_
     simp only [List.setIfInBounds_toArray, List.set_cons_zero, List.set_cons_succ]
     refine takeH 1 78 rfl rfl (by kernel_rfl) (by kernel_rfl) (by kernel_rfl) rfl hS (by rintro w9 ⟨s1, s2, s3, s4⟩; go_simp; with_reducible rfl) ?_
     simp only [List.setIfInBounds_toArray, List.set_cons_zero, List.set_cons_succ]
     refine takeH (v := .slice (some ⟨gu, 0, none⟩) (m + 2) (m + 2 + q + 1)) 2 79 rfl rfl (by kernel_rfl) (by kernel_rfl) (by kernel_rfl) rfl hS (by rintro w9 ⟨s1, s2, s3, s4⟩; go_simp; rw [if_pos ⟨by omega, by omega⟩, show ((m : Int) + 2).toNat = m + 2 from by omega]) ?_
     simp only [List.setIfInBounds_toArray, List.set_cons_zero, List.set_cons_succ]
     refine takeH 4 81 rfl rfl (by kernel_rfl) (by kernel_rfl) (by kernel_rfl) rfl hS (by rintro w9 ⟨s1, s2, s3, s4⟩; go_simp; with_reducible rfl) ?_
     simp only [List.setIfInBounds_toArray, List.set_cons_zero, List.set_cons_succ]
     refine takeH 5 82 rfl rfl (by kernel_rfl) (by kernel_rfl) (by kernel_rfl) rfl hS (by rintro w9 ⟨s1, s2, s3, s4⟩; go_simp; with_reducible rfl) ?_
     simp only [List.setIfInBounds_toArray, List.set_cons_zero, List.set_cons_succ]
     refine onlyH 3 rfl (by kernel_rfl) rfl ?_
     go_simp
     refine (trimmed_any _ (m + 2) _ (zs.take (m + 2)) _ (HI.out.drew.ru.take16 (m + 2) (show m + 2 ≤ m + 2 + q + 1 by omega))).mono ?_
     rintro e W1 ⟨rfl, rfl⟩
     have hzV : Lb.val zs < b * 2 ^ s := by have := HI.out.lt; simpa using this
     have hzt : Lb.trim (zs.take (m + 2)) = Lb.limbs (Lb.val zs) := by
      rw [Lb.trim_limbs _ (Lb.ok_take HI.out.ru.ok _), Lb.take_all (by rw [HI.out.ru.len]; show m + 2 ≤ m + 2 + q + 1; omega) (Nat.lt_trans hzV HVF.out.2.2.1)]
     have hzr := (HI.out.drew.ru.take16 (m + 2) (show m + 2 ≤ m + 2 + q + 1 by omega)).take (Lb.trim (zs.take (m + 2))).length (Nat.le_trans (Lb.trim_length_le _) (List.length_take_le _ _))
     rw [← Lb.trim_prefix, hzt] at hzr
     rw [hzt]
     refine ⟨hS, ?_⟩
     refine onlyH 6 rfl (by kernel_rfl) rfl ?_
     go_simp
     obtain ⟨hp0, hp1⟩ := pow_le15 hs
     have hw2 : IntKind.u32.wrap ((2 : Int) ^ s) = ((2 ^ s : Nat) : Int) := by
      have e : (2 : Int) ^ s = ((2 ^ s : Nat) : Int) := by simp
      rw [IntKind.wrap_u32, e]; generalize 2 ^ s = P at *; omega
     rw [hw2]
     refine (short_any _ _ _ (Lb.val zs) (2 ^ s) _ hzr (by have := hzr.len; rw [← hzt]; exact Nat.le_trans (Lb.trim_length_le _) (Nat.le_trans (List.length_take_le _ _) (by omega))) hp0 (by omega)).mono ?_
     rintro e W2 ⟨A2, d2, rfl, h2, h3, h4⟩
     obtain ⟨hq1, hq2, hq3⟩ := Lb.div_all hzV HI.out.sum
     clear hq3
     rw [hq2] at h2 ⊢
     have H2 := HI.out.drew.next h4
     have hS2 : DvS _ W2 := H2.s
     have H2' := hide H2
     have HA2 := hide h2
     have HF2 := hide (fun ad e => Nat.le_trans (show W.heap.size ≤ W.drew.heap.size from Nat.le_refl _) (h3 ad e))
     have hDlt := (Array.getElem?_eq_some_iff.1 hK).1
     have hK2 := (h4.block D hDlt).trans hK
     have HQ1 := Lib.hid hq1
     clear h2 h3 H2 hq1 hq2 hw2
     refine ⟨hS2, ?_⟩
     refine takeH 7 76 rfl rfl (by kernel_rfl) (by kernel_rfl) (by kernel_rfl) rfl hS2 (by rintro w9 ⟨s1, s2, s3, s4⟩; go_simp; with_reducible rfl) ?_
     simp only [List.setIfInBounds_toArray, List.set_cons_zero, List.set_cons_succ]
     refine takeH 8 84 rfl rfl (by kernel_rfl) (by kernel_rfl) (by kernel_rfl) rfl hS2 (by rintro w9 ⟨s1, s2, s3, s4⟩; go_simp; with_reducible rfl) ?_
     simp only [List.setIfInBounds_toArray, List.set_cons_zero, List.set_cons_succ]
     refine takeH 9 85 rfl rfl (by kernel_rfl) (by kernel_rfl) (by kernel_rfl) rfl hS2 (by rintro w9 ⟨s1, s2, s3, s4⟩; go_simp; with_reducible rfl) ?_
     simp only [List.setIfInBounds_toArray, List.set_cons_zero, List.set_cons_succ]
     refine takeH 10 13 rfl rfl (by kernel_rfl) (by kernel_rfl) (by kernel_rfl) rfl hS2 (by rintro w9 ⟨s1, s2, s3, s4⟩; go_simp; with_reducible rfl) ?_
     simp only [List.setIfInBounds_toArray, List.set_cons_zero, List.set_cons_succ]
     refine takeH 11 14 rfl rfl (by kernel_rfl) (by kernel_rfl) (by kernel_rfl) rfl hS2 (by rintro w9 ⟨s1, s2, s3, s4⟩; go_simp; with_reducible rfl) ?_
     simp only [List.setIfInBounds_toArray, List.set_cons_zero, List.set_cons_succ]
     refine wpAnyH_done (by kernel_rfl) (onlyN_intro ?_) _
     have hq4 : Blk W2 b4 33 #[.slice (some ⟨gq, 0, none⟩) (q + 1) (q + 1)] := H2'.out.q4
     have hq4c := hq4.one
     have hq4f := hq4.frozen 0
     have HQ4 := hide hq4
     clear hq4 hS hS2
     gi_wp2_with (refine ⟨trivial, ?_⟩; gi_at_call 99; refine (callsIn_wide.2 (trimmed_any (some ⟨gq, 0, none⟩) (q + 1) (q + 1) qs W2 H2'.out.rq.r16)).mono ?_; rintro e w3 ⟨rfl, rfl⟩)
     have ht : Lb.trim qs = Lb.limbs (a / b) := by rw [Lb.trim_limbs qs H2'.out.rq.ok, HQ1.out]
     rw [ht]
     have hKK := (keeps_setCell 0 W2 ⟨b4, 0, none⟩ (.slice (some ⟨gq, 0, none⟩) (Lb.limbs (a / b)).length (q + 1))).same D _ (Nat.zero_le _) hK2 rfl
     have hq5 := HQ4.out.set_ 0 (.slice (some ⟨gq, 0, none⟩) (Lb.limbs (a / b)).length (q + 1))
     have hq6 := (hq5.putObj hKK (.deferred none)).one
     refine leave_mark hKK (results_cellTmp rfl rfl rfl (v := .slice (some ⟨gq, 0, none⟩) (Lb.limbs (a / b)).length (q + 1)) (by simp [go_sem, hq6])) ?_
     have hlq : (Lb.limbs (a / b)).length ≤ q + 1 := by rw [← ht]; exact Nat.le_trans (Lb.trim_length_le _) (by rw [H2'.out.rq.len]; exact Nat.le_refl _)
     have hrq := (H2'.out.rq.r16.take (Lb.limbs (a / b)).length hlq)
     have hqe : qs.take (Lb.limbs (a / b)).length = Lb.limbs (a / b) := by rw [← ht]; exact (Lb.trim_prefix qs).symm
     rw [hqe] at hrq
     have hSim := Sim.putObj (B := 0) (.deferred none) hKK rfl (Nat.zero_le _)
     have hb4q : gq ≠ b4 := Ne.symm (H2'.out.rq.ne HQ4.out (by decide))
     have hgq := H2'.out.rq.ge
     refine ⟨some ⟨gq, 0, none⟩, q + 1, A2, d2, rfl, (hrq.far _ _ (fun ad e => by cases e; exact hb4q)).sim hSim, (HA2.out.far _ _ (fun ad e => by have := HF2.out ad e; simp; omega)).sim hSim, fun ad e => by cases e; rw [hb4]; exact hgq.1, fun ad e => by have := HF2.out ad e; omega, below_putObj ((H2'.out.below.mono (by rw [hb4]; exact Nat.le_refl _)).setCell (by simp; omega) _) (by omega) _⟩
end Go.Proofs.YtjbcalbbhomkjaaGreat
