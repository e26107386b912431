import Derived.Deep.DeepCutAuto
import Derived.Deep.CutBlock
import Derived.Test.YtjbcalbbhomkjaaGreatEShift
import Derived.Test.YtjbcalbbhomkjaaGreatEKnuth
import Derived.Test.YtjbcalbbhomkjaaGreatEReg
namespace Go.Proofs.YtjbcalbbhomkjaaGreat
open Go.RowKit
structure RowI (base g N : Nat) (w : World) (zs : List Nat) : Prop where
 len : zs.length = N
 ok : Lb.Ok zs
 own : w.ownsRow base 51 1 (.slice (some ⟨g, 0, none⟩) N N) N (zs.map u16)
theorem RowI.cell {base g N : Nat} {w : World} {zs : List Nat} (h : RowI base g N w zs) (j : Nat) (hj : j < N) : w.cell? ⟨g, j, none⟩ = some (.int .u16 ((zs[j]?.getD 0 : Nat) : Int)) ∧ w.frozen? ⟨g, j, none⟩ = false := by
 refine ⟨?_, h.own.frozenAt j⟩
 rw [h.own.cellAt j (by omega), List.getElem?_map, List.getElem?_eq_getElem (by have := h.len; omega)]; rfl
theorem RowI.set {base g N : Nat} {w : World} {zs : List Nat} (h : RowI base g N w zs) (j x : Nat) (hx : x < 65536) : RowI base g N (w.setCell ⟨g, j, none⟩ (.int .u16 (x : Int))) (zs.set j x) := by
 refine ⟨by rw [List.length_set]; exact h.len, Lb.ok_set h.ok j x hx, ?_⟩
 have := h.own.stored j (.int .u16 (x : Int))
 rw [List.map_set]; exact this.1
theorem RowI.drewN {base g N : Nat} {w : World} {zs : List Nat} (h : RowI base g N w zs) (q : Nat) : RowI base g N (w.drewN q) zs := ⟨h.len, h.ok, h.own⟩
structure Only (g : Nat) (w w' : World) : Prop where
 grown : w.grownBy w' (some g)
 size : w'.heap.size = w.heap.size
theorem Only.refl (g : Nat) (w : World) : Only g w w := ⟨World.grownBy.refl _ _, rfl⟩
theorem Only.drewN {g : Nat} {w w' : World} (h : Only g w w') (q : Nat) : Only g w (w'.drewN q) := ⟨⟨h.grown.os, h.grown.tape, h.grown.output, h.grown.size, h.grown.block⟩, h.size⟩
theorem Only.drew {g : Nat} {w w' : World} (h : Only g w w') : Only g w w'.drew := ⟨⟨h.grown.os, h.grown.tape, h.grown.output, h.grown.size, h.grown.block⟩, h.size⟩
theorem Only.setCell {g : Nat} {w w' : World} (h : Only g w w') (j : Nat) (u : Value) : Only g w (w'.setCell ⟨g, j, none⟩ u) :=
 ⟨⟨h.grown.os, h.grown.tape, h.grown.output, by simpa [World.setCell] using h.grown.size, fun i hi hne => (Below.heap_setCell w' _ u i (by rintro rfl; exact hne rfl)).trans (h.grown.block i hi hne)⟩, by simpa [World.setCell] using h.size⟩
theorem Only.cell {g : Nat} {w w' : World} (h : Only g w w') {p : Addr} {v : Value} (hc : w.cell? p = some v) (hne : p.block ≠ g) : w'.cell? p = some v :=
 (World.cell?_of_block (h.grown.block p.block (block_lt_of_cell hc) (fun e => hne (by injection e)))).trans hc
structure DgI (base g N off gq : Nat) (w0 wr : World) (ys zs : List Nat) (k c : Nat) (zs' : List Nat) : Prop where
 row : RowI base g N wr zs'
 only : Only g w0 wr
 sum : Lb.val zs' + 65536 ^ off * (gq * Lb.val (ys.take k)) = Lb.val zs + 65536 ^ (off + k) * c
 same : ∀ j, off + k ≤ j → zs'[j]?.getD 0 = zs[j]?.getD 0
 le : c ≤ 65535
theorem DgI.next {base g N off gq : Nat} {w0 wr : World} {ys zs : List Nat} {k c : Nat} {zs' : List Nat} (h : DgI base g N off gq w0 wr ys zs k c zs') (hk : off + k < N) (hg : gq ≤ 65535) (hy : ys[k]?.getD 0 < 65536) {d b : Int} (hb : b = -(c : Int))
  (hd : d = ((zs'[off + k]?.getD 0 : Nat) : Int) - (gq : Int) * ((ys[k]?.getD 0 : Nat) : Int) + b) :
  ∃ (c' : Nat) (zs'' : List Nat), d / 65536 = -(c' : Int) ∧ DgI base g N off gq w0 (wr.setCell ⟨g, off + k, none⟩ (.int .u16 (IntKind.u16.wrap d))) ys zs (k + 1) c' zs'' := by
 subst hb
 have hz := Lb.getD_lt h.row.ok (off + k)
 have hc := h.le
 have hp : gq * ys[k]?.getD 0 ≤ 65535 * 65535 := Nat.mul_le_mul hg (by omega)
 have hsum := h.sum
 have hrow := h.row
 have honly := h.only
 have hsame := h.same
 generalize hzz : zs'[off + k]?.getD 0 = z at *
 generalize hyy : ys[k]?.getD 0 = x at *
 have ep : (gq : Int) * (x : Int) = ((gq * x : Nat) : Int) := by simp
 rw [ep] at hd
 generalize hP : gq * x = P at *
 obtain ⟨r, hr⟩ : ∃ r : Nat, d % 65536 = (r : Int) := ⟨(d % 65536).toNat, by omega⟩
 obtain ⟨c', hc'⟩ : ∃ c' : Nat, d / 65536 = -(c' : Int) := ⟨(-(d / 65536)).toNat, by omega⟩
 have e1 : IntKind.u16.wrap d = (r : Int) := by show d % 65536 = _; exact hr
 have hr2 : r + gq * x + c = z + 65536 * c' := by rw [hP]; omega
 refine ⟨c', zs'.set (off + k) r, hc', ?_⟩
 rw [e1]
 refine ⟨hrow.set (off + k) r (by omega), honly.setCell _ _, ?_, fun j hj => ?_, by omega⟩
 ·have h1 := Lb.sub_times (zs := zs') (p := off + k) (by have := hrow.len; omega) hzz hr2
  rw [Lb.val_take_succ, hyy, Nat.mul_add, Nat.mul_add]
  have e2 : 65536 ^ off * (gq * (65536 ^ k * x)) = 65536 ^ (off + k) * (gq * x) := by rw [Nat.pow_add, Nat.mul_assoc]; congr 1; exact Nat.mul_left_comm _ _ _
  rw [e2, ← Nat.add_assoc off k 1]
  omega
 ·rw [List.getElem?_set_ne (by omega)]; exact hsame j (by omega)
structure AbI (base g N off : Nat) (w0 wr : World) (ys zs1 : List Nat) (k c : Nat) (zs2 : List Nat) : Prop where
 row : RowI base g N wr zs2
 only : Only g w0 wr
 sum : Lb.val zs2 + 65536 ^ (off + k) * c = Lb.val zs1 + 65536 ^ off * Lb.val (ys.take k)
 same : ∀ j, off + k ≤ j → zs2[j]?.getD 0 = zs1[j]?.getD 0
 le : c ≤ 1
theorem AbI.next {base g N off : Nat} {w0 wr : World} {ys zs1 : List Nat} {k c : Nat} {zs2 : List Nat} (h : AbI base g N off w0 wr ys zs1 k c zs2) (hk : off + k < N) (hy : ys[k]?.getD 0 < 65536) {s : Int}
  (hs : s = ((zs2[off + k]?.getD 0 : Nat) : Int) + ((ys[k]?.getD 0 : Nat) : Int) + (c : Int)) :
  ∃ (c' : Nat) (zs3 : List Nat), s / 65536 = (c' : Int) ∧ AbI base g N off w0 (wr.setCell ⟨g, off + k, none⟩ (.int .u16 (IntKind.u16.wrap s))) ys zs1 (k + 1) c' zs3 := by
 have hz := Lb.getD_lt h.row.ok (off + k)
 have hc := h.le
 have hS : s = ((ys[k]?.getD 0 * 1 + zs2[off + k]?.getD 0 + c : Nat) : Int) := by rw [hs, Nat.mul_one]; omega
 have h1 := Lb.mul_round (x := ys[k]?.getD 0) (y := 1) (by have := h.row.len; omega) rfl h.sum
 have hb : ys[k]?.getD 0 * 1 + zs2[off + k]?.getD 0 + c ≤ 131071 := by omega
 generalize hTT : ys[k]?.getD 0 * 1 + zs2[off + k]?.getD 0 + c = S at *
 have e1 : IntKind.u16.wrap s = ((S % 65536 : Nat) : Int) := by rw [hS]; show (S : Int) % 65536 = _; omega
 refine ⟨S / 65536, zs2.set (off + k) (S % 65536), by rw [hS]; omega, ?_⟩
 rw [e1]
 refine ⟨h.row.set _ _ (Nat.mod_lt _ (by omega)), h.only.setCell _ _, ?_, fun j hj => ?_, by omega⟩
 ·rw [← Nat.add_assoc off k 1, h1, Lb.val_take_succ, Nat.mul_add, Nat.mul_one, Nat.add_assoc, Nat.pow_add, Nat.mul_assoc]
 ·rw [List.getElem?_set_ne (by omega)]; exact h.same j (by omega)
theorem guess_facts {T gg v1 z : Nat} (h : gg * v1 ≤ T) (hT : T ≤ 4294967295) (hz : z < 65536) :
  ∃ R T2 : Nat, (T : Int) - (gg : Int) * (v1 : Int) = (R : Int) ∧ (0 ≤ (gg : Int) * (v1 : Int) ∧ (gg : Int) * (v1 : Int) ≤ (T : Int)) ∧ bits BinOp.or IntKind.u64 ((R : Int) * 65536) (z : Int) = (T2 : Int) ∧ Hid (T2 = (T - gg * v1) * 65536 + z ∧ R = T - gg * v1) ∧ R ≤ 4294967295 := by
 have e : (gg : Int) * (v1 : Int) = ((gg * v1 : Nat) : Int) := by simp
 rw [e]
 generalize gg * v1 = P at *
 refine ⟨T - P, (T - P) * 65536 + z, by omega, by omega, or64 _ _ (by omega) hz, ⟨rfl, rfl⟩, by omega⟩
set_option maxRecDepth 100000 in
set_option maxHeartbeats 2000000 in
theorem digit_any (base g N off m c c' : Nat) (A' : Option Addr) (zs ys : List Nat) (w : World) (hr : RowI base g N w zs) (hN : off + m + 3 ≤ N) (hN' : N ≤ 1000000) (h' : R16 w A' (m + 2) c' ys)
  (hne : ∀ ad, A' = some ad → ad.block ≠ g) (htop : 32768 ≤ ys[m + 1]?.getD 0) (hlt : Lb.val zs < 65536 ^ off * Lb.val ys * 65536) :
  Calls Tryz.prog 163 #[.slice (some ⟨g, off, none⟩) (m + 3) c, .slice A' (m + 2) c'] w fun e w' =>
   ∃ zs', e = .returned (.int .u16 ((Lb.val zs / (65536 ^ off * Lb.val ys) : Nat) : Int)) ∧ RowI base g N w' zs' ∧ Lb.val zs' = Lb.val zs % (65536 ^ off * Lb.val ys) ∧ Only g w w' := by
 obtain ⟨ad, rfl, hy⟩ := h'.some (by omega)
 have hadb := hne ad rfl
 have hy1 := hy (m + 1) (by omega)
 have hy2 := hy m (by omega)
 have hyb1 := Lb.getD_lt h'.ok (m + 1)
 have hyb2 := Lb.getD_lt h'.ok m
 obtain ⟨hz2, hf2⟩ := hr.cell (off + (m + 2)) (by omega)
 obtain ⟨hz1, hf1⟩ := hr.cell (off + (m + 1)) (by omega)
 obtain ⟨hz0, hf0⟩ := hr.cell (off + m) (by omega)
 have hzb2 := Lb.getD_lt hr.ok (off + (m + 2))
 have hzb1 := Lb.getD_lt hr.ok (off + (m + 1))
 have hzb0 := Lb.getD_lt hr.ok (off + m)
 have HR := hide hr
 have H' := hide h'
 have HL := hide hlt
 have HY := hide hy
 have hy1' : w.cell? ⟨ad.block, ad.off + (m + 1), none⟩ = some (.int .u16 ((ys[m + 1]?.getD 0 : Nat) : Int)) := by rw [← hy1]; rfl
 have hor := or64 (zs[off + (m + 2)]?.getD 0) (zs[off + (m + 1)]?.getD 0) (by omega) hzb1
 obtain ⟨T, hT⟩ : ∃ T, T = zs[off + (m + 2)]?.getD 0 * 65536 + zs[off + (m + 1)]?.getD 0 := ⟨_, rfl⟩
 rw [← hT] at hor
 have hTb : T ≤ 4294967295 := by omega
 have HT := Lib.hid hT
 have hm1 : m + 2 - 1 = m + 1 := rfl
 have hm2 : m + 2 - 2 = m := rfl
 clear hr h' hlt hy hne hT hy1
 go_enter Tryz.func163, Tryz.ntmps163
 go_upto_region 2 with fail
 go_cut [6, 7] (fun t l wx => ∃ nq : Nat, t = .int .u64 (T : Int) ∧ l = .int .u64 ((ys[m + 1]?.getD 0 : Nat) : Int) ∧ wx = w.drewN nq)
 case first =>
  go_quiet (fail)
  go_wp2
  go_meet
  exact ⟨_, rfl, rfl, rfl⟩
 case rest =>
  obtain ⟨nq, rfl, rfl, rfl⟩ := hcut
  obtain ⟨q0, hq0⟩ : ∃ q0, q0 = T / ys[m + 1]?.getD 0 := ⟨_, rfl⟩
  have hq1 : (T : Int) / ((ys[m + 1]?.getD 0 : Nat) : Int) = (q0 : Int) := by rw [hq0]; simp
  have hq2 : q0 ≤ 4294967295 := by rw [hq0]; exact Nat.le_trans (Nat.div_le_self _ _) hTb
  have HQ0 := Lib.hid hq0
  clear hq0
  go_upto_region 3 with fail
  go_cut [8] (fun gv wx => ∃ G : Nat, gv = .int .u64 (G : Int) ∧ G = min q0 65535 ∧ wx = w.drewN nq)
  case first =>
   go_wp2
   all_goals
    go_meet
    first | exact ⟨65535, rfl, by omega, rfl⟩ | exact ⟨q0, rfl, by omega, rfl⟩
  case rest =>
   obtain ⟨G, rfl, hG, rfl⟩ := hcut
   have hG1 : G ≤ 65535 := by omega
   have hG2 : G ≤ q0 := by omega
   have hG3 : min q0 65535 ≤ G := by omega
   have hT3 : min ((T * 65536 + zs[off + m]?.getD 0) / (ys[m + 1]?.getD 0 * 65536 + ys[m]?.getD 0)) 65535 ≤ G := by
    have := Lb.guess_start (T := T) (z := zs[off + m]?.getD 0) (v1 := ys[m + 1]?.getD 0) (v2 := ys[m]?.getD 0) hzb0 (by omega)
    rw [← HQ0.out] at this; omega
   have HG3 := Lib.hid hT3
   clear hG hG3 hT3
   go_upto_block 0 with fail
   go_cut [8] (fun gv wx => ∃ G2 nq2 : Nat, gv = .int .u64 (G2 : Int) ∧ G2 = min ((T * 65536 + zs[off + m]?.getD 0) / (ys[m + 1]?.getD 0 * 65536 + ys[m]?.getD 0)) 65535 ∧ wx = w.drewN nq2)
   case first =>
    go_wp2_with fail
    go_loopw [8] (fun gv wr => ∃ gg nq2 : Nat, gv = .int .u64 (gg : Int) ∧ gg ≤ G ∧ Hid (min ((T * 65536 + zs[off + m]?.getD 0) / (ys[m + 1]?.getD 0 * 65536 + ys[m]?.getD 0)) 65535 ≤ gg) ∧ wr = w.drewN nq2) (fun gv _ => (intOf gv).toNat)
    case atStart => exact ⟨G, nq, rfl, Nat.le_refl _, HG3, rfl⟩
    case round =>
     obtain ⟨gg, nq2, rfl, hgG, HGG, rfl⟩ := hrel
     have hP1 : gg * ys[m + 1]?.getD 0 ≤ T := Nat.le_trans (Nat.mul_le_mul_right _ (by omega : gg ≤ q0)) (by rw [HQ0.out]; exact Nat.div_mul_le_self _ _)
     obtain ⟨hp0, hp1⟩ := mul_le gg (ys[m]?.getD 0) (by omega) hyb2
     obtain ⟨R, T2, hRi, hR0, hor2, HT2, ht2⟩ := guess_facts (z := zs[off + m]?.getD 0) hP1 hTb hzb0
     have hs0 : 0 ≤ (gg : Int) * ((ys[m + 1]?.getD 0 : Nat) : Int) := hR0.1
     have hs1 : (gg : Int) * ((ys[m + 1]?.getD 0 : Nat) : Int) ≤ (T : Int) := hR0.2
     have HP1 := Lib.hid hP1
     clear hP1 hR0
     by_cases hgt : T2 < gg * ys[m]?.getD 0
     ·have hgti : (T2 : Int) < (gg : Int) * ((ys[m]?.getD 0 : Nat) : Int) := by
       have e : (gg : Int) * ((ys[m]?.getD 0 : Nat) : Int) = ((gg * ys[m]?.getD 0 : Nat) : Int) := by simp
       rw [e]; omega
      have HGT := Lib.hid hgt
      obtain ⟨g', rfl⟩ : ∃ g', gg = g' + 1 := ⟨gg - 1, by have : gg ≠ 0 := (by rintro rfl; simp at hgt); omega⟩
      clear hgt
      have hP2 : g' * ys[m + 1]?.getD 0 ≤ T := Nat.le_trans (Nat.mul_le_mul_right _ (by omega : g' ≤ q0)) (by rw [HQ0.out]; exact Nat.div_mul_le_self _ _)
      obtain ⟨R2, T3, hRi2, hR2, hor3, HT3, ht3⟩ := guess_facts (z := zs[off + m]?.getD 0) hP2 hTb hzb0
      have hs2 : 0 ≤ (g' : Int) * ((ys[m + 1]?.getD 0 : Nat) : Int) := hR2.1
      have hs3 : (g' : Int) * ((ys[m + 1]?.getD 0 : Nat) : Int) ≤ (T : Int) := hR2.2
      have HP2 := Lib.hid hP2
      have hlow : Hid ((T * 65536 + zs[off + m]?.getD 0) / (ys[m + 1]?.getD 0 * 65536 + ys[m]?.getD 0) ≤ g') := Lb.guess_down HP1.out (by rw [← HT2.out.1]; exact HGT.out) (by omega)
      clear hP2 hR2 hor3 ht3
      simp only [Int.natCast_add, Int.cast_ofNat_Int] at hp0 hp1 hRi hs0 hs1 hgti
      by_cases hbr : 65535 < R2
      ·have hup : Hid (g' ≤ (T * 65536 + zs[off + m]?.getD 0) / (ys[m + 1]?.getD 0 * 65536 + ys[m]?.getD 0)) := Lb.guess_brk HP2.out (by rw [← HT3.out.2]; exact hbr) (by omega) hyb2 (by omega)
       go_wp2
       go_quiet (fail)
       go_wp2
       go_meet
       exact ⟨g', _, rfl, by have := hlow.out; have := hup.out; omega, rfl⟩
      ·go_wp2
       go_quiet (fail)
       go_wp2
       go_roundw
       case rel => exact ⟨g', _, rfl, by omega, show _ ≤ _ by have := hlow.out; omega, rfl⟩
       case measure => simp [intOf]
     ·have hgti : ¬ (T2 : Int) < (gg : Int) * ((ys[m]?.getD 0 : Nat) : Int) := by
       have e : (gg : Int) * ((ys[m]?.getD 0 : Nat) : Int) = ((gg * ys[m]?.getD 0 : Nat) : Int) := by simp
       rw [e]; omega
      have hup : Hid (gg ≤ (T * 65536 + zs[off + m]?.getD 0) / (ys[m + 1]?.getD 0 * 65536 + ys[m]?.getD 0)) := Lb.test_le HP1.out (by rw [← HT2.out.1]; omega) (by omega)
      clear hgt
      go_wp2
      go_quiet (fail)
      go_wp2
      go_meet
      exact ⟨gg, _, rfl, by have := HGG.out; have := hup.out; omega, by rw [World.drewN_drewN]⟩
   case rest =>
    obtain ⟨gq, nq2, rfl, hgq, rfl⟩ := hcut
    have hgq1 : gq ≤ 65535 := by omega
    have HGQ := Lib.hid hgq
    clear hgq hq1 hq2 hor HG3 hG1 hG2 hz2 hz1 hz0 hf2 hf1 hf0 hy1' hy2
    go_wp2_with fail
    go_loopw [75, 9] (fun i bv wr => ∃ (k c : Nat) (b : Int) (zs' : List Nat), k ≤ m + 2 ∧ i = .int .i64 (k : Int) ∧ bv = .int .i64 b ∧ Hid (b = -(c : Int)) ∧ -65535 ≤ b ∧ b ≤ 0 ∧ DgI base g N off gq w wr ys zs k c zs') (fun i _ _ => m + 2 - (intOf i).toNat)
    case atStart => exact ⟨0, 0, 0, zs, by omega, rfl, rfl, rfl, by omega, by omega, HR.out.drewN _, (Only.refl _ _).drewN _, by simp, fun _ _ => rfl, by omega⟩
    case round =>
     obtain ⟨k, cc, b, zs', hk, rfl, rfl, HB, hb1, hb2, hI⟩ := hrel
     have HI := hide hI
     clear hI
     by_cases hlt : k < m + 2
     ·have hyk := HI.out.only.cell (HY.out k (by omega)) (by rw [block_of_add]; exact hadb)
      have hykb := Lb.getD_lt H'.out.ok k
      obtain ⟨hzk, hfk⟩ := HI.out.row.cell (off + k) (by omega)
      have hzkb := Lb.getD_lt HI.out.row.ok (off + k)
      obtain ⟨hp0, hp1⟩ := mul_le gq (ys[k]?.getD 0) (by omega) hykb
      go_wp2_with fail
      obtain ⟨c2, z2, e2, hI2⟩ := HI.out.next (by omega) hgq1 hykb HB.out (d := ((zs'[off + k]?.getD 0 : Nat) : Int) - (gq : Int) * ((ys[k]?.getD 0 : Nat) : Int) + b) rfl
      go_roundw
      case rel => exact ⟨k + 1, c2, _, z2, by omega, by go_num, rfl, e2, by omega, by omega, hI2⟩
      case measure => simp [intOf]; omega
     ·obtain rfl : k = m + 2 := by omega
      obtain ⟨hzk, hfk⟩ := HI.out.row.cell (off + (m + 2)) (by omega)
      have hzkb := Lb.getD_lt HI.out.row.ok (off + (m + 2))
      have hylen := H'.out.len
      have HW : Hid (0 < 65536 ^ off * Lb.val ys) := by
       rcases Nat.eq_zero_or_pos (65536 ^ off * Lb.val ys) with h | h
       ·have := HL.out; rw [h] at this; omega
       ·exact h
      have HGU := hide (Lb.dg_guess HR.out.ok H'.out.ok hylen (by have := HR.out.len; omega) HL.out (by omega) HT.out HGQ.out)
      have hsum := HI.out.sum
      rw [List.take_of_length_le (by omega)] at hsum
      have HS := Lib.hid hsum
      clear hsum hylen
      by_cases hneg : (0 : Int) ≤ ((zs'[off + (m + 2)]?.getD 0 : Nat) : Int) + b
      ·go_wp2_with fail
       go_ret
       have hcc : cc ≤ zs'[off + (m + 2)]?.getD 0 := by have := HB.out; omega
       obtain ⟨e1, e2⟩ := Lb.dg_end1 HW.out (by have := HI.out.row.len; omega) rfl hcc HS.out HGU.out.1
       have e3 : ((zs'[off + (m + 2)]?.getD 0 : Nat) : Int) + b = ((zs'[off + (m + 2)]?.getD 0 - cc : Nat) : Int) := by
        have := HB.out
        omega
       rw [e3]
       exact ⟨_, congrArg (fun t : Nat => Ending.returned (.int .u16 (t : Int))) e1, HI.out.row.set _ _ (by omega), e2, HI.out.only.setCell _ _⟩
      ·have hcc : zs'[off + (m + 2)]?.getD 0 < cc := by have := HB.out; omega
       have hzero : ∀ j, off + (m + 3) ≤ j → zs'[j]?.getD 0 = 0 := fun j hj => by
        rw [HI.out.same j (by omega)]
        exact Lb.zero_of_val_lt (Lb.pow_bound H'.out.ok H'.out.len HL.out) (by omega)
       obtain ⟨f1, f2⟩ := Lb.dg_mid HI.out.row.ok HW.out (by have := HI.out.row.len; omega) rfl hcc HI.out.le hzero HS.out HGU.out.1 HGU.out.2
       have hgq0 : 1 ≤ gq := by rw [f1]; exact Nat.le_add_left 1 _
       have HCC := Lib.hid hcc
       have F1 := Lib.hid f1
       have F2 := Lib.hid f2
       have HZ := hide hzero
       clear f1 f2 hzero hcc
       go_wp2_with fail
       go_loopw [119, 14] (fun i cv wr' => ∃ (k c3 : Nat) (zs2 : List Nat), k ≤ m + 2 ∧ i = .int .i64 (k : Int) ∧ cv = .int .u32 (c3 : Int) ∧ c3 ≤ 1 ∧ AbI base g N off w wr' ys (zs'.set (off + (m + 2)) (zs'[off + (m + 2)]?.getD 0 + 65536 - cc)) k c3 zs2) (fun i _ _ => m + 2 - (intOf i).toNat)
       case atStart =>
        have e4 : IntKind.u16.wrap (((zs'[off + (m + 2)]?.getD 0 : Nat) : Int) + b) = ((zs'[off + (m + 2)]?.getD 0 + 65536 - cc : Nat) : Int) := by
         have h1 := HB.out
         have h2 := HI.out.le
         show (((zs'[off + (m + 2)]?.getD 0 : Nat) : Int) + b) % 65536 = _
         omega
        rw [e4]
        exact ⟨0, 0, _, by omega, rfl, rfl, by omega, HI.out.row.set _ _ (by have := HCC.out; omega), HI.out.only.setCell _ _, by simp, fun _ _ => rfl, by omega⟩
       case round =>
        obtain ⟨k, c3, zs2, hk3, rfl, rfl, hc3, hA⟩ := hrel
        have HA := hide hA
        clear hA
        by_cases hlt3 : k < m + 2
        ·have hyk := HA.out.only.cell (HY.out k (by omega)) (by rw [block_of_add]; exact hadb)
         have hykb := Lb.getD_lt H'.out.ok k
         obtain ⟨hz3, hf3⟩ := HA.out.row.cell (off + k) (by omega)
         have hz3b := Lb.getD_lt HA.out.row.ok (off + k)
         go_wp2_with fail
         obtain ⟨c4, z4, e4, hA2⟩ := HA.out.next (by omega) hykb (s := ((zs2[off + k]?.getD 0 : Nat) : Int) + ((ys[k]?.getD 0 : Nat) : Int) + (c3 : Int)) rfl
         go_roundw
         case rel => exact ⟨k + 1, c4, z4, by omega, by go_num, congrArg (Value.int .u32) e4, hA2.le, hA2⟩
         case measure => simp [intOf]; omega
        ·obtain rfl : k = m + 2 := by omega
         obtain ⟨hz3, hf3⟩ := HA.out.row.cell (off + (m + 2)) (by omega)
         have hz3b := Lb.getD_lt HA.out.row.ok (off + (m + 2))
         go_wp2_with fail
         go_ret
         have e5 : IntKind.u16.wrap (((zs2[off + (m + 2)]?.getD 0 : Nat) : Int) + (c3 : Int)) = (((zs2[off + (m + 2)]?.getD 0 + c3) % 65536 : Nat) : Int) := by
          show (((zs2[off + (m + 2)]?.getD 0 : Nat) : Int) + (c3 : Int)) % 65536 = _
          omega
         have e6 : (gq : Int) - 1 = ((Lb.val zs / (65536 ^ off * Lb.val ys) : Nat) : Int) := by
          have := F1.out
          generalize Lb.val zs / (65536 ^ off * Lb.val ys) = q at this ⊢
          omega
         have hs := HA.out.sum
         rw [List.take_of_length_le (by have := H'.out.len; omega)] at hs
         rw [e5]
         refine ⟨_, congrArg (fun t : Int => Ending.returned (.int .u16 t)) e6, HA.out.row.set _ _ (Nat.mod_lt _ (by omega)), Lb.dg_end2 HA.out.row.ok (by have := HA.out.row.len; omega) rfl (fun j hj => ?_) F1.out F2.out HA.out.le hs, HA.out.only.setCell _ _⟩
         rw [HA.out.same j (by omega), List.getElem?_set_ne (by omega)]
         exact HZ.out j hj
end Go.Proofs.YtjbcalbbhomkjaaGreat
