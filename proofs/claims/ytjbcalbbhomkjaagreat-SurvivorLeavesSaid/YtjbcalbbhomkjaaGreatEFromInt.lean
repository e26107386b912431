import Derived.Test.YtjbcalbbhomkjaaGreatESum
import Derived.Test.YtjbcalbbhomkjaaGreatEClone
import Derived.Test.YtjbcalbbhomkjaaGreatEWh1
namespace Go.Proofs.YtjbcalbbhomkjaaGreat
open Go.RowKit
def four (m : Nat) : List Nat := [m % 65536, m / 65536 % 65536, m / 4294967296 % 65536, m / 281474976710656 % 65536]
theorem four_ok (m : Nat) : Lb.Ok (four m) := by
 simp only [four, Lb.ok_cons]
 exact ⟨by omega, by omega, by omega, by omega, Lb.ok_nil⟩
theorem four_val {m : Nat} (h : m < 18446744073709551616) : Lb.val (four m) = m := by
 simp only [four, Lb.val_cons, Lb.val_nil]
 omega
theorem R16.of_blk {w : World} {g : Nat} {t : TypeId} {xs : List Nat} (h : Blk w g t (xs.map u16).toArray) (ok : Lb.Ok xs) (hl : xs.length ≤ 9223372036854775807) : R16 w (Option.some ⟨g, 0, none⟩) xs.length xs.length xs := by
 refine ⟨⟨by simp, Nat.le_refl _, hl, fun _ => ⟨_, rfl, fun j u hu => ?_⟩⟩, ok⟩
 have ha : (⟨g, 0, none⟩ : Addr).add j = ⟨g, j, none⟩ := by unfold Addr.add; split <;> simp_all
 rw [ha, h.cell]
 simpa using hu
set_option maxRecDepth 100000 in
set_option maxHeartbeats 1000000 in
theorem FromInt_any (x : Int) (w : World) (h0 : -9223372036854775808 ≤ x) (h1 : x ≤ 9223372036854775807) :
  Calls Tryz.prog 57 #[.int .i64 x] w fun e w' => ∃ A c, e = .returned (wv x A c) ∧ R16 w' A (Lb.limbs x.natAbs).length c (Lb.limbs x.natAbs) ∧ (∀ ad, A = some ad → w.heap.size + 1 ≤ ad.block) ∧ Below w.heap.size w w' := by
 by_cases hx : x < 0
 ·obtain ⟨m, rfl, hm1, hm2⟩ : ∃ m : Nat, x = -(m : Int) ∧ 1 ≤ m ∧ m ≤ 9223372036854775808 := ⟨x.natAbs, by omega, by omega, by omega⟩
  clear h0 h1
  have hq : IntKind.u64.wrap (-IntKind.u64.wrap (-(m : Int))) = (m : Int) := by rw [IntKind.wrap_u64, IntKind.wrap_u64]; omega
  obtain ⟨d0, hd0⟩ : ∃ d, d = m % 65536 := ⟨_, rfl⟩
  obtain ⟨d1, hd1⟩ : ∃ d, d = m / 65536 % 65536 := ⟨_, rfl⟩
  obtain ⟨d2, hd2⟩ : ∃ d, d = m / 4294967296 % 65536 := ⟨_, rfl⟩
  obtain ⟨d3, hd3⟩ : ∃ d, d = m / 281474976710656 % 65536 := ⟨_, rfl⟩
  have e0 : IntKind.u16.wrap (m : Int) = (d0 : Int) := by rw [IntKind.wrap_u16, hd0]; omega
  have e1 : IntKind.u16.wrap ((m : Int) / 65536) = (d1 : Int) := by rw [IntKind.wrap_u16, hd1]; omega
  have e2 : IntKind.u16.wrap ((m : Int) / 4294967296) = (d2 : Int) := by rw [IntKind.wrap_u16, hd2]; omega
  have e3 : IntKind.u16.wrap ((m : Int) / 281474976710656) = (d3 : Int) := by rw [IntKind.wrap_u16, hd3]; omega
  have hok : Lb.Ok [d0, d1, d2, d3] := by have := four_ok m; rw [four, ← hd0, ← hd1, ← hd2, ← hd3] at this; exact this
  have hval : Lb.val [d0, d1, d2, d3] = m := by have := four_val (m := m) (by omega); rw [four, ← hd0, ← hd1, ← hd2, ← hd3] at this; exact this
  have ht : Lb.trim [d0, d1, d2, d3] = Lb.limbs m := by rw [Lb.trim_limbs _ hok, hval]
  have HT := Lib.hid ht
  have hR := R16.of_blk (xs := [d0, d1, d2, d3]) (Blk.new (w.alloc (.cells #[.bool false, .slice none 0 0] 35)) 126 _) hok (by simp)
  have hO := hide ((Blk.new w 35 #[.bool false, .slice none 0 0]).alloc (.cells #[u16 d0, u16 d1, u16 d2, u16 d3] 126))
  rw [World.size_alloc] at hR
  have HR := hide hR
  have hBl := hide (((Below.refl w.heap.size w).alloc (Nat.le_refl _) (.cells #[.bool false, .slice none 0 0] 35)).alloc (by simp) (.cells #[u16 d0, u16 d1, u16 d2, u16 d3] 126))
  have hlen : (Lb.trim [d0, d1, d2, d3]).length ≤ 4 := Lb.trim_length_le _
  have hlen2 : (Lb.limbs m).length ≤ 4 := by rw [← ht]; exact hlen
  clear hd0 hd1 hd2 hd3 hval ht hR hok
  go_enter Tryz.func57, Tryz.ntmps57
  go_wp2_with (first
   | (go_at_call 99; refine (trimmed_any _ 4 4 [d0, d1, d2, d3] ((w.alloc (.cells #[.bool false, .slice none 0 0] 35)).alloc (.cells #[.int .u16 (d0 : Int), .int .u16 (d1 : Int), .int .u16 (d2 : Int), .int .u16 (d3 : Int)] 126)) HR.out).mono ?_; rintro e w1 ⟨rfl, rfl⟩; rw [HT.out])
   | (go_at_call 59; refine (clone16_any _ _ _ (Lb.limbs m) _ (by have := HR.out.take (Lb.trim [d0, d1, d2, d3]).length (Lb.trim_length_le _); rw [← Lb.trim_prefix, HT.out] at this; exact this) (by omega)).mono ?_; rintro e w2 ⟨A2, d, rfl, h2, h3, h4⟩; have O2 := hide (hO.out.below h4 hO.out.lt); have c1 := O2.out.cell 0; have c2 := O2.out.cell 1; have f1 := O2.out.frozen 0; have f2 := O2.out.frozen 1; have H2 := hide h2; have H3 := hide h3; have H4 := hide h4; clear h2 h3 h4; simp only [List.getElem?_toArray, List.getElem?_cons_zero, List.getElem?_cons_succ] at c1 c2))
  refine bodyPost_ret (results_cell rfl rfl (load_whole ((O2.out.set_ 0 _).set_ 1 _))) rfl ?_
  have hlt := hO.out.lt
  simp only [World.size_alloc] at hlt
  refine ⟨A2, d, ?_, ?_, fun ad e => by have := H3.out ad e; simp at this; omega, ((hBl.out.trans (H4.out.mono (by simp; omega))).setCell (by simp) _).setCell (by simp) _⟩
  ·unfold wv
   simp only [Int.natAbs_neg, Int.natAbs_natCast]
   simp
   omega
  ·simp only [Int.natAbs_neg, Int.natAbs_natCast]
   exact (H2.out.far _ _ (fun ad e => by have := H3.out ad e; simp at this ⊢; omega)).far _ _ (fun ad e => by have := H3.out ad e; simp at this ⊢; omega)
 ·obtain ⟨m, rfl, hm2⟩ : ∃ m : Nat, x = (m : Int) ∧ m ≤ 9223372036854775807 := ⟨x.natAbs, by omega, by omega⟩
  clear h0 h1
  have hq : IntKind.u64.wrap (m : Int) = (m : Int) := by rw [IntKind.wrap_u64]; omega
  obtain ⟨d0, hd0⟩ : ∃ d, d = m % 65536 := ⟨_, rfl⟩
  obtain ⟨d1, hd1⟩ : ∃ d, d = m / 65536 % 65536 := ⟨_, rfl⟩
  obtain ⟨d2, hd2⟩ : ∃ d, d = m / 4294967296 % 65536 := ⟨_, rfl⟩
  obtain ⟨d3, hd3⟩ : ∃ d, d = m / 281474976710656 % 65536 := ⟨_, rfl⟩
  have e0 : IntKind.u16.wrap (m : Int) = (d0 : Int) := by rw [IntKind.wrap_u16, hd0]; omega
  have e1 : IntKind.u16.wrap ((m : Int) / 65536) = (d1 : Int) := by rw [IntKind.wrap_u16, hd1]; omega
  have e2 : IntKind.u16.wrap ((m : Int) / 4294967296) = (d2 : Int) := by rw [IntKind.wrap_u16, hd2]; omega
  have e3 : IntKind.u16.wrap ((m : Int) / 281474976710656) = (d3 : Int) := by rw [IntKind.wrap_u16, hd3]; omega
  have hok : Lb.Ok [d0, d1, d2, d3] := by have := four_ok m; rw [four, ← hd0, ← hd1, ← hd2, ← hd3] at this; exact this
  have hval : Lb.val [d0, d1, d2, d3] = m := by have := four_val (m := m) (by omega); rw [four, ← hd0, ← hd1, ← hd2, ← hd3] at this; exact this
  have ht : Lb.trim [d0, d1, d2, d3] = Lb.limbs m := by rw [Lb.trim_limbs _ hok, hval]
  have HT := Lib.hid ht
  have hR := R16.of_blk (xs := [d0, d1, d2, d3]) (Blk.new (w.alloc (.cells #[.bool false, .slice none 0 0] 35)) 126 _) hok (by simp)
  have hO := hide ((Blk.new w 35 #[.bool false, .slice none 0 0]).alloc (.cells #[u16 d0, u16 d1, u16 d2, u16 d3] 126))
  rw [World.size_alloc] at hR
  have HR := hide hR
  have hBl := hide (((Below.refl w.heap.size w).alloc (Nat.le_refl _) (.cells #[.bool false, .slice none 0 0] 35)).alloc (by simp) (.cells #[u16 d0, u16 d1, u16 d2, u16 d3] 126))
  have hlen : (Lb.trim [d0, d1, d2, d3]).length ≤ 4 := Lb.trim_length_le _
  have hlen2 : (Lb.limbs m).length ≤ 4 := by rw [← ht]; exact hlen
  clear hd0 hd1 hd2 hd3 hval ht hR hok
  go_enter Tryz.func57, Tryz.ntmps57
  go_wp2_with (first
   | (go_at_call 99; refine (trimmed_any _ 4 4 [d0, d1, d2, d3] ((w.alloc (.cells #[.bool false, .slice none 0 0] 35)).alloc (.cells #[.int .u16 (d0 : Int), .int .u16 (d1 : Int), .int .u16 (d2 : Int), .int .u16 (d3 : Int)] 126)) HR.out).mono ?_; rintro e w1 ⟨rfl, rfl⟩; rw [HT.out])
   | (go_at_call 59; refine (clone16_any _ _ _ (Lb.limbs m) _ (by have := HR.out.take (Lb.trim [d0, d1, d2, d3]).length (Lb.trim_length_le _); rw [← Lb.trim_prefix, HT.out] at this; exact this) (by omega)).mono ?_; rintro e w2 ⟨A2, d, rfl, h2, h3, h4⟩; have O2 := hide (hO.out.below h4 hO.out.lt); have c1 := O2.out.cell 0; have c2 := O2.out.cell 1; have f1 := O2.out.frozen 0; have f2 := O2.out.frozen 1; have H2 := hide h2; have H3 := hide h3; have H4 := hide h4; clear h2 h3 h4; simp only [List.getElem?_toArray, List.getElem?_cons_zero, List.getElem?_cons_succ] at c1 c2))
  refine bodyPost_ret (results_cell rfl rfl (load_whole ((O2.out.set_ 0 _).set_ 1 _))) rfl ?_
  have hlt := hO.out.lt
  simp only [World.size_alloc] at hlt
  refine ⟨A2, d, ?_, ?_, fun ad e => by have := H3.out ad e; simp at this; omega, ((hBl.out.trans (H4.out.mono (by simp; omega))).setCell (by simp) _).setCell (by simp) _⟩
  ·unfold wv
   simp only [Int.natAbs_neg, Int.natAbs_natCast]
   simp
  ·simp only [Int.natAbs_neg, Int.natAbs_natCast]
   exact (H2.out.far _ _ (fun ad e => by have := H3.out ad e; simp at this ⊢; omega)).far _ _ (fun ad e => by have := H3.out ad e; simp at this ⊢; omega)
end Go.Proofs.YtjbcalbbhomkjaaGreat
