import Derived.Test.YtjbcalbbhomkjaaGreatESub
import Derived.Test.YtjbcalbbhomkjaaGreatEShelf
namespace Go.Proofs.YtjbcalbbhomkjaaGreat
open Go.RowKit
theorem u16_cells (xs : List Nat) : ∀ u ∈ xs.map u16, u.oneCell' = true := by
 intro u hu
 obtain ⟨x, _, rfl⟩ := List.mem_map.1 hu
 rfl
def Copy16 (w w' : World) (e : Ending) (n : Nat) (xs : List Nat) : Prop :=
 ∃ A d, e = .returned (.slice A n d) ∧ R16 w' A n d xs ∧ (∀ ad, A = some ad → w.heap.size ≤ ad.block) ∧ Below w.heap.size w w'
set_option maxRecDepth 100000 in
theorem clone16_any (A : Option Addr) (n c : Nat) (xs : List Nat) (w : World) (h : R16 w A n c xs) (hn : n ≤ 1000000) :
  Calls Tryz.prog 59 #[.slice A n c] w fun e w' => Copy16 w w' e n xs := by
 obtain ⟨i0, hi, hz0, hz1, hz2⟩ := info_parts u16_info
 rcases A with _ | ad
 ·have h0 : n = 0 := by
   rcases Nat.eq_zero_or_pos n with h0 | h0
   ·exact h0
   ·obtain ⟨ad, e, _⟩ := h.some h0; cases e
  subst h0
  have hx : xs = [] := List.eq_nil_of_length_eq_zero h.len
  subst hx
  refine (Tryz.slices_Clone_nil 0 c w).mono ?_
  rintro e w' ⟨rfl, rfl⟩
  exact ⟨none, 0, rfl, R16.nil (by omega), fun ad e => (by cases e), Below.refl _ _⟩
 ·have HH := hide h
  clear h
  have hneq := fun (w : World) (n c n' c' : Nat) => Lib.run_eql_slice_nil (P := Tryz.prog) w 33 51 (some ad) n c n' c' Tryz.underlying33
  simp only [Option.isNone_some] at hneq
  go_enter Tryz.func59, Tryz.ntmps59
  go_wp2_with (at_builtin; (refine wp_app_rd _ rfl _ _ 33 rfl w.heap.size 51 i0 (.int .u16 0) 1 2 Tryz.underlying33 hi hz0 hz1 hz2 rfl (by omega) _ 0 [] rfl (own_empty w _ _ (Nat.le_refl _)) (some ad) n c (xs.map u16) rfl (HH.out.rd.alloc _) (u16_cells xs) (by omega) (by omega) (by simp) ?_))
  intro A' d w' hown hgr hne
  obtain ⟨A0, d0, hE, hrd, hfr⟩ := own_slice hown
  injection hE with hA _ hd
  subst hA hd
  have hB : Below w.heap.size w w' := ((Below.refl _ _).alloc (Nat.le_refl _) _).grown hgr (by simp) (fun k hk => by simp [Value.ownBlock] at hk; omega)
  have HR := hide hrd
  have HF := hide hfr
  have H3 := hide hB
  clear hown hgr hne hrd hfr hB
  go_wp2
  go_ret
  exact ⟨_, _, rfl, ⟨HR.out, HH.out.ok⟩, HF.out, H3.out⟩
end Go.Proofs.YtjbcalbbhomkjaaGreat
