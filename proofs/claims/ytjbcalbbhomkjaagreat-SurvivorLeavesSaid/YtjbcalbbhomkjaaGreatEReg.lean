import Derived.OrdersHeld
import Derived.OrdersIn
import Derived.Deep.QuietTactic
import Derived.BigQuiet
import Derived.Deep.RegionHeld3
import Derived.RegionTactic
import Derived.Deep.RegionWith
import Derived.Test.YtjbcalbbhomkjaaGreatERf
namespace Go.Proofs.YtjbcalbbhomkjaaGreat
open Go.RowKit
def noDefer (ops : Array Oper) : Bool := ops.all fun o => match o.op with | .defer _ => false | _ => true
theorem noDefer_spec {ops : Array Oper} (h : noDefer ops = true) {i : Nat} {o : Oper} (hi : ops[i]? = some o) : ∀ c, o.op ≠ .defer c := by
 intro c hc
 unfold noDefer at h
 rw [Array.all_eq_true'] at h
 have := h o (Array.mem_of_getElem? hi)
 rw [hc] at this
 cases this
def IsWide (F : Fence) : Prop := F = Fence.wide ∨ ∃ l, F = Fence.wide.inRound l
theorem isWide : IsWide Fence.wide := .inl rfl
theorem isWide_round (l : Nat) : IsWide (Fence.wide.inRound l) := .inr ⟨l, rfl⟩
theorem IsWide.depth {F : Fence} (h : IsWide F) : F.depth = none := by rcases h with rfl | ⟨l, rfl⟩ <;> rfl
theorem IsWide.fn {F : Fence} (h : IsWide F) (f : FuncId) : F.fn f := by rcases h with rfl | ⟨l, rfl⟩ <;> trivial
theorem IsWide.calls {F : Fence} (h : IsWide F) {n : Nat} {P : Program} {f : FuncId} {args : Array Value} {w : World} {R : Ending → World → Prop} (hc : Calls P f args w R) : CallsIn F n P f args w R := by
 rcases h with rfl | ⟨l, rfl⟩
 ·exact callsIn_wide.2 hc
 ·exact CallsIn.inRound l (callsIn_wide.2 hc)
theorem IsWide.steps {F : Fence} (h : IsWide F) {P : Program} {m m' : Machine} (hs : Steps P m m') : StepsIn (Machine.fenced P F) P m m' := by
 rcases h with rfl | ⟨l, rfl⟩ <;> exact stepsIn_wide.2 hs
theorem wpOp_round {P : Program} {ops : Array Oper} {Q : Exit → Act → World → Prop} {F : Fence} (hF : IsWide F) {n i : Nat} {K : Act → World → Prop} {a : Act} {w : World} (hd : noDefer ops = true) (hQ : ¬ LetsOut Q) (h : wpOp P ops Q i K a w) :
  wpOpIn F n P ops Q i K a w := by
 unfold wpOp at h
 unfold wpOpIn
 cases ho : ops[i]? with
 | none => rw [ho] at h; exact h
 | some o =>
  simp only [ho] at h ⊢
  have hdo := noDefer_spec hd ho
  by_cases hw : Region.wanted o (yielded ops a.tmps) = true
  ·rw [if_pos hw] at h ⊢
   rcases h with h | ⟨_, h⟩
   ·refine ⟨fun _ _ => hF.fn _, ?_⟩
    rw [Oper.semAt_plain _ _ _ hdo]
    unfold Oper.wp at h
    generalize (execOp a.eval o).run P w = r at h ⊢
    cases r with
    | ok x w' =>
     cases x with
     | value v => exact h
     | skip => exact h
     | defer d => exact h
     | enter f args => exact ⟨fun hh => (by rw [hF.depth] at hh; cases hh), hF.calls h⟩
     | row row args =>
      refine ⟨fun hh => (by rw [hF.depth] at hh; cases hh), fun c cs _ => ?_⟩
      obtain ⟨v, w'', hR, hs⟩ := h c cs
      exact ⟨v, w'', hR, hF.steps hs⟩
     | round l f tmps assign body => exact h.elim
     | _ => exact h.elim
    | halt x w' => cases x <;> exact h
   ·exact absurd h hQ
  ·rw [if_neg hw] at h ⊢
   exact ⟨fun _ _ => hF.fn _, h⟩
theorem wpAny_round {P : Program} {md : Region.Mode} {ops : Array Oper} {Q : Exit → Act → World → Prop} {F : Fence} (hF : IsWide F) {n : Nat} (hd : noDefer ops = true) (hQ : ¬ LetsOut Q) :
  ∀ (fuel : Nat) (listed : Array Bool) (a : Act) (w : World), wpAny P md ops Q fuel listed a w → wpAnyIn F n P md ops Q fuel listed a w := by
 intro fuel
 induction fuel with
 | zero => intro listed a w h; exact h
 | succ fuel ih =>
  intro listed a w h
  exact ⟨h.1, fun i hi => wpOp_round hF hd hQ (wpOp_mono (fun a w => ih _ a w) (h.2 i hi))⟩
def onlyN (K : Act → World → Prop) : Exit → Act → World → Prop
 | .normal, a, w => K a w
 | _, _, _ => False
theorem onlyN_intro {K : Act → World → Prop} {a : Act} {w : World} (h : K a w) : onlyN K .normal a w := h
theorem onlyN_lets {K : Act → World → Prop} : ¬ LetsOut (onlyN K) := fun ⟨_, _, h⟩ => h
theorem onlyN_mono {Q : Exit → Act → World → Prop} : ∀ e a w, onlyN (Q .normal) e a w → Q e a w := fun e a w h => by cases e <;> first | exact h | exact h.elim
theorem wpi_region_held {P : Program} {ops : Array Oper} {Q : Exit → Act → World → Prop} {F : Fence} (hF : IsWide F) {n id : Nat} {a : Act} {w : World} (S : World → Prop) (N : Nat) (li : Array Bool) (hN : ops.size = N) (hli : Array.replicate N false = li) (hm : P.follows .mixedOrders = true) (hd : noDefer ops = true)
  (h : wpAnyH P .any ops (onlyN (Q .normal)) S N li a w.drew) : (Code.region id ops true).wpIn F n P Q a w := by
 subst hN
 subst hli
 exact wpIn_mono (wpIn_region_any hm (wpAny_round hF hd onlyN_lets _ _ _ _ (wpAny_of_held _ _ _ _ h))) onlyN_mono
theorem wp_region_heldN {P : Program} {ops : Array Oper} {Q : Exit → Act → World → Prop} {id : Nat} {a : Act} {w : World} (S : World → Prop) (N : Nat) (li : Array Bool) (hN : ops.size = N) (hli : Array.replicate N false = li) (hm : P.follows .mixedOrders = true)
  (h : wpAnyH P .any ops (onlyN (Q .normal)) S N li a w.drew) : (Code.region id ops true).wp P Q a w := by
 subst hN
 subst hli
 exact Code.wp_mono onlyN_mono (wp_region_any hm (wpAny_of_held _ _ _ _ h))
theorem takeH {P : Program} {md : Region.Mode} {ops : Array Oper} {KK : Act → World → Prop} {S : World → Prop} (i t : Nat) {oi : Oper} {v : Value} {fuel : Nat} {listed : Array Bool} {tmps : Array Value} {ds : List Deferred} {w : World}
  (hi : ops[i]? = some oi) (ht : oi.dst = some t)
  (hs : Region.noSelect ops = true) (hf : Region.free md ops listed i = true) (hr : (Region.ready md ops listed).contains i = true)
  (hw : Region.wanted oi (yielded ops tmps) = true) (hS : S w)
  (hy : ∀ w, S w → (execOp (Act.eval { tmps := tmps, defers := ds }) oi).run P w = .ok (.value v) w)
  (h : wpAnyH P md ops (onlyN KK) S fuel (listed.setIfInBounds i true) { tmps := tmps.setIfInBounds t v, defers := ds } w) : wpAnyH P md ops (onlyN KK) S (fuel + 1) listed { tmps := tmps, defers := ds } w :=
 wpAnyH_take hi hs hf hr (fun _ _ _ h => h) (Or.inl ⟨hw, hy⟩) hS (by rw [show Act.put { tmps := tmps, defers := ds } oi.dst v = { tmps := tmps.setIfInBounds t v, defers := ds } from by rw [ht]; rfl]; exact h)
theorem onlyH {P : Program} {md : Region.Mode} {ops : Array Oper} {Q : Exit → Act → World → Prop} {S : World → Prop} (i : Nat) {oi : Oper} {fuel : Nat} {listed : Array Bool} {a : Act} {w : World}
  (hi : ops[i]? = some oi) (hr : Region.ready md ops listed = [i]) (hw : Region.wanted oi (yielded ops a.tmps) = true)
  (h : oi.wp P a w (fun a' w' => S w' ∧ wpAnyH P md ops Q S fuel (listed.setIfInBounds i true) a' w') Q) : wpAnyH P md ops Q S (fuel + 1) listed a w :=
 wpAnyH_all hr (by simp) fun j hj => by
  obtain rfl : j = i := by simpa using hj
  unfold wpOp
  simp only [hi, hw, if_true]
  exact .inl h
theorem onlyH2 {P : Program} {md : Region.Mode} {ops : Array Oper} {Q : Exit → Act → World → Prop} {S : World → Prop} (i i' : Nat) {oi oi' : Oper} {fuel : Nat} {listed : Array Bool} {a : Act} {w : World}
  (hr : Region.ready md ops listed = [i, i']) (hi : ops[i]? = some oi) (hi' : ops[i']? = some oi') (hw : Region.wanted oi (yielded ops a.tmps) = true) (hw' : Region.wanted oi' (yielded ops a.tmps) = true)
  (h : oi.wp P a w (fun a' w' => S w' ∧ wpAnyH P md ops Q S fuel (listed.setIfInBounds i true) a' w') Q)
  (h' : oi'.wp P a w (fun a' w' => S w' ∧ wpAnyH P md ops Q S fuel (listed.setIfInBounds i' true) a' w') Q) : wpAnyH P md ops Q S (fuel + 1) listed a w :=
 wpAnyH_all hr (by simp) fun j hj => by
  have hj' : j = i ∨ j = i' := by simpa using hj
  unfold wpOp
  rcases hj' with rfl | rfl
  ·simp only [hi, hw, if_true]; exact .inl h
  ·simp only [hi', hw', if_true]; exact .inl h'
theorem onlyH3 {P : Program} {md : Region.Mode} {ops : Array Oper} {Q : Exit → Act → World → Prop} {S : World → Prop} (i i' i'' : Nat) {oi oi' oi'' : Oper} {fuel : Nat} {listed : Array Bool} {a : Act} {w : World}
  (hr : Region.ready md ops listed = [i, i', i'']) (hi : ops[i]? = some oi) (hi' : ops[i']? = some oi') (hi'' : ops[i'']? = some oi'') (hw : Region.wanted oi (yielded ops a.tmps) = true) (hw' : Region.wanted oi' (yielded ops a.tmps) = true) (hw'' : Region.wanted oi'' (yielded ops a.tmps) = true)
  (h : oi.wp P a w (fun a' w' => S w' ∧ wpAnyH P md ops Q S fuel (listed.setIfInBounds i true) a' w') Q)
  (h' : oi'.wp P a w (fun a' w' => S w' ∧ wpAnyH P md ops Q S fuel (listed.setIfInBounds i' true) a' w') Q)
  (h'' : oi''.wp P a w (fun a' w' => S w' ∧ wpAnyH P md ops Q S fuel (listed.setIfInBounds i'' true) a' w') Q) : wpAnyH P md ops Q S (fuel + 1) listed a w :=
 wpAnyH_all hr (by simp) fun j hj => by
  have hj' : j = i ∨ j = i' ∨ j = i'' := by simpa using hj
  unfold wpOp
  rcases hj' with rfl | rfl | rfl
  ·simp only [hi, hw, if_true]; exact .inl h
  ·simp only [hi', hw', if_true]; exact .inl h'
  ·simp only [hi'', hw'', if_true]; exact .inl h''
theorem wpi_cut {P : Program} {ops : Array Oper} {Q : Exit → Act → World → Prop} {F : Fence} {n id : Nat} {o : Bool} {a : Act} {w : World} (R : Act → World → Prop)
  (h1 : (Code.region id ops o).wpIn F n P (onlyN R) a w) (h2 : ∀ a' w', R a' w' → Q .normal a' w') : (Code.region id ops o).wpIn F n P Q a w :=
 wpIn_mono h1 fun e a w h => by cases e <;> first | exact h2 _ _ h | exact h.elim
theorem wpi_cutF {P : Program} {ops : Array Oper} {Q : Exit → Act → World → Prop} {F : Fence} {n id : Nat} {o : Bool} {tmps : Array Value} {ds : List Deferred} {w : World} (G : Array Value → Array Value → World → Prop)
  (h1 : (Code.region id ops o).wpIn F n P (onlyN fun a' w' => G tmps a'.tmps w' ∧ a'.defers = ds) { tmps := tmps, defers := ds } w) (h2 : ∀ t' w', G tmps t' w' → Q .normal { tmps := t', defers := ds } w') : (Code.region id ops o).wpIn F n P Q { tmps := tmps, defers := ds } w :=
 wpi_cut _ h1 fun a' w' h => by
  obtain ⟨t', ds'⟩ := a'
  obtain ⟨h3, h4⟩ := h
  simp only at h3 h4
  subst h4
  exact h2 _ _ h3
end Go.Proofs.YtjbcalbbhomkjaaGreat
