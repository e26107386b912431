import Derived.OrdersHeld
import Derived.Test.YtjbcalbbhomkjaaGreatEReg
namespace Go.Proofs.YtjbcalbbhomkjaaGreat
open Go.RowKit
namespace RI
def dstOf (ops : Array Oper) (i : Nat) : Option Tmp := (ops[i]?).bind (·.dst)
def dep (ops : Array Oper) (i j : Nat) : Bool := match ops[i]? with
 | some o => o.after.any fun e => Region.binds .any e && e.on == j
 | none => false
def isDst (ops : Array Oper) (M : Nat) (t : Tmp) : Bool := (List.range M).any fun i => dstOf ops i == some t
def fresh (ops : Array Oper) (M i : Nat) (t : Tmp) : Bool := (List.range M).all fun j => dstOf ops j != some t || dep ops j i
def okB (ops : Array Oper) (M n : Nat) : Bool :=
 decide (M ≤ ops.size) &&
 ((List.range M).all fun i => match ops[i]? with
  | some o => (match o.guard with | none => true | some (j, _) => decide (j < M) && dep ops i j && (dstOf ops j).isSome) && (match o.dst with | some t => decide (t < n) | none => true) &&
    ((List.range M).all fun j => j == i || o.dst.isNone || dstOf ops j != o.dst) && (o.after.all fun e => !Region.binds .any e || decide (e.on < i))
  | none => false)
def lastB (ops : Array Oper) (M : Nat) (Fl : List Nat) : Bool :=
 ((List.range M).all fun i => Fl.contains i || ((List.range M).any fun k => decide (i < k) && !Fl.contains k && dep ops k i) || ((List.range ops.size).all fun k => decide (k < M) || dep ops k i || (List.range ops.size).any fun k' => decide (M ≤ k') && dep ops k k')) &&
 (Fl.isEmpty || Region.noSelect ops) &&
 Fl.all fun i => decide (i < M) && (match ops[i]? with
  | some oi => oi.guard.isNone && ((List.range ops.size).all fun j => j == i || dep ops j i || dep ops i j || (match ops[j]? with | some oj => oi.apart ops oj | none => true)) && (oi.after.all fun e => !Region.binds .any e || decide (e.on < i))
  | none => false)
def Ext (W W' : World) : Prop := Below W.heap.size W W'
def blkOf : Value → Nat
 | .pointer (some ad) => ad.block
 | _ => 0
def frame (n : Nat) (f : Nat → Value) : Array Value := Array.ofFn (n := n) fun i => f i.val
theorem frame_size (n : Nat) (f : Nat → Value) : (frame n f).size = n := by simp [frame]
theorem frame_getD {n t : Nat} (f : Nat → Value) (h : t < n) : (frame n f).getD t undef = f t := by simp [frame, Array.getD, h]
theorem frame_of {tm : Array Value} {n : Nat} (h : tm.size = n) : tm = frame n (fun t => tm.getD t undef) := by
 apply Array.ext
 ·rw [frame_size, h]
 ·intro i h1 h2
  simp [frame, Array.getD, h1]
def upd (f : Nat → Value) (t : Nat) (v : Value) : Nat → Value := fun u => if u = t then v else f u
theorem upd_same (f : Nat → Value) (t : Nat) (v : Value) : upd f t v t = v := by simp [upd]
theorem upd_ne (f : Nat → Value) {t u : Nat} (v : Value) (h : u ≠ t) : upd f t v u = f u := by simp [upd, h]
theorem frame_set (n : Nat) (f : Nat → Value) (t : Nat) (v : Value) : (frame n f).setIfInBounds t v = frame n (upd f t v) := by
 apply Array.ext
 ·simp [frame_size]
 ·intro i h1 h2
  rw [Array.getElem_setIfInBounds (by simpa [frame] using h2)]
  simp only [frame, Array.getElem_ofFn, upd]
  by_cases h : t = i
  ·subst h; simp
  ·rw [if_neg h, if_neg (Ne.symm h)]
def act (n : Nat) (ds : List Deferred) (f : Nat → Value) : Act := { tmps := frame n f, defers := ds }
def out (ops : Array Oper) (i : Nat) (f : Nat → Value) : Value := match dstOf ops i with | some t => f t | none => undef
def Ob (P : Program) (n : Nat) (ds : List Deferred) (o : Oper) (f : Nat → Value) (W : World) (K : Value → World → Prop) : Prop :=
 ∀ (Kn : Act → World → Prop) (Q' : Exit → Act → World → Prop), (∀ v W', K v W' → Kn (Act.put (act n ds f) o.dst v) W') → o.wp P (act n ds f) W Kn Q'
structure At (ops : Array Oper) (M : Nat) (F : Nat → Value → World → Prop) (G : World → Prop) (f0 f : Nat → Value) (W : World) (i : Nat) : Prop where
 old : ∀ t, fresh ops M i t = true → f t = f0 t
 g : G W
 dep : ∀ j, dep ops i j = true → F j (out ops j f) W
structure Step (P : Program) (n : Nat) (ds : List Deferred) (f0 : Nat → Value) (ops : Array Oper) (M : Nat) (F : Nat → Value → World → Prop) (G : World → Prop) (A : Nat → Bool) (Rl : Nat → World → World → Prop) (i : Nat) (o : Oper) : Prop where
 stb : ∀ k v W W', k < M → k ≠ i → F i v W → Rl k W W' → F i v W'
 gst : ∀ W W', G W → Rl i W W' → G W'
 ablk : A i = true → (∀ v W, F i v W → blkOf v < W.heap.size) ∧ o.guard = none ∧ o.dst.isSome = true
 none : o.dst = none → ∀ v W, F i v W → F i undef W
 step : ∀ f W, At ops M F G f0 f W i → (∀ j b, o.guard = some (j, b) → out ops j f = .bool b) → Ob P n ds o f W (fun v W' => F i v W' ∧ Rl i W W' ∧ (A i = true → W.heap.size ≤ blkOf v))
 skip : ∀ j b, o.guard = some (j, b) → ∀ f W, At ops M F G f0 f W i → out ops j f ≠ .bool b → F i undef W ∧ Rl i W W
def doneTo (N M : Nat) : Array Bool := (List.range N).toArray.map fun i => decide (i < M)
section
variable {P : Program} {n : Nat} {ds : List Deferred} {Q : Exit → Act → World → Prop} {f0 : Nat → Value} {ops : Array Oper} {M : Nat} {F : Nat → Value → World → Prop} {G : World → Prop} {A : Nat → Bool} {Rl : Nat → World → World → Prop}
structure End (ops : Array Oper) (M : Nat) (F : Nat → Value → World → Prop) (G : World → Prop) (A : Nat → Bool) (f0 f : Nat → Value) (W : World) : Prop where
 old : ∀ t, isDst ops M t = false → f t = f0 t
 g : G W
 fact : ∀ i, i < M → F i (out ops i f) W
 apart : ∀ i j, i < M → j < M → i ≠ j → A i = true → A j = true → blkOf (out ops i f) ≠ blkOf (out ops j f)
structure Mid (ops : Array Oper) (M : Nat) (F : Nat → Value → World → Prop) (G : World → Prop) (A : Nat → Bool) (f0 f : Nat → Value) (W : World) (L : Nat → Bool) : Prop where
 old : ∀ t, (∀ j, j < M → dstOf ops j = some t → L j = false) → f t = f0 t
 g : G W
 fact : ∀ i, i < M → L i = true → F i (out ops i f) W
 cl : ∀ i j, i < M → L i = true → dep ops i j = true → L j = true
 apart : ∀ i j, i < M → j < M → i ≠ j → L i = true → L j = true → A i = true → A j = true → blkOf (out ops i f) ≠ blkOf (out ops j f)
theorem mid_old {i : Nat} {f : Nat → Value} {W : World} {L : Nat → Bool} (h : Mid ops M F G A f0 f W L) (hLi : L i = false) : ∀ t, fresh ops M i t = true → f t = f0 t := by
 intro t ht
 refine h.old t fun j hj hd => ?_
 unfold fresh at ht
 rw [List.all_eq_true] at ht
 have h1 := ht j (List.mem_range.2 hj)
 rw [Bool.or_eq_true] at h1
 rcases h1 with h1 | h1
 ·rw [hd] at h1; simp at h1
 ·cases hl : L j with
  | false => rfl
  | true => rw [h.cl j i hj hl h1] at hLi; cases hLi
theorem isDst_none {t : Tmp} (h : isDst ops M t = false) : ∀ j, j < M → dstOf ops j ≠ some t := fun j hj hd => by
 have : isDst ops M t = true := by
  unfold isDst
  rw [List.any_eq_true]
  exact ⟨j, List.mem_range.2 hj, by simp [hd]⟩
 rw [this] at h; cases h
theorem mid_put (hc : okB ops M n = true) {i : Nat} {o : Oper} {f : Nat → Value} {W : World} {L L' : Nat → Bool} (hi : i < M) (ho : ops[i]? = some o) (hS : Step P n ds f0 ops M F G A Rl i o) (hSall : ∀ k ok, k < M → ops[k]? = some ok → Step P n ds f0 ops M F G A Rl k ok)
  (h : Mid ops M F G A f0 f W L) (hL' : ∀ j, L' j = (L j || j == i)) (hdep : ∀ j, dep ops i j = true → L j = true) (v : Value) (W' : World) (hv : F i v W') (hR : Rl i W W') (hA : A i = true → W.heap.size ≤ blkOf v) :
  ∃ f', (act n ds f).put o.dst v = act n ds f' ∧ Mid ops M F G A f0 f' W' L' := by
 have hc' := hc
 simp only [okB, Bool.and_eq_true, decide_eq_true_eq, List.all_eq_true, List.mem_range] at hc'
 obtain ⟨hM, hops⟩ := hc'
 have h5 := hops i hi
 simp only [ho, Bool.and_eq_true] at h5
 obtain ⟨⟨⟨hg, hdst⟩, hdis⟩, hon⟩ := h5
 have hdepi : ∀ j, dep ops i j = true → j < i := fun j hj => by
  unfold dep at hj
  rw [ho] at hj
  simp only [Array.any_eq_true', Bool.and_eq_true, beq_iff_eq] at hj
  obtain ⟨e, he, hb, rfl⟩ := hj
  rw [Array.all_eq_true_iff_forall_mem] at hon
  have := hon e he
  rw [hb] at this
  simpa using this
 have hdo : dstOf ops i = o.dst := by simp [dstOf, ho]
 cases hd : o.dst with
 | none =>
  refine ⟨f, rfl, ⟨fun t ht => h.old t fun j hj hd => (by have := ht j hj hd; rw [hL'] at this; simp at this; exact this.1), hS.gst _ _ h.g hR, fun j hj hjl => ?_, fun j k hj hjl hk => ?_, fun j k hj hk hjk hjl hkl hAj hAk => ?_⟩⟩
  ·by_cases hji : j = i
   ·subst hji
    have : out ops j f = undef := by simp [out, hdo, hd]
    rw [this]; exact hS.none hd v W' hv
   ·rw [hL'] at hjl
    have hjl' : L j = true := by simpa [hji] using hjl
    obtain ⟨oj, hoj⟩ : ∃ o, ops[j]? = some o := ⟨ops[j]'(by omega), by simp [Array.getElem?_eq_getElem (show j < ops.size by omega)]⟩
    exact (hSall j oj hj hoj).stb i _ _ _ hi (Ne.symm hji) (h.fact j hj hjl') hR
  ·rw [hL'] at hjl ⊢
   by_cases hji : j = i
   ·subst hji; rw [hdep k hk]; rfl
   ·have hjl' : L j = true := by simpa [hji] using hjl
    rw [h.cl j k hj hjl' hk]; rfl
  ·have hni : ∀ m, m < M → A m = true → m ≠ i := by
    rintro m hm hAm rfl
    have := (hS.ablk hAm).2.2
    rw [hd] at this; cases this
   have hj' : L j = true := by have := hjl; rw [hL'] at this; simpa [hni j hj hAj] using this
   have hk' : L k = true := by have := hkl; rw [hL'] at this; simpa [hni k hk hAk] using this
   exact h.apart j k hj hk hjk hj' hk' hAj hAk
 | some t =>
  have htn : t < n := by rw [hd] at hdst; simpa using hdst
  have hdt : dstOf ops i = some t := by rw [hdo, hd]
  have e : (act n ds f).put (some t) v = act n ds (upd f t v) := by
   show ({ tmps := (frame n f).setIfInBounds t v, defers := ds } : Act) = _
   rw [frame_set]; rfl
  have hne : ∀ j, j < M → j ≠ i → ∀ u, dstOf ops j = some u → u ≠ t := fun j hj hji u hu => by
   rintro rfl
   rw [List.all_eq_true] at hdis
   have := hdis j (List.mem_range.2 hj)
   rw [Bool.or_eq_true, Bool.or_eq_true] at this
   rcases this with (h | h) | h
   ·exact hji (by simpa using h)
   ·rw [hd] at h; simp at h
   ·rw [hu, hd] at h; simp at h
  have hout : ∀ j, j < M → j ≠ i → out ops j (upd f t v) = out ops j f := fun j hj hji => by
   unfold out
   cases hu : dstOf ops j with
   | none => rfl
   | some u => exact upd_ne f v (hne j hj hji u hu)
  have houti : out ops i (upd f t v) = v := by unfold out; rw [hdt]; exact upd_same f t v
  have hL0 : ∀ j, j ≠ i → L' j = true → L j = true := fun j hji hjl => by rw [hL'] at hjl; simpa [hji] using hjl
  refine ⟨_, e, ⟨fun u hu => ?_, hS.gst _ _ h.g hR, fun j hj hjl => ?_, fun j k hj hjl hk => ?_, fun j k hj hk hjk hjl hkl hAj hAk => ?_⟩⟩
  ·rw [upd_ne]
   ·exact h.old u fun j hj hd => (by have := hu j hj hd; rw [hL'] at this; simp at this; exact this.1)
   ·rintro rfl
    have := hu i hi hdt
    rw [hL'] at this; simp at this
  ·by_cases hji : j = i
   ·subst hji; rw [houti]; exact hv
   ·rw [hout j hj hji]
    obtain ⟨oj, hoj⟩ : ∃ o, ops[j]? = some o := ⟨ops[j]'(by omega), by simp [Array.getElem?_eq_getElem (show j < ops.size by omega)]⟩
    exact (hSall j oj hj hoj).stb i _ _ _ hi (Ne.symm hji) (h.fact j hj (hL0 j hji hjl)) hR
  ·by_cases hji : j = i
   ·subst hji; rw [hL', hdep k hk]; rfl
   ·rw [hL', h.cl j k hj (hL0 j hji hjl) hk]; rfl
  ·by_cases hji : j = i
   ·subst hji
    have hki : k ≠ j := Ne.symm hjk
    obtain ⟨ok, hok⟩ : ∃ o, ops[k]? = some o := ⟨ops[k]'(by omega), by simp [Array.getElem?_eq_getElem (show k < ops.size by omega)]⟩
    rw [houti, hout k hk hki]
    have h1 := ((hSall k ok hk hok).ablk hAk).1 _ _ (h.fact k hk (hL0 k hki hkl))
    have h2 := hA hAj
    omega
   ·by_cases hki : k = i
    ·subst hki
     obtain ⟨oj, hoj⟩ : ∃ o, ops[j]? = some o := ⟨ops[j]'(by omega), by simp [Array.getElem?_eq_getElem (show j < ops.size by omega)]⟩
     rw [houti, hout j hj hji]
     have h1 := ((hSall j oj hj hoj).ablk hAj).1 _ _ (h.fact j hj (hL0 j hji hjl))
     have h2 := hA hAk
     omega
    ·rw [hout j hj hji, hout k hk hki]
     exact h.apart j k hj hk hjk (hL0 j hji hjl) (hL0 k hki hkl) hAj hAk
theorem mid_step (hc : okB ops M n = true) {i : Nat} {o : Oper} {f : Nat → Value} {W : World} {L L' : Nat → Bool} (hi : i < M) (ho : ops[i]? = some o) (hS : Step P n ds f0 ops M F G A Rl i o) (hSall : ∀ k ok, k < M → ops[k]? = some ok → Step P n ds f0 ops M F G A Rl k ok)
  (h : Mid ops M F G A f0 f W L) (hLi : L i = false) (hL' : ∀ j, L' j = (L j || j == i)) (hdep : ∀ j, dep ops i j = true → L j = true) {Kn : Act → World → Prop}
  (hK : ∀ f' W', Mid ops M F G A f0 f' W' L' → Kn (act n ds f') W') : (if Region.wanted o (yielded ops (act n ds f).tmps) then o.wp P (act n ds f) W Kn Q ∨ (o.asks P (act n ds f) W ∧ LetsOut Q) else Kn ((act n ds f).put o.dst undef) W) := by
 have hc' := hc
 simp only [okB, Bool.and_eq_true, decide_eq_true_eq, List.all_eq_true, List.mem_range] at hc'
 obtain ⟨hM, hops⟩ := hc'
 have h5 := hops i hi
 simp only [ho, Bool.and_eq_true] at h5
 obtain ⟨⟨⟨hg, hdst⟩, hdis⟩, hon⟩ := h5
 have hdepi : ∀ j, dep ops i j = true → j < i := fun j hj => by
  unfold dep at hj
  rw [ho] at hj
  simp only [Array.any_eq_true', Bool.and_eq_true, beq_iff_eq] at hj
  obtain ⟨e, he, hb, rfl⟩ := hj
  rw [Array.all_eq_true_iff_forall_mem] at hon
  have := hon e he
  rw [hb] at this
  simpa using this
 have hdo : dstOf ops i = o.dst := by simp [dstOf, ho]
 have hat : At ops M F G f0 f W i := ⟨mid_old h hLi, h.g, fun j hj => h.fact j (Nat.lt_trans (hdepi j hj) hi) (hdep j hj)⟩
 have hgo : ∀ v W', F i v W' → Rl i W W' → (A i = true → W.heap.size ≤ blkOf v) → Kn ((act n ds f).put o.dst v) W' := by
  intro v W' hv hR hA
  obtain ⟨f', e, hm⟩ := mid_put hc hi ho hS hSall h hL' hdep v W' hv hR hA
  rw [e]
  exact hK f' W' hm
 have hyield : ∀ j b, o.guard = some (j, b) → (yielded ops (frame n f) j = some b ↔ out ops j f = .bool b) := by
  intro j b hjb
  rw [hjb] at hg
  simp only [Bool.and_eq_true, decide_eq_true_eq] at hg
  obtain ⟨⟨hjM, _⟩, hsome⟩ := hg
  obtain ⟨t', ht'⟩ := Option.isSome_iff_exists.1 hsome
  obtain ⟨oj, hoj⟩ : ∃ o, ops[j]? = some o := ⟨ops[j]'(by omega), by simp [Array.getElem?_eq_getElem (show j < ops.size by omega)]⟩
  have h2 := hops j hjM
  simp only [hoj, Bool.and_eq_true] at h2
  have hjd : oj.dst = some t' := by simpa [dstOf, hoj] using ht'
  have hlt : t' < n := by
   have h3 := h2.1.1.2
   rw [hjd] at h3; simpa using h3
  have e2 : out ops j f = f t' := by unfold out; rw [ht']
  rw [e2]
  unfold yielded
  have e1 : ((ops[j]?).bind (·.dst)).bind ((frame n f)[·]?) = some (f t') := by
   simp only [hoj, Option.bind_some, hjd]
   have hlt' : t' < (frame n f).size := by rw [frame_size]; exact hlt
   rw [Array.getElem?_eq_getElem hlt']
   simp [frame]
  rw [e1]
  generalize f t' = z
  constructor
  ·intro h; split at h
   ·rename_i b' hb'; cases h; simpa using hb'
   ·cases h
  ·rintro rfl; rfl
 show (if Region.wanted o (yielded ops (frame n f)) then _ else _)
 by_cases hw : Region.wanted o (yielded ops (frame n f)) = true
 ·rw [if_pos hw]
  refine .inl (hS.step f W hat (fun j b hjb => ?_) _ _ fun v W' hv => hgo v W' hv.1 hv.2.1 hv.2.2)
  unfold Region.wanted at hw
  rw [hjb] at hw
  exact (hyield j b hjb).1 (by simpa using hw)
 ·rw [if_neg hw]
  cases hgu : o.guard with
  | none => exfalso; apply hw; unfold Region.wanted; rw [hgu]
  | some jb =>
   obtain ⟨j, b⟩ := jb
   have hsk := hS.skip j b hgu f W hat fun he => hw (by
    unfold Region.wanted
    rw [hgu]
    simpa using (hyield j b hgu).2 he)
   exact hgo _ _ hsk.1 hsk.2 (fun hAi => by have := (hS.ablk hAi).2.1; rw [this] at hgu; cases hgu)
theorem count_set {listed : Array Bool} {N i : Nat} (hN : i < N) (hil : i < listed.size) (hi0 : listed.getD i false = false) :
  ((List.range N).filter fun k => !listed.getD k false).length = ((List.range N).filter fun k => !(listed.setIfInBounds i true).getD k false).length + 1 := by
 have hset : ∀ j, j ≠ i → (listed.setIfInBounds i true).getD j false = listed.getD j false := fun j hj => getD_set_ne false (Ne.symm hj)
 have hseti : (listed.setIfInBounds i true).getD i false = true := by simp [Array.getD, hil]
 have : ∀ n, i < n → ((List.range n).filter fun k => !listed.getD k false).length = ((List.range n).filter fun k => !(listed.setIfInBounds i true).getD k false).length + 1 := by
  intro n
  induction n with
  | zero => intro h; omega
  | succ n ihn =>
   intro h
   rw [List.range_succ, List.filter_append, List.filter_append, List.length_append, List.length_append]
   by_cases hin : i = n
   ·subst hin
    have e4 : (List.range i).filter (fun k => !listed.getD k false) = (List.range i).filter (fun k => !(listed.setIfInBounds i true).getD k false) := by
     apply List.filter_congr
     intro k hk
     rw [hset k (by have := List.mem_range.1 hk; omega)]
    rw [e4]
    have e6 : ([i].filter fun k => !listed.getD k false) = [i] := by rw [List.filter_cons_of_pos (by rw [hi0]; rfl)]; rfl
    have e7 : ([i].filter fun k => !(listed.setIfInBounds i true).getD k false) = [] := by rw [List.filter_cons_of_neg (by rw [hseti]; simp)]; rfl
    rw [e6, e7]; rfl
   ·rw [ihn (by omega)]
    have e5 : ([n].filter fun k => !listed.getD k false) = ([n].filter fun k => !(listed.setIfInBounds i true).getD k false) := by
     apply List.filter_congr
     intro k hk
     rw [hset k (by have := List.mem_singleton.1 hk; omega)]
    rw [e5]; omega
 exact this _ hN
theorem any_inv (Fl : List Nat) (S : World → Prop) (hGS : ∀ W, G W → S W) (hQ : ∀ c a w, ¬ Q (.panic c) a w) (hc : okB ops M n = true) (hl : lastB ops M Fl = true) (hfl : ∀ i o, Fl.contains i = true → ops[i]? = some o → ∀ f W, At ops M F G f0 f W i → ∃ v, (∀ w', S w' → (execOp (act n ds f).eval o).run P w' = .ok (.value v) w') ∧ F i v W ∧ Rl i W W ∧ A i = false) (hSall : ∀ k ok, k < M → ops[k]? = some ok → Step P n ds f0 ops M F G A Rl k ok)
  (hend : ∀ f W, End ops M F G A f0 f W → wpAnyH P .any ops Q S (ops.size - M) (doneTo ops.size M) (act n ds f) W) :
  ∀ (fuel : Nat) (listed : Array Bool) (f : Nat → Value) (W : World), listed.size = ops.size → Mid ops M F G A f0 f W (fun i => listed.getD i false) → (∀ i, M ≤ i → listed.getD i false = false) →
   fuel = ((List.range ops.size).filter fun i => !listed.getD i false).length → wpAnyH P .any ops Q S fuel listed (act n ds f) W := by
 have hc' := hc
 simp only [okB, Bool.and_eq_true, decide_eq_true_eq, List.all_eq_true, List.mem_range] at hc'
 obtain ⟨hM, hops⟩ := hc'
 simp only [lastB, Bool.and_eq_true, List.all_eq_true, List.mem_range] at hl
 obtain ⟨⟨hl, hns⟩, hflo⟩ := hl
 have hfull : ∀ (fuel : Nat) (listed : Array Bool) (f : Nat → Value) (W : World), listed.size = ops.size → Mid ops M F G A f0 f W (fun i => listed.getD i false) → (∀ i, M ≤ i → listed.getD i false = false) → (∀ i, i < M → listed.getD i false = true) →
   fuel = ((List.range ops.size).filter fun i => !listed.getD i false).length → wpAnyH P .any ops Q S fuel listed (act n ds f) W := by
  intro fuel listed f W hls hmid hno hall hfu
  have hL : listed = doneTo ops.size M := by
   apply Array.ext
   ·simp [doneTo, hls]
   ·intro i h1 h2
    have e : listed.getD i false = listed[i] := by simp [Array.getD, h1]
    rw [← e]
    simp only [doneTo, Array.getElem_map, List.getElem_toArray, List.getElem_range]
    by_cases hi : i < M
    ·rw [hall i hi]; simp [hi]
    ·rw [hno i (by omega)]; simp [hi]
  have hf2 : fuel = ops.size - M := by
   rw [hfu]
   have e1 : (List.range ops.size).filter (fun i => !listed.getD i false) = (List.range ops.size).filter (fun i => decide (M ≤ i)) := by
    apply List.filter_congr
    intro i hi
    by_cases h : i < M
    ·rw [hall i h]; simp; omega
    ·rw [hno i (by omega)]; simp; omega
   rw [e1]
   have e2 : ∀ n, M ≤ n → ((List.range n).filter (fun i => decide (M ≤ i))).length = n - M := by
    intro n hn
    induction n with
    | zero => simp
    | succ n ih =>
     rw [List.range_succ, List.filter_append]
     by_cases h : M ≤ n
     ·rw [List.length_append, ih h]; simp [h]; omega
     ·have : M = n + 1 := by omega
      rw [List.length_append]
      have e3 : (List.range n).filter (fun i => decide (M ≤ i)) = [] := by
       rw [List.filter_eq_nil_iff]; intro i hi; simp at hi ⊢; omega
      rw [e3]; simp [h]; omega
   exact e2 _ hM
  rw [hL, hf2]
  exact hend f W ⟨fun t ht => hmid.old t fun j hj hd => absurd hd (isDst_none ht j hj), hmid.g, fun i hi => hmid.fact i hi (hall i hi), fun i j hi hj hij hAi hAj => hmid.apart i j hi hj hij (hall i hi) (hall j hj) hAi hAj⟩
 intro fuel
 induction fuel with
 | zero =>
  intro listed f W hls hmid hno hfu
  refine hfull 0 listed f W hls hmid hno (fun i hi => ?_) hfu
  have h1 := List.eq_nil_of_length_eq_zero hfu.symm
  rw [List.filter_eq_nil_iff] at h1
  have := h1 i (List.mem_range.2 (by omega))
  simpa using this
 | succ fuel ih =>
  intro listed f W hls hmid hno hfu
  by_cases hall : ∀ i, i < M → listed.getD i false = true
  ·exact hfull _ listed f W hls hmid hno hall hfu
  ·by_cases hfr : ∃ i, Fl.contains i = true ∧ i ∈ Region.ready .any ops listed
   ·obtain ⟨i, hiF, hi⟩ := hfr
    have h9 := hflo i (by simpa using hiF)
    obtain ⟨hi0, o, ho, hdeps⟩ := mem_ready.1 hi
    simp only [ho, Bool.and_eq_true, decide_eq_true_eq, List.all_eq_true, List.mem_range] at h9
    obtain ⟨hiM, ⟨hgn, hfree⟩, _⟩ := h9
    have hil : i < listed.size := by rw [hls]; omega
    have hi0' : listed.getD i false = false := by
     simp only [Array.getD, hil, dif_pos] at hi0 ⊢; exact hi0
    have hdep' : ∀ j, dep ops i j = true → listed.getD j false = true := fun j hj => by
     unfold dep at hj
     rw [ho] at hj
     simp only [Array.any_eq_true', Bool.and_eq_true, beq_iff_eq] at hj
     obtain ⟨e, he, hb, rfl⟩ := hj
     exact hdeps e he hb
    have hat : At ops M F G f0 f W i := ⟨mid_old hmid hi0', hmid.g, fun j hj => by
     have hjl := hdep' j hj
     have hjM : j < M := by
      rcases Nat.lt_or_ge j M with h | h
      ·exact h
      ·rw [hno j h] at hjl; cases hjl
     exact hmid.fact j hjM hjl⟩
    obtain ⟨v, hyv, hFv, hRv, hAi⟩ := hfl i o hiF ho f W hat
    have hset : ∀ j, j ≠ i → (listed.setIfInBounds i true).getD j false = listed.getD j false := fun j hj => getD_set_ne false (Ne.symm hj)
    have hseti : (listed.setIfInBounds i true).getD i false = true := by simp [Array.getD, hil]
    obtain ⟨f', he, hm'⟩ := mid_put (L' := fun j => (listed.setIfInBounds i true).getD j false) hc hiM ho (hSall i o hiM ho) hSall hmid (fun j => by
     by_cases hji : j = i
     ·subst hji; simp only [hseti, beq_self_eq_true, Bool.or_true]
     ·simp only [hset j hji]; simp [hji]) hdep' v W hFv hRv (fun h => by rw [hAi] at h; cases h)
    have hnse : Region.noSelect ops = true := by
     rw [Bool.or_eq_true] at hns
     rcases hns with h | h
     ·rw [List.isEmpty_iff] at h; rw [h] at hiF; simp at hiF
     ·exact h
    have hy : YieldsIf P ops S o v (act n ds f) := .inl ⟨by
     have : o.guard = none := by simpa using hgn
     simp [Region.wanted, this], hyv⟩
    refine wpAnyH_first ho (Region.noSelect_spec hnse) (fun c a w h => absurd h (hQ c _ w)) fuel listed _ W (fun j oj hoj hji hjl hjn => ?_) hi hy (hGS W hmid.g) ?_
    ·have h3 := hfree j (Array.getElem?_eq_some_iff.1 hoj).1
     simp only [Bool.or_eq_true, hoj] at h3
     rcases h3 with ((h3 | h3) | h3) | h3
     ·exact absurd (by simpa using h3) hji
     ·unfold dep at h3
      rw [hoj] at h3
      simp only [Array.any_eq_true', Bool.and_eq_true, beq_iff_eq] at h3
      obtain ⟨e, he', hb, hei⟩ := h3
      exact absurd hei (hjn e he' hb)
     ·have hjt := hdep' j h3
      have hjs : j < listed.size := by rw [hls]; exact (Array.getElem?_eq_some_iff.1 hoj).1
      simp only [Array.getD, hjs, dif_pos] at hjt hjl
      rw [hjt] at hjl; cases hjl
     ·exact h3
    ·rw [he]
     refine ih _ f' W (by simp [hls]) hm' (fun j hj => by rw [hset j (by omega)]; exact hno j hj) ?_
     have := count_set (N := ops.size) (i := i) (by omega) hil hi0'
     omega
   have hnl : ∀ k, k ∈ Region.ready .any ops listed → k < M := by
    intro k hk
    rcases Nat.lt_or_ge k M with h | h
    ·exact h
    ·exfalso
     obtain ⟨hk0, o, ho, hdeps⟩ := mem_ready.1 hk
     have hks : k < ops.size := (Array.getElem?_eq_some_iff.1 ho).1
     have hdown : ∀ d i, i < M → Fl.contains i = false → M - i ≤ d → listed.getD i false = true := by
      intro d
      induction d with
      | zero => intro i hi _ hd; omega
      | succ d ihd =>
       intro i hi hnf hd
       have h2 := hl i hi
       rw [hnf, Bool.false_or, Bool.or_eq_true] at h2
       rcases h2 with h2 | h2
       ·rw [List.any_eq_true] at h2
        obtain ⟨k', hk', h3⟩ := h2
        simp only [List.mem_range, Bool.and_eq_true, decide_eq_true_eq, Bool.not_eq_true'] at hk' h3
        exact hmid.cl k' i hk' (ihd k' hk' h3.1.2 (by omega)) h3.2
       ·rw [List.all_eq_true] at h2
        have h3 := h2 k (List.mem_range.2 hks)
        rw [Bool.or_eq_true, Bool.or_eq_true, decide_eq_true_eq] at h3
        rcases h3 with (h3 | h3) | h3
        ·omega
        ·unfold dep at h3
         rw [ho] at h3
         simp only [Array.any_eq_true', Bool.and_eq_true, beq_iff_eq] at h3
         obtain ⟨e, he, hb, rfl⟩ := h3
         exact hdeps e he hb
        ·exfalso
         rw [List.any_eq_true] at h3
         obtain ⟨k2, _, h3⟩ := h3
         simp only [Bool.and_eq_true, decide_eq_true_eq] at h3
         obtain ⟨hk2, h3⟩ := h3
         unfold dep at h3
         rw [ho] at h3
         simp only [Array.any_eq_true', Bool.and_eq_true, beq_iff_eq] at h3
         obtain ⟨e, he, hb, rfl⟩ := h3
         have h4 := hdeps e he hb
         rw [hno _ hk2] at h4
         cases h4
     apply hall
     intro i
     induction i using Nat.strongRecOn with
     | _ i ihi =>
     intro hi
     cases hF' : Fl.contains i with
     | false => exact hdown _ i hi hF' (Nat.le_refl _)
     | true =>
      cases hv : listed.getD i false with
      | true => rfl
      | false =>
       exfalso
       apply hfr
       refine ⟨i, hF', ?_⟩
       have h9 := hflo i (by simpa using hF')
       obtain ⟨oi, hoi⟩ : ∃ o, ops[i]? = some o := ⟨ops[i]'(by omega), by simp [Array.getElem?_eq_getElem (show i < ops.size by omega)]⟩
       simp only [hoi, Bool.and_eq_true, decide_eq_true_eq] at h9
       obtain ⟨_, _, haf⟩ := h9
       have hil : i < listed.size := by rw [hls]; omega
       refine mem_ready.2 ⟨by simp only [Array.getD, hil, dif_pos] at hv ⊢; exact hv, oi, hoi, fun e he hb => ?_⟩
       rw [Array.all_eq_true_iff_forall_mem] at haf
       have h4 := haf e he
       rw [hb] at h4
       simp only [Bool.not_true, Bool.false_or, decide_eq_true_eq] at h4
       exact ihi e.on h4 (by omega)
   refine ⟨fun h0 => ?_, fun i hi => ?_⟩
   ·exfalso
    have hex : ∃ i, i < M ∧ listed.getD i false = false ∧ ∀ j, j < i → listed.getD j false = true := by
     have : ∀ n, n ≤ M → (∀ j, j < n → listed.getD j false = true) ∨ ∃ i, i < M ∧ listed.getD i false = false ∧ ∀ j, j < i → listed.getD j false = true := by
      intro n
      induction n with
      | zero => intro _; left; intro j hj; omega
      | succ n ihn =>
       intro hn
       rcases ihn (by omega) with h | h
       ·cases hv : listed.getD n false
        ·right; exact ⟨n, by omega, hv, h⟩
        ·left; intro j hj
         rcases Nat.lt_or_ge j n with h' | h'
         ·exact h j h'
         ·have : j = n := by omega
          subst this; exact hv
       ·exact .inr h
     rcases this M (Nat.le_refl _) with h | h
     ·exact absurd h hall
     ·exact h
    obtain ⟨i, hi, hv, hlow⟩ := hex
    obtain ⟨o, ho⟩ : ∃ o, ops[i]? = some o := ⟨ops[i]'(by omega), by simp [Array.getElem?_eq_getElem (show i < ops.size by omega)]⟩
    have h1 := hops i hi
    simp only [ho, Bool.and_eq_true] at h1
    have hil : i < listed.size := by rw [hls]; omega
    have hr : i ∈ Region.ready .any ops listed := mem_ready.2 ⟨by simp only [Array.getD, hil, dif_pos] at hv ⊢; exact hv, o, ho, fun e he hb => by
     have h2 := h1.2
     rw [Array.all_eq_true_iff_forall_mem] at h2
     have h3 := h2 e he
     rw [hb] at h3
     exact hlow _ (by simpa using h3)⟩
    rw [h0] at hr
    cases hr
   ·have hiM := hnl i hi
    obtain ⟨hi0, o, ho, hdeps⟩ := mem_ready.1 hi
    have hil : i < listed.size := by rw [hls]; omega
    have hi0' : listed.getD i false = false := by
     simp only [Array.getD, hil, dif_pos] at hi0 ⊢; exact hi0
    have hdep' : ∀ j, dep ops i j = true → listed.getD j false = true := fun j hj => by
     unfold dep at hj
     rw [ho] at hj
     simp only [Array.any_eq_true', Bool.and_eq_true, beq_iff_eq] at hj
     obtain ⟨e, he, hb, rfl⟩ := hj
     exact hdeps e he hb
    have hset : ∀ j, j ≠ i → (listed.setIfInBounds i true).getD j false = listed.getD j false := fun j hj => getD_set_ne false (Ne.symm hj)
    have hseti : (listed.setIfInBounds i true).getD i false = true := by simp [Array.getD, hil]
    unfold wpOp
    simp only [ho]
    refine mid_step (L' := fun j => (listed.setIfInBounds i true).getD j false) hc hiM ho (hSall i o hiM ho) hSall hmid hi0' (fun j => ?_) hdep' fun f' W' hm' => ⟨hGS W' hm'.g, ih _ f' W' (by simp [hls]) hm' (fun j hj => ?_) ?_⟩
    ·by_cases hji : j = i
     ·subst hji; simp only [hseti, beq_self_eq_true, Bool.or_true]
     ·simp only [hset j hji]; simp [hji]
    ·rw [hset j (by omega)]; exact hno j hj
    ·have := count_set (N := ops.size) (i := i) (by omega) hil hi0'
     omega
theorem list_inv (hc : okB ops M n = true) (hSall : ∀ k ok, k < M → ops[k]? = some ok → Step P n ds f0 ops M F G A Rl k ok)
  (hend : ∀ f W, End ops M F G A f0 f W → wpList P ops Q (ops.toList.drop M) (act n ds f) W) :
  ∀ k, k ≤ M → ∀ f W, Mid ops M F G A f0 f W (fun i => decide (i < M - k)) → wpList P ops Q (ops.toList.drop (M - k)) (act n ds f) W := by
 have hc' := hc
 simp only [okB, Bool.and_eq_true, decide_eq_true_eq, List.all_eq_true, List.mem_range] at hc'
 obtain ⟨hM, hops⟩ := hc'
 intro k
 induction k with
 | zero => intro _ f W h; exact hend f W ⟨fun t ht => h.old t fun j hj hd => absurd hd (isDst_none ht j hj), h.g, fun i hi => h.fact i hi (by simpa using hi), fun i j hi hj hij hAi hAj => h.apart i j hi hj hij (by simpa using hi) (by simpa using hj) hAi hAj⟩
 | succ k ih =>
  intro hk f W h
  obtain ⟨i, hi⟩ : ∃ i, i = M - (k + 1) := ⟨_, rfl⟩
  have hiM : i < M := by omega
  rw [← hi] at h ⊢
  obtain ⟨o, ho⟩ : ∃ o, ops[i]? = some o := ⟨ops[i]'(by omega), by simp [Array.getElem?_eq_getElem (show i < ops.size by omega)]⟩
  have hd : ops.toList.drop i = o :: ops.toList.drop (i + 1) := by
   rw [List.drop_eq_getElem_cons (by simp; omega)]
   congr 1
   have := ho
   rw [Array.getElem?_eq_some_iff] at this
   obtain ⟨_, h⟩ := this
   simpa using h
  rw [hd]
  have h5 := hops i hiM
  simp only [ho, Bool.and_eq_true] at h5
  have hon := h5.2
  have hdepi : ∀ j, dep ops i j = true → decide (j < i) = true := fun j hj => by
   unfold dep at hj
   rw [ho] at hj
   simp only [Array.any_eq_true', Bool.and_eq_true, beq_iff_eq] at hj
   obtain ⟨e, he, hb, rfl⟩ := hj
   rw [Array.all_eq_true_iff_forall_mem] at hon
   have := hon e he
   rw [hb] at this
   simpa using this
  have e1 : M - k = i + 1 := by omega
  refine mid_step (L' := fun j => decide (j < i + 1)) hc hiM ho (hSall i o hiM ho) hSall h (by simp) (fun j => ?_) hdepi fun f' W' hm' => ?_
  ·by_cases hji : j = i
   ·subst hji; simp
   ·have : (j < i + 1) ↔ (j < i) := by omega
    simp [hji, this]
  ·have := ih (by omega) f' W' (by rw [e1]; exact hm')
   rwa [e1] at this
end
def Tail (S : World → Prop) (dr : Bool) (P : Program) (ops : Array Oper) (Q : Exit → Act → World → Prop) (n : Nat) (ds : List Deferred) (k : Nat) (f : Nat → Value) (W : World) : Prop :=
 if dr = true then wpAnyH P .any ops Q S (ops.size - k) (doneTo ops.size k) (act n ds f) W else wpList P ops Q (ops.toList.drop k) (act n ds f) W
def drawn (dr : Bool) (w : World) : World := if dr = true then w.drew else w
theorem mid0 {ops : Array Oper} {M : Nat} {F : Nat → Value → World → Prop} {G : World → Prop} {A : Nat → Bool} {f0 : Nat → Value} {W : World} {L : Nat → Bool} (hL : ∀ i, L i = false) (hG : G W) : Mid ops M F G A f0 f0 W L :=
 ⟨fun _ _ => rfl, hG, fun i _ h => (by rw [hL] at h; cases h), fun i j _ h => (by rw [hL] at h; cases h), fun i j _ _ _ h => (by rw [hL] at h; cases h)⟩
theorem region {P : Program} {n : Nat} {ds : List Deferred} {Q : Exit → Act → World → Prop} {f0 : Nat → Value} {ops : Array Oper} {w : World} {id : Nat} {dr : Bool} (M : Nat) (F : Nat → Value → World → Prop) (G : World → Prop) (A : Nat → Bool) (Rl : Nat → World → World → Prop) (Fl : List Nat) (S : World → Prop) (hGS : ∀ W, G W → S W)
  (hm : P.follows .mixedOrders = true) (hc : okB ops M n = true) (hl : dr = true → lastB ops M Fl = true) (h0 : G (drawn dr w))
  (hfl : ∀ i o, Fl.contains i = true → ops[i]? = some o → ∀ f W, At ops M F G f0 f W i → ∃ v, (∀ w', S w' → (execOp (act n ds f).eval o).run P w' = .ok (.value v) w') ∧ F i v W ∧ Rl i W W ∧ A i = false)
  (hSall : ∀ k ok, k < M → ops[k]? = some ok → Step P n ds f0 ops M F G A Rl k ok)
  (hend : ∀ f W, End ops M F G A f0 f W → Tail S dr P ops (onlyN (Q .normal)) n ds M f W) : (Code.region id ops dr).wp P Q (act n ds f0) w := by
 refine Code.wp_mono onlyN_mono ?_
 cases dr with
 | true =>
  refine wp_region_any hm (wpAny_of_held _ _ _ _ (any_inv Fl S hGS (fun c a w h => h) hc (hl rfl) hfl hSall (fun f W h => hend f W h) _ _ f0 _ (by simp) (mid0 (fun i => by simp [Array.getD]) h0) (fun i _ => by simp [Array.getD]) ?_))
  have e : (List.range ops.size).filter (fun i => !(Array.replicate ops.size false).getD i false) = List.range ops.size := by
   rw [List.filter_eq_self]; intro i _; simp [Array.getD]
  rw [e, List.length_range]
 | false =>
  have h1 := list_inv (Q := onlyN (Q .normal)) hc hSall (fun f W h => hend f W h) M (Nat.le_refl _) f0 w (mid0 (fun i => by simp) h0)
  rw [Nat.sub_self, List.drop_zero] at h1
  exact wp_region_list h1
theorem tail_op {S : World → Prop} {dr : Bool} {P : Program} {n : Nat} {ds : List Deferred} {Q : Exit → Act → World → Prop} {ops : Array Oper} {k : Nat} {f : Nat → Value} {W : World} {o : Oper} (ho : ops[k]? = some o) (hg : o.guard = none) (hr : dr = true → Region.ready .any ops (doneTo ops.size k) = [k])
  (h : o.wp P (act n ds f) W (fun a' W' => S W' ∧ ∃ f', a' = act n ds f' ∧ Tail S dr P ops Q n ds (k + 1) f' W') Q) : Tail S dr P ops Q n ds k f W := by
 have hk : k < ops.size := (Array.getElem?_eq_some_iff.1 ho).1
 unfold Tail
 cases dr with
 | true =>
  rw [if_pos rfl]
  obtain ⟨m, hm⟩ : ∃ m, ops.size - k = m + 1 := ⟨ops.size - k - 1, by omega⟩
  rw [hm]
  have hr' := hr rfl
  refine ⟨fun h0 => (by rw [h0] at hr'; cases hr'), fun j hj => ?_⟩
  rw [hr'] at hj
  obtain rfl : j = k := by simpa using hj
  unfold wpOp
  have hw : Region.wanted o (yielded ops (act n ds f).tmps) = true := by simp [Region.wanted, hg]
  simp only [ho, hw, if_true]
  refine .inl (Oper.wp_mono ?_ h)
  rintro a' W' ⟨hS, f', rfl, ht⟩
  refine ⟨hS, ?_⟩
  unfold Tail at ht
  rw [if_pos rfl] at ht
  have e1 : ops.size - (j + 1) = m := by omega
  have e2 : doneTo ops.size (j + 1) = (doneTo ops.size j).setIfInBounds j true := by
   apply Array.ext
   ·simp [doneTo]
   ·intro i h1 h2
    rw [Array.getElem_setIfInBounds (by simpa [doneTo] using h1)]
    simp only [doneTo, Array.getElem_map, List.getElem_toArray, List.getElem_range]
    by_cases h : j = i
    ·subst h; simp
    ·rw [if_neg h]
     have : (i < j + 1) ↔ (i < j) := by omega
     simp [this]
  rw [e1, e2] at ht
  exact ht
 | false =>
  rw [if_neg (by simp)]
  have hd : ops.toList.drop k = o :: ops.toList.drop (k + 1) := by
   rw [List.drop_eq_getElem_cons (by simp; omega)]
   congr 1
   have := ho
   rw [Array.getElem?_eq_some_iff] at this
   obtain ⟨_, h⟩ := this
   simpa using h
  rw [hd]
  have hw : Region.wanted o (yielded ops (act n ds f).tmps) = true := by simp [Region.wanted, hg]
  unfold wpList
  rw [if_pos hw]
  refine .inl (Oper.wp_mono ?_ h)
  rintro a' W' ⟨_, f', rfl, ht⟩
  unfold Tail at ht
  rw [if_neg (by simp)] at ht
  exact ht
theorem tail_done {S : World → Prop} {dr : Bool} {P : Program} {n : Nat} {ds : List Deferred} {Q : Exit → Act → World → Prop} {ops : Array Oper} {k : Nat} {f : Nat → Value} {W : World} (hk : ops.size = k) (h : Q .normal (act n ds f) W) : Tail S dr P ops Q n ds k f W := by
 subst hk
 unfold Tail
 cases dr with
 | true =>
  rw [if_pos rfl, Nat.sub_self]
  refine ⟨?_, h⟩
  unfold Region.ready
  rw [List.filter_eq_nil_iff]
  intro i hi
  have hi' : i < ops.size := List.mem_range.1 hi
  have : (doneTo ops.size ops.size).getD i true = true := by simp [doneTo, Array.getD, hi']
  simp [this]
 | false =>
  rw [if_neg (by simp)]
  have : ops.toList.drop ops.size = [] := by rw [List.drop_eq_nil_iff]; simp
  rw [this]; exact h
end RI
end Go.Proofs.YtjbcalbbhomkjaaGreat
