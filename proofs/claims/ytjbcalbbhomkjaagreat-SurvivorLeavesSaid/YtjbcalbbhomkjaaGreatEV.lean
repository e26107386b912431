import Derived.Deep.MidRow
import Derived.Deep.LoopGhost
import Derived.Test.YtjbcalbbhomkjaaGreatERegI
import Derived.Test.YtjbcalbbhomkjaaGreatENum
namespace Go.Proofs.YtjbcalbbhomkjaaGreat
open Go.RowKit
namespace V
open RI (act Ob Ext)
theorem ev_tmp {n t : Nat} {ds : List Deferred} {f : Nat → Value} {v : Value} (h : Nat.blt t n = true) (hv : f t = v) : (act n ds f).eval (.tmp t) = v := by
  have h' : t < n := by simpa using h
  show (RI.frame n f).getD t undef = v
  rw [RI.frame_getD f h', hv]
def Wp (P : Program) (c : Code) (n : Nat) (ds : List Deferred) (Q : Exit → Act → World → Prop) (f : Nat → Value) (W : World) : Prop := c.wp P Q (act n ds f) W
section rules
variable {P : Program} {n : Nat} {ds : List Deferred} {Q Q0 : Exit → Act → World → Prop} {f : Nat → Value} {W : World}
theorem seq {x y : Code} (h : Wp P x n ds (Exit.then (y.wp P Q) Q) f W) : Wp P (.seq x y) n ds Q f W := wp_seq h
theorem skip (h : Q .normal (act n ds f) W) : Wp P .skip n ds Q f W := wp_skip h
theorem exit {id : Nat} (h : Q (.exit id) (act n ds f) W) : Wp P (.exit id) n ds Q f W := wp_exit h
theorem ret (h : Q .ret (act n ds f) W) : Wp P .ret n ds Q f W := wp_ret h
theorem block {id : Nat} {c : Code} (h : Wp P c n ds (Exit.inBlock id Q) f W) : Wp P (.block id c) n ds Q f W := wp_block h
theorem cond_t {c : Operand} {x y : Code} (hc : (act n ds f).eval c = .bool true) (h : Wp P x n ds Q f W) : Wp P (.cond c x y) n ds Q f W := wp_cond_true hc h
theorem cond_f {c : Operand} {x y : Code} (hc : (act n ds f).eval c = .bool false) (h : Wp P y n ds Q f W) : Wp P (.cond c x y) n ds Q f W := wp_cond_false hc h
theorem nx {y : Code} (h : Wp P y n ds Q f W) : Exit.then (y.wp P Q) Q0 .normal (act n ds f) W := h
theorem tx {K : Act → World → Prop} {id : Nat} (h : Q (.exit id) (act n ds f) W) : Exit.then K Q (.exit id) (act n ds f) W := h
theorem tr {K : Act → World → Prop} (h : Q .ret (act n ds f) W) : Exit.then K Q .ret (act n ds f) W := h
theorem bn {id : Nat} (h : Q .normal (act n ds f) W) : Exit.inBlock id Q .normal (act n ds f) W := h
theorem bx {id : Nat} (h : Q .normal (act n ds f) W) : Exit.inBlock id Q (.exit id) (act n ds f) W := by simpa [Exit.inBlock] using h
theorem by_ {id id' : Nat} (hne : id' ≠ id) (h : Q (.exit id') (act n ds f) W) : Exit.inBlock id Q (.exit id') (act n ds f) W := by simpa [Exit.inBlock, hne] using h
theorem br {id : Nat} (h : Q .ret (act n ds f) W) : Exit.inBlock id Q .ret (act n ds f) W := h
theorem loop {c : Code} (I : Nat → (Nat → Value) → World → Prop) (k0 : Nat) (h0 : I k0 f W)
    (round : ∀ k f W, I k f W → Wp P c n ds (Exit.then (fun a w => ∃ k' f', k' < k ∧ a = act n ds f' ∧ I k' f' w) Q) f W) : Wp P (.loop c) n ds Q f W := by
  refine wp_loop_ghost (fun k a w => ∃ f, a = act n ds f ∧ I k f w) k0 ⟨f, rfl, h0⟩ ?_
  rintro k a w ⟨f, rfl, hI⟩
  refine wp_mono (round k f w hI) ?_
  intro e a w h
  cases e with
  | normal => obtain ⟨k', f', h1, h2, h3⟩ := h; exact ⟨k', h1, f', h2, h3⟩
  | exit id => exact h
  | goto l => exact h
  | ret => exact h
  | panic ch => exact h
  | outgrown => exact h
theorem handed {I : Nat → (Nat → Value) → World → Prop} {k : Nat} (k' : Nat) (h : k' < k) (hI : I k' f W) : Exit.then (fun a w => ∃ k' f', k' < k ∧ a = act n ds f' ∧ I k' f' w) Q .normal (act n ds f) W := ⟨k', f, h, rfl, hI⟩
end rules
theorem enter {P : Program} {K n : Nat} {fn : Func} {c : Code} {args : Array Value} {w : World} {R : Ending → World → Prop} (hf : P.funcs[K]? = some fn) (hb : fn.body = some c) (hn : fn.ntmps = n) (ha : args.size ≤ n)
    (h : ∀ f : Nat → Value, (∀ t, t < args.size → f t = args.getD t undef) → Wp P c n [] (bodyPost P fn R) f w) : Calls P K args w R := by
  refine calls_of_wp hf hb ?_
  have e : args ++ Array.replicate (fn.ntmps - args.size) undef = RI.frame n (fun t => (args ++ Array.replicate (fn.ntmps - args.size) undef).getD t undef) := RI.frame_of (by simp; omega)
  rw [e]
  refine h _ fun t ht => ?_
  simp [Array.getD, ht]
  intro h1
  omega
section leave
variable {P : Program} {n : Nat} {fn : Func} {R : Ending → World → Prop} {f : Nat → Value} {W : World}
theorem leave_any {e : Exit} (he : e = .ret ∨ e = .normal) {v : Value} (hr : (results fn (RI.frame n f)).run P W = .ok v W) (hR : R (.returned v) W) : bodyPost P fn R e (act n [] f) W := by
  rcases he with rfl | rfl
  · exact ⟨rfl, v, hr, hR⟩
  · exact ⟨rfl, v, hr, hR⟩
theorem res_tmp {t : Tmp} {v : Value} (h : fn.results = #[.tmp t]) (ht : Nat.blt t n = true) (hv : f t = v) : (results fn (RI.frame n f)).run P W = .ok v W := by
  have ht' : t < n := by simpa using ht
  have e := RI.frame_getD f ht'
  rw [hv] at e
  have e' : (RI.frame n f)[t]?.getD undef = v := by simpa using e
  simp [results, h, e']
theorem res_tmp2 {t u : Tmp} {v x : Value} (h : fn.results = #[.tmp t, .tmp u]) (ht : Nat.blt t n = true) (hu : Nat.blt u n = true) (hv : f t = v) (hx : f u = x) : (results fn (RI.frame n f)).run P W = .ok (.tuple #[v, x]) W := by
  have ht' : t < n := by simpa using ht
  have hu' : u < n := by simpa using hu
  have e := RI.frame_getD f ht'
  have e2 := RI.frame_getD f hu'
  rw [hv] at e
  rw [hx] at e2
  have e' : (RI.frame n f)[t]?.getD undef = v := by simpa using e
  have e2' : (RI.frame n f)[u]?.getD undef = x := by simpa using e2
  simp [results, h, e', e2']
theorem res_cell {p : Tmp} {ty : TypeId} {a : Addr} {v : Value} (h : fn.results = #[.cell p ty]) (hp : Nat.blt p n = true) (hv : f p = .pointer (some a)) (hl : (loadVar ty a).run P W = .ok v W) : (results fn (RI.frame n f)).run P W = .ok v W := by
  have hp' : p < n := by simpa using hp
  have e := RI.frame_getD f hp'
  rw [hv] at e
  exact results_cell h e hl
theorem res_cellTmp {p u : Tmp} {ty : TypeId} {a : Addr} {v x : Value} (h : fn.results = #[.cell p ty, .tmp u]) (hp : Nat.blt p n = true) (hu : Nat.blt u n = true) (hv : f p = .pointer (some a)) (hx : f u = x) (hl : (loadVar ty a).run P W = .ok v W) : (results fn (RI.frame n f)).run P W = .ok (.tuple #[v, x]) W := by
  have hp' : p < n := by simpa using hp
  have hu' : u < n := by simpa using hu
  have e := RI.frame_getD f hp'
  have e2 := RI.frame_getD f hu'
  rw [hv] at e
  rw [hx] at e2
  exact results_cellTmp h e e2 hl
end leave
def Stb (Φ : World → Prop) : Prop := ∀ W W', Φ W → Ext W W' → Φ W'
def StbV (Φ : Value → World → Prop) : Prop := ∀ v, Stb (Φ v)
theorem Stb.and {a b : World → Prop} (ha : Stb a) (hb : Stb b) : Stb fun W => a W ∧ b W := fun _ _ h hE => ⟨ha _ _ h.1 hE, hb _ _ h.2 hE⟩
theorem Stb.pure {p : Prop} : Stb fun _ => p := fun _ _ h _ => h
theorem Stb.ex {α : Sort _} {a : α → World → Prop} (h : ∀ x, Stb (a x)) : Stb fun W => ∃ x, a x W := fun _ _ ⟨x, hx⟩ hE => ⟨x, h x _ _ hx hE⟩
theorem Stb.blk {g : Nat} {t : TypeId} {cs : Array Value} : Stb fun W => Blk W g t cs := fun _ _ h hE => h.below hE h.lt
theorem Stb.r16 {A : Option Addr} {m c : Nat} {xs : List Nat} : Stb fun W => R16 W A m c xs := fun _ _ h hE => h.below hE (Nat.le_refl _)
theorem Stb.rd {sz m c : Nat} {A : Option Addr} {cs : List Value} : Stb fun W => Rd W sz A m c cs := fun _ _ h hE => h.below hE (Nat.le_refl _)
theorem Stb.bel {w : World} : Stb fun W => Below w.heap.size w W := fun _ _ h hE => h.trans (hE.mono h.size)
theorem Stb.le {k : Nat} : Stb fun W => k ≤ W.heap.size := fun _ _ h hE => Nat.le_trans h hE.size
theorem Stb.lt {k : Nat} : Stb fun W => k < W.heap.size := fun _ _ h hE => Nat.lt_of_lt_of_le h hE.size
theorem Stb.cell {p : Addr} {v : Value} : Stb fun W => W.cell? p = some v := fun _ _ h hE => (hE.cell (block_lt_of_cell h)).trans h
theorem StbV.eq {x : Value} : StbV fun v _ => v = x := fun _ _ _ h _ => h
theorem StbV.all {Φ : Value → World → Prop} (h : ∀ v, Stb (Φ v)) : StbV Φ := h
theorem drawn_facts {G : World → Prop} {dr : Bool} {w : World} (hG : Stb G) (h : G w) : G (RI.drawn dr w) := by
  cases dr
  · exact h
  · exact hG _ _ h (Below.refl _ _).drew
section ops
variable {P : Program} {n : Nat} {ds : List Deferred} {f : Nat → Value} {W W' : World} {K : Value → World → Prop} {ρ : Operand → Value} {d : Option Tmp} {ty : TypeId} {pos : String} {af : Array Edge} {gd : Option (Nat × Bool)}
theorem val {o : Oper} {v : Value} (h : (execOp (act n ds f).eval o).run P W = .ok (.value v) W') (hk : K v W') : Ob P n ds o f W K := fun Kn Q' hK => by
  unfold Oper.wp
  rw [h]
  exact hK _ _ hk
theorem valv {o : Oper} (v : Value) (h : (execOp (act n ds f).eval o).run P W = .ok (.value v) W') (hk : K v W') : Ob P n ds o f W K := val h hk
theorem call {xs : Array Operand} {ts : Array TypeId} {g : FuncId} {vs : Array Value}
    (hen : ∀ args w, (callFunc g args).run P w = .ok (.enter g args) w) (hxs : xs.map (act n ds f).eval = vs) (hc : Calls P g vs W fun e W' => ∃ v, e = .returned v ∧ K v W') :
    Ob P n ds { dst := d, op := .call { callee := .value (.func g), args := xs, argTypes := ts }, type := ty, pos := pos, after := af, guard := gd } f W K := fun Kn Q' hK => by
  subst hxs
  unfold Oper.wp
  have e : (execOp (act n ds f).eval { dst := d, op := .call { callee := .value (.func g), args := xs, argTypes := ts }, type := ty, pos := pos, after := af, guard := gd }).run P W = .ok (.enter g (xs.map (act n ds f).eval)) W := by
    simp only [execOp, resolve, Sem.run_bind, Act.eval, invoke]
    simp [go_sem, hen]
  rw [e]
  refine Calls.mono hc ?_
  rintro e w'' ⟨v, rfl, hv⟩
  exact hK _ _ hv
theorem callv {x : Operand} {xs : Array Operand} {ts : Array TypeId} {g : FuncId} {lb : Array Value} {vs : Array Value}
    (hf : (act n ds f).eval x = .func (.func g) #[] lb) (hen : ∀ args w, (callFunc g args).run P w = .ok (.enter g args) w) (hxs : xs.map (act n ds f).eval = vs) (hc : Calls P g (vs ++ lb) W fun e W' => ∃ v, e = .returned v ∧ K v W') :
    Ob P n ds { dst := d, op := .call { callee := .value x, args := xs, argTypes := ts }, type := ty, pos := pos, after := af, guard := gd } f W K := fun Kn Q' hK => by
  subst hxs
  unfold Oper.wp
  have e : (execOp (act n ds f).eval { dst := d, op := .call { callee := .value x, args := xs, argTypes := ts }, type := ty, pos := pos, after := af, guard := gd }).run P W = .ok (.enter g (xs.map (act n ds f).eval ++ lb)) W := by
    simp only [execOp, resolve, Sem.run_bind, hf, invoke]
    simp [go_sem, hen]
  rw [e]
  refine Calls.mono hc ?_
  rintro e w'' ⟨v, rfl, hv⟩
  exact hK _ _ hv
theorem args0 {ev : Operand → Value} : (#[] : Array Operand).map ev = #[] := by simp
theorem args1 {ev : Operand → Value} {x : Operand} {a : Value} (h : ev x = a) : #[x].map ev = #[a] := by simp [h]
theorem args2 {ev : Operand → Value} {x y : Operand} {a b : Value} (h : ev x = a) (h2 : ev y = b) : #[x, y].map ev = #[a, b] := by simp [h, h2]
theorem args3 {ev : Operand → Value} {x y z : Operand} {a b c : Value} (h : ev x = a) (h2 : ev y = b) (h3 : ev z = c) : #[x, y, z].map ev = #[a, b, c] := by simp [h, h2, h3]
theorem xm {x : Operand} {v : Value} (h : ρ x = v) : (execOp ρ ⟨d, .move x, ty, pos, af, gd⟩).run P W = .ok (.value v) W := by subst h; simp [execOp]
theorem xs {x : Operand} {v : Value} (h : ρ x = v) : (execOp ρ ⟨d, .assign x, ty, pos, af, gd⟩).run P W = .ok (.value v) W := by subst h; simp [execOp]
theorem x_alloc {t : TypeId} {v : Value} (h : (Instr.alloc t true (.tuple #[])).run P W = .ok v W' := by kernel_rfl) : (execOp ρ ⟨d, .alloc t, ty, pos, af, gd⟩).run P W = .ok (.value v) W' := by
  simp only [execOp, Sem.run_bind, h, Result.andThen_ok, Sem.run_pure]
theorem x_box {t : TypeId} {x : Operand} {u v : Value} (hx : ρ x = u) (h : (Instr.box t u).run P W = .ok v W' := by kernel_rfl) : (execOp ρ ⟨d, .box t x, ty, pos, af, gd⟩).run P W = .ok (.value v) W' := by
  subst hx
  simp only [execOp, Sem.run_bind, h, Result.andThen_ok, Sem.run_pure]
theorem xl {t : TypeId} {x : Operand} {a : Addr} {v : Value} (hx : ρ x = .pointer (some a)) (h : (loadVar t a).run P W = .ok v W) : (execOp ρ ⟨d, .load t x, ty, pos, af, gd⟩).run P W = .ok (.value v) W := by
  simp [execOp, hx, Instr.loadAt, Instr.sureAddr, h]
theorem x_store {t : TypeId} {x y : Operand} {a : Addr} {v : Value} (hx : ρ x = .pointer (some a)) (hy : ρ y = v) (h : (storeVar t a v).run P W = .ok () W') : (execOp ρ ⟨d, .store t x y, ty, pos, af, gd⟩).run P W = .ok .skip W' := by
  simp [execOp, hx, hy, Instr.storeAt, Instr.sureAddr, h]
theorem xa {t : TypeId} {x : Operand} {i : Nat} {u v : Value} (hx : ρ x = u) (h : (Instr.fieldAt t u i).run P W = .ok v W := by kernel_rfl) : (execOp ρ ⟨d, .fieldAddr t x i, ty, pos, af, gd⟩).run P W = .ok (.value v) W := by
  simp [execOp, hx, h]
theorem xf {t : TypeId} {x : Operand} {i : Nat} {u v : Value} (hx : ρ x = u) (h : (Instr.field t u i).run P W = .ok v W := by kernel_rfl) : (execOp ρ ⟨d, .field t x i, ty, pos, af, gd⟩).run P W = .ok (.value v) W := by
  simp [execOp, hx, h]
theorem x_indexAddr {t : TypeId} {x y : Operand} {u i v : Value} (hx : ρ x = u) (hy : ρ y = i) (h : (Instr.indexAt t u i).run P W = .ok v W) : (execOp ρ ⟨d, .indexAddr t x y, ty, pos, af, gd⟩).run P W = .ok (.value v) W := by
  simp [execOp, hx, hy, h]
theorem xe {x : Operand} {i : Nat} {u v : Value} (hx : ρ x = u) (h : (Instr.extract u i).run P W = .ok v W := by kernel_rfl) : (execOp ρ ⟨d, .extract x i, ty, pos, af, gd⟩).run P W = .ok (.value v) W := by
  simp [execOp, hx, h]
theorem xb {op : BinOp} {t t' : TypeId} {x y : Operand} {a b v : Value} (hx : ρ x = a) (hy : ρ y = b) (h : (do eqGuard op t x y a b; binOp op t a b).run P W = .ok v W := by kernel_rfl) : (execOp ρ ⟨d, .binOp op t x y t', ty, pos, af, gd⟩).run P W = .ok (.value v) W := by
  subst hx
  subst hy
  show ((do eqGuard op t x y (ρ x) (ρ y); binOp op t (ρ x) (ρ y)) >>= fun r => (pure (Next.value r) : Sem Next)).run P W = _
  rw [Sem.run_bind, h, Result.andThen_ok, Sem.run_pure]
theorem x_un {op : UnOp} {t : TypeId} {x : Operand} {a v : Value} (hx : ρ x = a) (h : (Op.unary op a).run P W = .ok v W := by kernel_rfl) : (execOp ρ ⟨d, .unOp op t x, ty, pos, af, gd⟩).run P W = .ok (.value v) W := by
  simp [execOp, hx, h]
theorem x_convert {s t : TypeId} {x : Operand} {a v : Value} (hx : ρ x = a) (h : (convert s t a).run P W = .ok v W) : (execOp ρ ⟨d, .convert s t x, ty, pos, af, gd⟩).run P W = .ok (.value v) W := by
  simp [execOp, hx, h]
theorem x_pick_t {c x y : Operand} {v : Value} (hc : ρ c = .bool true) (hx : ρ x = v) : (execOp ρ ⟨d, .pick c x y, ty, pos, af, gd⟩).run P W = .ok (.value v) W := by
  simp [execOp, hx, hc, asBool]
theorem x_pick_f {c x y : Operand} {v : Value} (hc : ρ c = .bool false) (hy : ρ y = v) : (execOp ρ ⟨d, .pick c x y, ty, pos, af, gd⟩).run P W = .ok (.value v) W := by
  simp [execOp, hy, hc, asBool]
theorem x_and {c x y : Operand} {a b : Bool} (hc : ρ c = .bool a) (hx : a = true → ρ x = .bool b) (hy : ρ y = .bool false) : (execOp ρ ⟨d, .pick c x y, ty, pos, af, gd⟩).run P W = .ok (.value (.bool (a && b))) W := by
  cases a
  · simp [execOp, hc, hy, asBool]
  · simp [execOp, hc, hx rfl, asBool]
theorem x_or {c x y : Operand} {a b : Bool} (hc : ρ c = .bool a) (hx : ρ x = .bool true) (hy : a = false → ρ y = .bool b) : (execOp ρ ⟨d, .pick c x y, ty, pos, af, gd⟩).run P W = .ok (.value (.bool (a || b))) W := by
  cases a
  · simp [execOp, hc, hy rfl, asBool]
  · simp [execOp, hc, hx, asBool]
theorem x_len {x : Operand} {t : TypeId} {A : Option Addr} {m c : Nat} (hx : ρ x = .slice A m c) (h : ∀ ρ' : Operand → Value, ρ' (.tmp 0) = .slice A m c → (execOp ρ' ⟨none, .call { callee := .builtin .len, args := #[.tmp 0], argTypes := #[t] }, ty, "", #[], none⟩).run P W = .ok (.value (.int .i64 m)) W := by intro ρ h; simp [execOp, resolve, h]; kernel_rfl) :
    (execOp ρ ⟨d, .call { callee := .builtin .len, args := #[x], argTypes := #[t] }, ty, pos, af, gd⟩).run P W = .ok (.value (.int .i64 m)) W := by
  have := h (fun o => match o with | .tmp 0 => .slice A m c | _ => undef) rfl
  simp [execOp, resolve, hx] at this ⊢
  exact this
theorem x_build {t : TypeId} {parts : Array (Nat × Operand)} {ps : Array (Nat × Value)} {v : Value} (hp : parts.map (fun (i, x) => (i, ρ x)) = ps) (h : (Instr.build t ps).run P W = .ok v W := by kernel_rfl) : (execOp ρ ⟨d, .build t parts, ty, pos, af, gd⟩).run P W = .ok (.value v) W := by
  subst hp
  simp [execOp, h]
theorem x_buildSlice {t : TypeId} {k : Nat} {parts : Array (Nat × Operand)} {ps : Array (Nat × Value)} {v : Value} (hp : parts.map (fun (i, x) => (i, ρ x)) = ps) (h : (Instr.buildSlice t k ps).run P W = .ok v W' := by kernel_rfl) : (execOp ρ ⟨d, .buildSlice t k parts, ty, pos, af, gd⟩).run P W = .ok (.value v) W' := by
  subst hp
  simp [execOp, h]
end ops
def Fn (Fs : List (Value → World → Prop)) (i : Nat) : Value → World → Prop := Fs.getD i (fun _ _ => True)
abbrev At (ops : Array Oper) (M : Nat) (Fs : List (Value → World → Prop)) (G : World → Prop) (f0 f : Nat → Value) (W : World) (i : Nat) : Prop := RI.At ops M (Fn Fs) G f0 f W i
structure StepOk (P : Program) (n : Nat) (ds : List Deferred) (f0 : Nat → Value) (ops : Array Oper) (M : Nat) (Fs : List (Value → World → Prop)) (G : World → Prop) (As : List Nat) (i : Nat) (o : Oper) : Prop where
  stb : StbV (Fn Fs i)
  ablk : As.contains i = true → (∀ v W, Fn Fs i v W → RI.blkOf v < W.heap.size) ∧ o.guard = none
  dst : o.dst.isSome = true
  step : ∀ f W, At ops M Fs G f0 f W i → (∀ j b, o.guard = some (j, b) → RI.out ops j f = .bool b) → Ob P n ds o f W (fun v W' => Fn Fs i v W' ∧ Ext W W' ∧ (As.contains i = true → W.heap.size ≤ RI.blkOf v))
  skip : ∀ j b, o.guard = some (j, b) → ∀ f W, At ops M Fs G f0 f W i → RI.out ops j f ≠ .bool b → Fn Fs i undef W
inductive AllS (S : Nat → Oper → Prop) : Nat → List Oper → Prop
  | nil {k : Nat} : AllS S k []
  | cons {k : Nat} {o : Oper} {l : List Oper} : S k o → AllS S (k + 1) l → AllS S k (o :: l)
theorem AllS.get {S : Nat → Oper → Prop} {k : Nat} {l : List Oper} (h : AllS S k l) : ∀ i o, l[i]? = some o → S (k + i) o := by
  induction h with
  | nil => intro i o h; simp at h
  | @cons k o1 l1 h1 h2 ih =>
    intro i o h
    cases i with
    | zero => simp at h; subst h; exact h1
    | succ i =>
      have := ih i o (by simpa using h)
      rwa [show k + 1 + i = k + (i + 1) from by omega] at this
theorem region {P : Program} {n : Nat} {ds : List Deferred} {Q : Exit → Act → World → Prop} {f0 : Nat → Value} {ops : Array Oper} {w : World} {id : Nat} {dr : Bool} (M : Nat) (Fs : List (Value → World → Prop)) (G : World → Prop) (As : List Nat) (Fl : List Nat) (S : World → Prop) (hGS : ∀ W, G W → S W)
    (hm : P.follows .mixedOrders = true) (hc : RI.okB ops M n = true) (hl : ((!dr || RI.lastB ops M Fl) && Fl.all (fun i => !As.contains i)) = true) (hG : Stb G) (h0 : G w)
    (hS : AllS (StepOk P n ds f0 ops M Fs G As) 0 (ops.toList.take M))
    (hfl : ∀ i, Fl.contains i = true → ∀ o, ops[i]? = some o → ∀ f W, At ops M Fs G f0 f W i → ∃ v, (∀ w', S w' → (execOp (act n ds f).eval o).run P w' = .ok (.value v) w') ∧ Fn Fs i v W)
    (hend : ∀ f W, RI.End ops M (Fn Fs) G As.contains f0 f W → RI.Tail S dr P ops (onlyN (Q .normal)) n ds M f W) : Wp P (.region id ops dr) n ds Q f0 w := by
  rw [Bool.and_eq_true] at hl
  refine RI.region M (Fn Fs) G As.contains (fun _ => Ext) Fl S hGS hm hc (fun h => by simpa [h] using hl.1) (drawn_facts hG h0) (fun i o hi ho f W hat => ?_) (fun k o hk ho => ?_) hend
  · obtain ⟨v, h1, h2⟩ := hfl i hi o ho f W hat
    refine ⟨v, h1, h2, Below.refl _ _, ?_⟩
    have := hl.2
    rw [List.all_eq_true] at this
    have := this i (by simpa using hi)
    simpa using this
  have hs : StepOk P n ds f0 ops M Fs G As k o := by
    have := hS.get k o (by rw [List.getElem?_take_of_lt hk]; simpa using ho)
    rwa [Nat.zero_add] at this
  exact ⟨fun _ v W W' _ _ h hE => hs.stb v W W' h hE, hG, fun hA => ⟨(hs.ablk hA).1, (hs.ablk hA).2, hs.dst⟩, fun hd => (by have := hs.dst; rw [hd] at this; cases this), hs.step, fun j b hj f W hat ho => ⟨hs.skip j b hj f W hat ho, Below.refl _ _⟩⟩
section steps
variable {P : Program} {n : Nat} {ds : List Deferred} {f0 f : Nat → Value} {W : World} {ops : Array Oper} {M : Nat} {Fs : List (Value → World → Prop)} {G : World → Prop} {As : List Nat} {A : Nat → Bool} {i : Nat} {o : Oper} {Φ : Value → World → Prop}
theorem fn_eq (h : Fs[i]? = some Φ) : Fn Fs i = Φ := by simp [Fn, List.getD, h]
theorem out_eq {j t : Nat} (h : RI.dstOf ops j = some t) (f : Nat → Value) : RI.out ops j f = f t := by simp [RI.out, h]
theorem dp (h : At ops M Fs G f0 f W i) (j t : Nat) (hd : (RI.dep ops i j && (RI.dstOf ops j == some t)) = true) (hF : Fs[j]? = some Φ) : Φ (f t) W := by
  simp only [Bool.and_eq_true, beq_iff_eq] at hd
  have := h.dep j hd.1
  rwa [out_eq hd.2, fn_eq hF] at this
theorem ef (h : RI.End ops M (Fn Fs) G A f0 f W) (i t : Nat) (hd : (decide (i < M) && (RI.dstOf ops i == some t)) = true) (hF : Fs[i]? = some Φ) : Φ (f t) W := by
  simp only [Bool.and_eq_true, beq_iff_eq, decide_eq_true_eq] at hd
  have := h.fact i hd.1
  rwa [out_eq hd.2, fn_eq hF] at this
theorem ap (h : RI.End ops M (Fn Fs) G As.contains f0 f W) (i j t u : Nat) (hd : (decide (i < M) && decide (j < M) && (i != j) && As.contains i && As.contains j && (RI.dstOf ops i == some t) && (RI.dstOf ops j == some u)) = true) {g g' : Nat} {o o' : Nat}
    (hg : f t = .pointer (some ⟨g, o, none⟩)) (hg' : f u = .pointer (some ⟨g', o', none⟩)) : g ≠ g' := by
  simp only [Bool.and_eq_true, beq_iff_eq, decide_eq_true_eq, bne_iff_ne] at hd
  obtain ⟨⟨⟨⟨⟨⟨h1, h2⟩, h3⟩, h4⟩, h5⟩, h6⟩, h7⟩ := hd
  have := h.apart i j h1 h2 h3 h4 h5
  rw [out_eq h6, out_eq h7, hg, hg'] at this
  exact this
theorem sp (hF : Fs[i]? = some Φ) (hst : StbV Φ) (hA : As.contains i = false) (hg : o.guard = none) (hd : o.dst.isSome = true) (h : ∀ f W, At ops M Fs G f0 f W i → Ob P n ds o f W (fun v W' => Φ v W' ∧ Ext W W')) : StepOk P n ds f0 ops M Fs G As i o := by
  have e := fn_eq hF
  exact ⟨by rw [e]; exact hst, fun h => (by rw [hA] at h; cases h), hd, fun f W hat _ Kn Q' hK => h f W hat Kn Q' fun v W' hv => hK v W' ⟨by rw [e]; exact hv.1, hv.2, fun h => (by rw [hA] at h; cases h)⟩, fun j b hj => (by rw [hg] at hj; cases hj)⟩
theorem fl0 {S : Nat → Prop} : ∀ i, ([] : List Nat).contains i = true → S i := fun i h => by simp at h
theorem fl3 {S : Nat → Prop} {k l m : Nat} (h : S k) (h2 : S l) (h3 : S m) : ∀ i, [k, l, m].contains i = true → S i := fun i hi => by
  have : i = k ∨ i = l ∨ i = m := by simpa using hi
  rcases this with rfl | rfl | rfl
  · exact h
  · exact h2
  · exact h3
theorem fl1 {S : Nat → Prop} {k : Nat} (h : S k) : ∀ i, [k].contains i = true → S i := fun i hi => by
  have : i = k := by simpa using hi
  subst this; exact h
theorem fl_step {S : World → Prop} {o' : Oper} (hF : Fs[i]? = some Φ) (ho : ops[i]? = some o') (h : ∀ f W, At ops M Fs G f0 f W i → ∃ v, (∀ w', S w' → (execOp (act n ds f).eval o').run P w' = .ok (.value v) w') ∧ Φ v W) :
    ∀ o, ops[i]? = some o → ∀ f W, At ops M Fs G f0 f W i → ∃ v, (∀ w', S w' → (execOp (act n ds f).eval o).run P w' = .ok (.value v) w') ∧ Fn Fs i v W := fun o hi f W hat => by
  rw [ho] at hi
  cases hi
  rw [fn_eq hF]
  exact h f W hat
def NewBlk (L : Nat) (t : TypeId) (cs : Array Value) (v : Value) (W : World) : Prop := ∃ g, v = .pointer (some ⟨g, 0, none⟩) ∧ Blk W g t cs ∧ L ≤ g
theorem StbV.newBlk {L : Nat} {t : TypeId} {cs : Array Value} : StbV (NewBlk L t cs) := fun _ => Stb.ex fun _ => Stb.and Stb.pure (Stb.and Stb.blk Stb.pure)
theorem sa {L : Nat} {t : TypeId} {cs : Array Value} (hF : Fs[i]? = some (NewBlk L t cs)) (hg : o.guard = none) (hd : o.dst.isSome = true) (hL : ∀ W, G W → L ≤ W.heap.size)
    (h : ∀ f W, At ops M Fs G f0 f W i → (execOp (act n ds f).eval o).run P W = .ok (.value (.pointer (some ⟨W.heap.size, 0, none⟩))) (W.alloc (.cells cs t))) : StepOk P n ds f0 ops M Fs G As i o := by
  have e := fn_eq hF
  exact ⟨(by rw [e]; exact StbV.newBlk), fun _ => ⟨fun v W hv => (by rw [e] at hv; obtain ⟨g, rfl, hb, _⟩ := hv; exact hb.lt), hg⟩, hd,
   fun f W hat _ => val (h f W hat) ⟨(by rw [e]; exact ⟨_, rfl, Blk.new W t cs, hL W hat.g⟩), (Below.refl _ _).alloc (Nat.le_refl _) _, fun _ => Nat.le_refl _⟩, fun j b hj => (by rw [hg] at hj; cases hj)⟩
def Gd (p : Bool) (Φ : Value → World → Prop) (v : Value) (W : World) : Prop := if p = true then Φ v W else v = undef
theorem sg (p : Bool) {j t : Nat} {b : Bool} (hF : Fs[i]? = some (Gd p Φ)) (hst : StbV Φ) (hA : As.contains i = false) (hg : o.guard = some (j, b)) (hd : o.dst.isSome = true) (ht : RI.dstOf ops j = some t)
    (hj : ∀ f W, At ops M Fs G f0 f W i → (f t = .bool b ↔ p = true)) (h : p = true → ∀ f W, At ops M Fs G f0 f W i → Ob P n ds o f W (fun v W' => Φ v W' ∧ Ext W W')) : StepOk P n ds f0 ops M Fs G As i o := by
  have e := fn_eq hF
  have eo := fun f => out_eq ht f
  refine ⟨?_, fun h => (by rw [hA] at h; cases h), hd, fun f W hat hgd Kn Q' hK => ?_, fun j' b' hj' f W hat hne => ?_⟩
  · rw [e]
    intro v W W' h hE
    unfold Gd at *
    split
    · rename_i hp; rw [if_pos hp] at h; exact hst v W W' h hE
    · rename_i hp; rw [if_neg hp] at h; exact h
  · have h0 := hgd j b hg
    rw [eo] at h0
    have hp := (hj f W hat).1 h0
    exact h hp f W hat Kn Q' fun v W' hv => hK v W' ⟨by rw [e]; unfold Gd; rw [if_pos hp]; exact hv.1, hv.2, fun h => (by rw [hA] at h; cases h)⟩
  · rw [hg] at hj'
    cases hj'
    rw [eo] at hne
    rw [e]
    unfold Gd
    rw [if_neg fun hp => hne ((hj f W hat).2 hp)]
theorem gd_on {p : Bool} {v : Value} (h : Gd p Φ v W) (hp : p = true) : Φ v W := by unfold Gd at h; rwa [if_pos hp] at h
theorem gd_t {T : Bool} {x : Value} (a : x = .bool T) : x = .bool true ↔ T = true := by rw [a]; simp
theorem gd_f {T : Bool} {x : Value} (a : x = .bool T) : x = .bool false ↔ (!T) = true := by rw [a]; simp
theorem gd2_t {p T : Bool} {x : Value} (a : Gd p (fun v _ => v = .bool T) x W) : x = .bool true ↔ (p && T) = true := by
  unfold Gd at a
  cases p
  · simp at a; subst a; simp [undef]
  · simp at a; subst a; simp
end steps
theorem and_l {a b : Bool} (h : (a && b) = true) : a = true := by simp at h; exact h.1
theorem and_r {a b : Bool} (h : (a && b) = true) : b = true := by simp at h; exact h.2
theorem and_i {a b : Bool} (h : a = true) (h' : b = true) : (a && b) = true := by simp [h, h']
theorem not_t {a : Bool} (h : a = false) : (!a) = true := by simp [h]
section tails
variable {P : Program} {n : Nat} {ds : List Deferred} {Q : Exit → Act → World → Prop} {f : Nat → Value} {W W' : World} {ops : Array Oper} {dr : Bool} {k : Nat} {o : Oper} {S : World → Prop}
theorem t_skip (ho : ops[k]? = some o) (hg : o.guard = none) (hd : o.dst = none) (hr : (!dr || Region.ready .any ops (RI.doneTo ops.size k) == [k]) = true) (hS : S W') (hx : (execOp (act n ds f).eval o).run P W = .ok .skip W') (h : RI.Tail S dr P ops Q n ds (k + 1) f W') : RI.Tail S dr P ops Q n ds k f W := by
  refine RI.tail_op ho hg (fun h => by simpa [h] using hr) ?_
  unfold Oper.wp
  rw [hx]
  show S W' ∧ (∃ f', Act.put (act n ds f) o.dst undef = act n ds f' ∧ _)
  rw [hd]
  exact ⟨hS, f, rfl, h⟩
theorem t_val {v : Value} {t : Tmp} (ho : ops[k]? = some o) (hg : o.guard = none) (hd : o.dst = some t) (hr : (!dr || Region.ready .any ops (RI.doneTo ops.size k) == [k]) = true) (hS : S W') (hx : (execOp (act n ds f).eval o).run P W = .ok (.value v) W') (h : ∀ f', f' t = v → (∀ u, u ≠ t → f' u = f u) → RI.Tail S dr P ops Q n ds (k + 1) f' W') : RI.Tail S dr P ops Q n ds k f W := by
  refine RI.tail_op ho hg (fun h => by simpa [h] using hr) ?_
  unfold Oper.wp
  rw [hx]
  show S W' ∧ (∃ f', Act.put (act n ds f) o.dst v = act n ds f' ∧ _)
  rw [hd]
  refine ⟨hS, RI.upd f t v, ?_, h _ (RI.upd_same _ _ _) fun u hu => RI.upd_ne _ _ hu⟩
  show ({ tmps := (RI.frame n f).setIfInBounds t v, defers := ds } : Act) = _
  rw [RI.frame_set]; rfl
theorem t_done (hk : ops.size = k) (h : Q .normal (act n ds f) W) : RI.Tail S dr P ops (onlyN (Q .normal)) n ds k f W := RI.tail_done hk h
end tails
section stores
variable {P : Program} {W : World} {g : Nat} {t : TypeId} {cs cs' : Array Value}
theorem st_row {ty : TypeId} (hb : Blk W g t cs) (hi : (P.info? ty).map (·.size) = some cs'.size := by kernel_rfl) (ho : cs.size = cs'.size := by rfl) (h1 : cs'.all (·.oneCell') = true := by kernel_rfl) : (storeVar ty ⟨g, 0, none⟩ (.agg cs')).run P W = .ok () (W.setRow g cs') := run_storeVar_row W g t ty cs cs' hb hi ho h1
theorem setRow_size (W : World) (g : Nat) (cs : Array Value) : (W.setRow g cs).heap.size = W.heap.size := by simp [World.setRow]
theorem setRow_far {k : Nat} (h : k ≠ g) : (W.setRow g cs).heap[k]? = W.heap[k]? := by
  unfold World.setRow
  rw [Array.getElem?_modify]
  simp [Ne.symm h]
theorem blk_same (hb : Blk W g t cs) : Blk (W.setRow g cs') g t cs' := setRow_heap W g cs cs' t (0, 0) hb
theorem blk_far {g' : Nat} {t' : TypeId} {ds : Array Value} (h : Blk W g' t' ds) (hne : g' ≠ g) : Blk (W.setRow g cs) g' t' ds := (setRow_far hne).trans h
theorem bel_far {w : World} (h : Below w.heap.size w W) (hg : w.heap.size ≤ g) : Below w.heap.size w (W.setRow g cs) :=
  h.trans ⟨rfl, rfl, rfl, by rw [setRow_size]; exact Nat.le_refl _, fun k hk => setRow_far (by omega)⟩
theorem cell_far {p : Addr} {v : Value} (h : W.cell? p = some v) (hne : p.block ≠ g) : (W.setRow g cs).cell? p = some v := by
  rw [← h]; exact World.cell?_of_block (setRow_far hne)
theorem rd_far {sz m c : Nat} {A : Option Addr} {xs : List Value} (h : Rd W sz A m c xs) (hne : 0 < m → ∀ ad, A = some ad → ad.block ≠ g) : Rd (W.setRow g cs) sz A m c xs :=
  ⟨h.len, h.cap, h.max, fun hm => by
    obtain ⟨ad, e, hc⟩ := h.cells hm
    exact ⟨ad, e, fun j u hu => cell_far (hc j u hu) (by rw [block_of_add]; exact hne hm ad e)⟩⟩
theorem r16_far {A : Option Addr} {m c : Nat} {xs : List Nat} (h : R16 W A m c xs) (hb : Blk W g t cs) (hc : cs.all noLimb = true) : R16 (W.setRow g cs') A m c xs :=
  ⟨rd_far h.rd fun hm => h.ne_blk hb hc hm, h.ok⟩
theorem le_far {k : Nat} (h : k ≤ W.heap.size) : k ≤ (W.setRow g cs).heap.size := by rw [setRow_size]; exact h
theorem st_one {ty : TypeId} {u v : Value} (hb : Blk W g t #[u]) (hs : (storeVar ty ⟨g, 0, none⟩ v).run P W = (store ⟨g, 0, none⟩ v).run P W := by kernel_rfl) (h1 : v.oneCell' = true := by kernel_rfl) : (storeVar ty ⟨g, 0, none⟩ v).run P W = .ok () (W.setRow g #[v]) := by
  rw [hs, run_store P W _ v _ h1]
  have e1 : W.cell? ⟨g, 0, none⟩ = some u := hb.one
  have e2 := hb.frozen 0
  rw [e1]
  simp only [e2, Bool.false_eq_true, if_false]
  congr 1
  have hlt := hb.lt
  have hb' := hb
  unfold Blk at hb'
  unfold World.setCell World.setRow
  congr 1
  apply Array.ext
  · simp
  · intro i h1 h2
    simp only [Array.getElem_modify]
    by_cases hi : g = i
    · subst hi
      have : W.heap[g] = .cells #[u] t (0, 0) := by
        rw [Array.getElem?_eq_getElem hlt] at hb'; exact Option.some.inj hb'
      simp [this]
    · simp [hi]
end stores
section loads
variable {P : Program} {W : World} {g : Nat} {t : TypeId} {cs : Array Value}
theorem lr {ty : TypeId} {d : TypeDesc} (hb : Blk W g t cs) (hu : P.underlying ty = some d) (hd : (match d with | .struct _ | .array _ _ => true | _ => false) = true := by rfl) (hi : (P.info? ty).map (·.size) = some cs.size := by kernel_rfl) : (loadVar ty ⟨g, 0, none⟩).run P W = .ok (.agg cs) W := run_loadVar_row W g t ty cs (0, 0) d hb hu hd hi
theorem ld_mid {ty : TypeId} {d : TypeDesc} {o : Nat} {xs : List Value} (hb : Blk W g t cs) (hx : ∀ j, j < xs.length → cs[o + j]? = xs[j]?) (hu : P.underlying ty = some d) (hd : d.isRow = true := by rfl) (hi : (P.info? ty).map (·.size) = some xs.length := by kernel_rfl) : (loadVar ty ⟨g, o, none⟩).run P W = .ok (.agg xs.toArray) W :=
  run_loadVar_mid W g o ty xs d (fun j v hv => by
    have hj : j < xs.length := (List.getElem?_eq_some_iff.1 hv).1
    rw [hb.cell, hx j hj]; exact hv) hu hd hi
theorem lo {ty : TypeId} {o : Nat} {v : Value} (hb : Blk W g t cs) (hv : cs[o]? = some v) (hs : (loadVar ty ⟨g, o, none⟩).run P W = (load ⟨g, o, none⟩).run P W := by kernel_rfl) : (loadVar ty ⟨g, o, none⟩).run P W = .ok v W := by
  rw [hs, run_load]
  rw [hb.cell, hv]
end loads
end V
end Go.Proofs.YtjbcalbbhomkjaaGreat
