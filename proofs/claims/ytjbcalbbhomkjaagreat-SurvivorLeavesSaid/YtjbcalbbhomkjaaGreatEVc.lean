import Derived.Test.YtjbcalbbhomkjaaGreatEV
import Derived.Test.YtjbcalbbhomkjaaGreatENn
namespace Go.Proofs.YtjbcalbbhomkjaaGreat
open Go.RowKit RI
abbrev Vp (g o : Nat) : Value := .pointer (some ⟨g, o, none⟩)
abbrev Vs (A : Option Addr) (m c : Nat) : Value := .slice A (Lb.limbs m).length c
abbrev En (k : Nat) : Prop := ∀ args w, (callFunc k args).run Tryz.prog w = .ok (.enter k args) w
theorem en_ {k : Nat} {fn : Func} (hf : Tryz.prog.funcs[k]? = some fn) (hn : (fn.name == "runtime.NumGoroutine") = false := by kernel_rfl) (hb : fn.body.isSome = true := by rfl) : En k := by
 obtain ⟨c, hc⟩ := Option.isSome_iff_exists.1 hb
 exact enters_of hf hn hc
namespace V
abbrev E (x : Value) : Value → World → Prop := fun v _ => v = x
class StC (Φ : World → Prop) : Prop where
 s : Stb Φ
instance {p : Prop} : StC (fun _ => p) := ⟨Stb.pure⟩
instance {a b : World → Prop} [ha : StC a] [hb : StC b] : StC (fun W => a W ∧ b W) := ⟨Stb.and ha.s hb.s⟩
instance {α : Sort _} {a : α → World → Prop} [h : ∀ x, StC (a x)] : StC (fun W => ∃ x, a x W) := ⟨Stb.ex fun x => (h x).s⟩
instance {α : Type} {p : α → Prop} {q : α → World → Prop} [h : ∀ x, StC (q x)] : StC (fun W => ∀ x, p x → q x W) := ⟨fun W W' hh hE x hx => (h x).s W W' (hh x hx) hE⟩
instance {g : Nat} {t : TypeId} {cs : Array Value} : StC (fun W => Blk W g t cs) := ⟨Stb.blk⟩
instance {A : Option Addr} {m c : Nat} {xs : List Nat} : StC (fun W => R16 W A m c xs) := ⟨Stb.r16⟩
instance {w : World} : StC (fun W => Below w.heap.size w W) := ⟨Stb.bel⟩
instance {k : Nat} : StC (fun W => k ≤ W.heap.size) := ⟨Stb.le⟩
class Ab (w : World) (p : Prop) (G : outParam (World → Prop)) : Prop where
 s : p → G w
 st : Stb G
theorem Ab.mk' {w : World} {G : World → Prop} (h : Stb G) : Ab w (G w) G := ⟨id, h⟩
instance {w : World} {p q : Prop} {G H : World → Prop} [hp : Ab w p G] [hq : Ab w q H] : Ab w (p ∧ q) (fun W => G W ∧ H W) := ⟨fun h => ⟨hp.s h.1, hq.s h.2⟩, Stb.and hp.st hq.st⟩
instance {w : World} {α : Type} {p q : α → Prop} {G : α → World → Prop} [h : ∀ x, Ab w (q x) (G x)] : Ab w (∀ x, p x → q x) (fun W => ∀ x, p x → G x W) := ⟨fun hh x hx => (h x).s (hh x hx), fun W W' hh hE x hx => (h x).st W W' (hh x hx) hE⟩
instance {w : World} {g : Nat} {t : TypeId} {cs : Array Value} : Ab w (Blk w g t cs) (fun W => Blk W g t cs) := .mk' Stb.blk
instance {w : World} {A : Option Addr} {m c : Nat} {xs : List Nat} : Ab w (R16 w A m c xs) (fun W => R16 W A m c xs) := .mk' Stb.r16
instance {w0 w : World} : Ab w (Below w0.heap.size w0 w) (fun W => Below w0.heap.size w0 W) := .mk' Stb.bel
theorem i {a b : Prop} (h : a) (h' : b) : a ∧ b := ⟨h, h'⟩
section builds
variable {P : Program} {W W' : World} {ρ : Operand → Value} {d : Option Tmp} {ty : TypeId} {pos : String} {af : Array Edge} {gd : Option (Nat × Bool)} {t k : Nat} {v : Value}
theorem b0 (h : (Instr.build t #[]).run P W = .ok v W := by kernel_rfl) : (execOp ρ ⟨d, .build t #[], ty, pos, af, gd⟩).run P W = .ok (.value v) W := x_build (by simp) h
theorem c0 (h : (Instr.buildSlice t k #[]).run P W = .ok v W' := by kernel_rfl) : (execOp ρ ⟨d, .buildSlice t k #[], ty, pos, af, gd⟩).run P W = .ok (.value v) W' := x_buildSlice (by simp) h
theorem b1 {k0 : Nat} {x0 : Operand} {v0 : Value} (h0 : ρ x0 = v0) (h : (Instr.build t #[(k0, v0)]).run P W = .ok v W := by kernel_rfl) : (execOp ρ ⟨d, .build t #[(k0, x0)], ty, pos, af, gd⟩).run P W = .ok (.value v) W := x_build (by simp [h0]) h
theorem c1 {k0 : Nat} {x0 : Operand} {v0 : Value} (h0 : ρ x0 = v0) (h : (Instr.buildSlice t k #[(k0, v0)]).run P W = .ok v W' := by kernel_rfl) : (execOp ρ ⟨d, .buildSlice t k #[(k0, x0)], ty, pos, af, gd⟩).run P W = .ok (.value v) W' := x_buildSlice (by simp [h0]) h
theorem b2 {k0 k1 : Nat} {x0 x1 : Operand} {v0 v1 : Value} (h0 : ρ x0 = v0) (h1 : ρ x1 = v1) (h : (Instr.build t #[(k0, v0), (k1, v1)]).run P W = .ok v W := by kernel_rfl) : (execOp ρ ⟨d, .build t #[(k0, x0), (k1, x1)], ty, pos, af, gd⟩).run P W = .ok (.value v) W := x_build (by simp [h0, h1]) h
theorem c2 {k0 k1 : Nat} {x0 x1 : Operand} {v0 v1 : Value} (h0 : ρ x0 = v0) (h1 : ρ x1 = v1) (h : (Instr.buildSlice t k #[(k0, v0), (k1, v1)]).run P W = .ok v W' := by kernel_rfl) : (execOp ρ ⟨d, .buildSlice t k #[(k0, x0), (k1, x1)], ty, pos, af, gd⟩).run P W = .ok (.value v) W' := x_buildSlice (by simp [h0, h1]) h
theorem b3 {k0 k1 k2 : Nat} {x0 x1 x2 : Operand} {v0 v1 v2 : Value} (h0 : ρ x0 = v0) (h1 : ρ x1 = v1) (h2 : ρ x2 = v2) (h : (Instr.build t #[(k0, v0), (k1, v1), (k2, v2)]).run P W = .ok v W := by kernel_rfl) : (execOp ρ ⟨d, .build t #[(k0, x0), (k1, x1), (k2, x2)], ty, pos, af, gd⟩).run P W = .ok (.value v) W := x_build (by simp [h0, h1, h2]) h
theorem c3 {k0 k1 k2 : Nat} {x0 x1 x2 : Operand} {v0 v1 v2 : Value} (h0 : ρ x0 = v0) (h1 : ρ x1 = v1) (h2 : ρ x2 = v2) (h : (Instr.buildSlice t k #[(k0, v0), (k1, v1), (k2, v2)]).run P W = .ok v W' := by kernel_rfl) : (execOp ρ ⟨d, .buildSlice t k #[(k0, x0), (k1, x1), (k2, x2)], ty, pos, af, gd⟩).run P W = .ok (.value v) W' := x_buildSlice (by simp [h0, h1, h2]) h
theorem b4 {k0 k1 k2 k3 : Nat} {x0 x1 x2 x3 : Operand} {v0 v1 v2 v3 : Value} (h0 : ρ x0 = v0) (h1 : ρ x1 = v1) (h2 : ρ x2 = v2) (h3 : ρ x3 = v3) (h : (Instr.build t #[(k0, v0), (k1, v1), (k2, v2), (k3, v3)]).run P W = .ok v W := by kernel_rfl) : (execOp ρ ⟨d, .build t #[(k0, x0), (k1, x1), (k2, x2), (k3, x3)], ty, pos, af, gd⟩).run P W = .ok (.value v) W := x_build (by simp [h0, h1, h2, h3]) h
theorem c4 {k0 k1 k2 k3 : Nat} {x0 x1 x2 x3 : Operand} {v0 v1 v2 v3 : Value} (h0 : ρ x0 = v0) (h1 : ρ x1 = v1) (h2 : ρ x2 = v2) (h3 : ρ x3 = v3) (h : (Instr.buildSlice t k #[(k0, v0), (k1, v1), (k2, v2), (k3, v3)]).run P W = .ok v W' := by kernel_rfl) : (execOp ρ ⟨d, .buildSlice t k #[(k0, x0), (k1, x1), (k2, x2), (k3, x3)], ty, pos, af, gd⟩).run P W = .ok (.value v) W' := x_buildSlice (by simp [h0, h1, h2, h3]) h
theorem b5 {k0 k1 k2 k3 k4 : Nat} {x0 x1 x2 x3 x4 : Operand} {v0 v1 v2 v3 v4 : Value} (h0 : ρ x0 = v0) (h1 : ρ x1 = v1) (h2 : ρ x2 = v2) (h3 : ρ x3 = v3) (h4 : ρ x4 = v4) (h : (Instr.build t #[(k0, v0), (k1, v1), (k2, v2), (k3, v3), (k4, v4)]).run P W = .ok v W := by kernel_rfl) : (execOp ρ ⟨d, .build t #[(k0, x0), (k1, x1), (k2, x2), (k3, x3), (k4, x4)], ty, pos, af, gd⟩).run P W = .ok (.value v) W := x_build (by simp [h0, h1, h2, h3, h4]) h
theorem c5 {k0 k1 k2 k3 k4 : Nat} {x0 x1 x2 x3 x4 : Operand} {v0 v1 v2 v3 v4 : Value} (h0 : ρ x0 = v0) (h1 : ρ x1 = v1) (h2 : ρ x2 = v2) (h3 : ρ x3 = v3) (h4 : ρ x4 = v4) (h : (Instr.buildSlice t k #[(k0, v0), (k1, v1), (k2, v2), (k3, v3), (k4, v4)]).run P W = .ok v W' := by kernel_rfl) : (execOp ρ ⟨d, .buildSlice t k #[(k0, x0), (k1, x1), (k2, x2), (k3, x3), (k4, x4)], ty, pos, af, gd⟩).run P W = .ok (.value v) W' := x_buildSlice (by simp [h0, h1, h2, h3, h4]) h
theorem b6 {k0 k1 k2 k3 k4 k5 : Nat} {x0 x1 x2 x3 x4 x5 : Operand} {v0 v1 v2 v3 v4 v5 : Value} (h0 : ρ x0 = v0) (h1 : ρ x1 = v1) (h2 : ρ x2 = v2) (h3 : ρ x3 = v3) (h4 : ρ x4 = v4) (h5 : ρ x5 = v5) (h : (Instr.build t #[(k0, v0), (k1, v1), (k2, v2), (k3, v3), (k4, v4), (k5, v5)]).run P W = .ok v W := by kernel_rfl) : (execOp ρ ⟨d, .build t #[(k0, x0), (k1, x1), (k2, x2), (k3, x3), (k4, x4), (k5, x5)], ty, pos, af, gd⟩).run P W = .ok (.value v) W := x_build (by simp [h0, h1, h2, h3, h4, h5]) h
theorem c6 {k0 k1 k2 k3 k4 k5 : Nat} {x0 x1 x2 x3 x4 x5 : Operand} {v0 v1 v2 v3 v4 v5 : Value} (h0 : ρ x0 = v0) (h1 : ρ x1 = v1) (h2 : ρ x2 = v2) (h3 : ρ x3 = v3) (h4 : ρ x4 = v4) (h5 : ρ x5 = v5) (h : (Instr.buildSlice t k #[(k0, v0), (k1, v1), (k2, v2), (k3, v3), (k4, v4), (k5, v5)]).run P W = .ok v W' := by kernel_rfl) : (execOp ρ ⟨d, .buildSlice t k #[(k0, x0), (k1, x1), (k2, x2), (k3, x3), (k4, x4), (k5, x5)], ty, pos, af, gd⟩).run P W = .ok (.value v) W' := x_buildSlice (by simp [h0, h1, h2, h3, h4, h5]) h
theorem c7 {k0 k1 k2 k3 k4 k5 k6 : Nat} {x0 x1 x2 x3 x4 x5 x6 : Operand} {v0 v1 v2 v3 v4 v5 v6 : Value} (h0 : ρ x0 = v0) (h1 : ρ x1 = v1) (h2 : ρ x2 = v2) (h3 : ρ x3 = v3) (h4 : ρ x4 = v4) (h5 : ρ x5 = v5) (h6 : ρ x6 = v6) (h : (Instr.buildSlice t k #[(k0, v0), (k1, v1), (k2, v2), (k3, v3), (k4, v4), (k5, v5), (k6, v6)]).run P W = .ok v W' := by kernel_rfl) : (execOp ρ ⟨d, .buildSlice t k #[(k0, x0), (k1, x1), (k2, x2), (k3, x3), (k4, x4), (k5, x5), (k6, x6)], ty, pos, af, gd⟩).run P W = .ok (.value v) W' := x_buildSlice (by simp [h0, h1, h2, h3, h4, h5, h6]) h
end builds
section steps
variable {P : Program} {n : Nat} {ds : List Deferred} {f0 f : Nat → Value} {W w : World} {ops : Array Oper} {M : Nat} {Fs : List (Value → World → Prop)} {G G0 : World → Prop} {As : List Nat} {A : Nat → Bool} {i : Nat} {o : Oper} {Φ : Value → World → Prop} {x v : Value}
theorem reg {id : Nat} {dr : Bool} {Q : Exit → Act → World → Prop} {p : Prop} (M : Nat) (Fs : List (Value → World → Prop)) (As : List Nat) (h0 : p) [hG : Ab w p G0]
  (hS : AllS (StepOk P n ds f0 ops M Fs (fun W => G0 W ∧ w.heap.size ≤ W.heap.size) As) 0 (ops.toList.take M))
  (hend : ∀ f W, RI.End ops M (Fn Fs) (fun W => G0 W ∧ w.heap.size ≤ W.heap.size) As.contains f0 f W → RI.Tail (fun _ => True) dr P ops (onlyN (Q .normal)) n ds M f W)
  (hm : P.follows .mixedOrders = true := by exact mixed) (hc : RI.okB ops M n = true := by kernel_rfl) (hl : ((!dr || RI.lastB ops M []) && true) = true := by kernel_rfl) : Wp P (.region id ops dr) n ds Q f0 w :=
 region M Fs _ As [] (fun _ => True) (fun _ _ => trivial) hm hc (by simpa using hl) (Stb.and hG.st Stb.le) ⟨hG.s h0, Nat.le_refl _⟩ hS fl0 hend
theorem regF {id : Nat} {dr : Bool} {Q : Exit → Act → World → Prop} {p : Prop} (M : Nat) (Fs : List (Value → World → Prop)) (As : List Nat) (h0 : p) [hG : Ab w p G0] (Fl : List Nat) (S : World → Prop) (hGS : ∀ W, G0 W ∧ w.heap.size ≤ W.heap.size → S W)
  (hS : AllS (StepOk P n ds f0 ops M Fs (fun W => G0 W ∧ w.heap.size ≤ W.heap.size) As) 0 (ops.toList.take M))
  (hfl : ∀ i, Fl.contains i = true → ∀ o, ops[i]? = some o → ∀ f W, At ops M Fs (fun W => G0 W ∧ w.heap.size ≤ W.heap.size) f0 f W i → ∃ v, (∀ w', S w' → (execOp (act n ds f).eval o).run P w' = .ok (.value v) w') ∧ Fn Fs i v W)
  (hend : ∀ f W, RI.End ops M (Fn Fs) (fun W => G0 W ∧ w.heap.size ≤ W.heap.size) As.contains f0 f W → RI.Tail S dr P ops (onlyN (Q .normal)) n ds M f W)
  (hm : P.follows .mixedOrders = true := by exact mixed) (hc : RI.okB ops M n = true := by kernel_rfl) (hl : ((!dr || RI.lastB ops M Fl) && Fl.all (fun i => !As.contains i)) = true := by kernel_rfl) : Wp P (.region id ops dr) n ds Q f0 w :=
 region M Fs _ As Fl S hGS hm hc hl (Stb.and hG.st Stb.le) ⟨hG.s h0, Nat.le_refl _⟩ hS hfl hend
theorem an {S : Nat → Oper → Prop} {k : Nat} : AllS S k [] := .nil
theorem ac {S : Nat → Oper → Prop} {k : Nat} {o : Oper} {l : List Oper} (h : S k o) (h' : AllS S (k + 1) l) : AllS S k (o :: l) := .cons h h'
theorem ed (h : At ops M Fs G f0 f W i) (j t : Nat) (hF : Fs[j]? = some (E x)) (hd : (RI.dep ops i j && (RI.dstOf ops j == some t)) = true := by kernel_rfl) (hn : Nat.blt t n = true := by rfl) : (act n ds f).eval (.tmp t) = x := ev_tmp hn (dp h j t hd hF)
theorem eo (h : At ops M Fs G f0 f W i) (t : Nat) (s : f0 t = x) (hd : RI.fresh ops M i t = true := by kernel_rfl) (hn : Nat.blt t n = true := by rfl) : (act n ds f).eval (.tmp t) = x := ev_tmp hn ((h.old t hd).trans s)
theorem eg {p : Bool} (h : At ops M Fs G f0 f W i) (j t : Nat) (hF : Fs[j]? = some (Gd p (E x))) (hp : p = true) (hd : (RI.dep ops i j && (RI.dstOf ops j == some t)) = true := by kernel_rfl) (hn : Nat.blt t n = true := by rfl) : (act n ds f).eval (.tmp t) = x := ev_tmp hn (gd_on (dp h j t hd hF) hp)
theorem es (h : RI.End ops M (Fn Fs) G A f0 f W) (i t : Nat) (hF : Fs[i]? = some (E x)) (hd : (decide (i < M) && (RI.dstOf ops i == some t)) = true := by kernel_rfl) : f t = x := ef h i t hd hF
theorem eq (h : RI.End ops M (Fn Fs) G A f0 f W) (i t : Nat) (hF : Fs[i]? = some Φ) (hd : (decide (i < M) && (RI.dstOf ops i == some t)) = true := by kernel_rfl) : Φ (f t) W := ef h i t hd hF
theorem ek (h : RI.End ops M (Fn Fs) G A f0 f W) (t : Nat) (s : f0 t = x) (hd : RI.isDst ops M t = false := by kernel_rfl) : f t = x := (h.old t hd).trans s
theorem e1 {x0 : Value} {t0 : Nat} (h : RI.End ops M (Fn Fs) G A f0 f W) (s0 : f0 t0 = x0) (d0 : RI.isDst ops M t0 = false := by kernel_rfl) : f t0 = x0 := ek h t0 s0 d0
theorem e2 {x0 x1 : Value} {t0 t1 : Nat} (h : RI.End ops M (Fn Fs) G A f0 f W) (s0 : f0 t0 = x0) (s1 : f0 t1 = x1) (d0 : RI.isDst ops M t0 = false := by kernel_rfl) (d1 : RI.isDst ops M t1 = false := by kernel_rfl) : f t0 = x0 ∧ f t1 = x1 := ⟨ek h t0 s0 d0, ek h t1 s1 d1⟩
theorem e3 {x0 x1 x2 : Value} {t0 t1 t2 : Nat} (h : RI.End ops M (Fn Fs) G A f0 f W) (s0 : f0 t0 = x0) (s1 : f0 t1 = x1) (s2 : f0 t2 = x2) (d0 : RI.isDst ops M t0 = false := by kernel_rfl) (d1 : RI.isDst ops M t1 = false := by kernel_rfl) (d2 : RI.isDst ops M t2 = false := by kernel_rfl) : f t0 = x0 ∧ f t1 = x1 ∧ f t2 = x2 := ⟨ek h t0 s0 d0, ek h t1 s1 d1, ek h t2 s2 d2⟩
theorem e4 {x0 x1 x2 x3 : Value} {t0 t1 t2 t3 : Nat} (h : RI.End ops M (Fn Fs) G A f0 f W) (s0 : f0 t0 = x0) (s1 : f0 t1 = x1) (s2 : f0 t2 = x2) (s3 : f0 t3 = x3) (d0 : RI.isDst ops M t0 = false := by kernel_rfl) (d1 : RI.isDst ops M t1 = false := by kernel_rfl) (d2 : RI.isDst ops M t2 = false := by kernel_rfl) (d3 : RI.isDst ops M t3 = false := by kernel_rfl) : f t0 = x0 ∧ f t1 = x1 ∧ f t2 = x2 ∧ f t3 = x3 := ⟨ek h t0 s0 d0, ek h t1 s1 d1, ek h t2 s2 d2, ek h t3 s3 d3⟩
theorem e5 {x0 x1 x2 x3 x4 : Value} {t0 t1 t2 t3 t4 : Nat} (h : RI.End ops M (Fn Fs) G A f0 f W) (s0 : f0 t0 = x0) (s1 : f0 t1 = x1) (s2 : f0 t2 = x2) (s3 : f0 t3 = x3) (s4 : f0 t4 = x4) (d0 : RI.isDst ops M t0 = false := by kernel_rfl) (d1 : RI.isDst ops M t1 = false := by kernel_rfl) (d2 : RI.isDst ops M t2 = false := by kernel_rfl) (d3 : RI.isDst ops M t3 = false := by kernel_rfl) (d4 : RI.isDst ops M t4 = false := by kernel_rfl) : f t0 = x0 ∧ f t1 = x1 ∧ f t2 = x2 ∧ f t3 = x3 ∧ f t4 = x4 := ⟨ek h t0 s0 d0, ek h t1 s1 d1, ek h t2 s2 d2, ek h t3 s3 d3, ek h t4 s4 d4⟩
theorem e6 {x0 x1 x2 x3 x4 x5 : Value} {t0 t1 t2 t3 t4 t5 : Nat} (h : RI.End ops M (Fn Fs) G A f0 f W) (s0 : f0 t0 = x0) (s1 : f0 t1 = x1) (s2 : f0 t2 = x2) (s3 : f0 t3 = x3) (s4 : f0 t4 = x4) (s5 : f0 t5 = x5) (d0 : RI.isDst ops M t0 = false := by kernel_rfl) (d1 : RI.isDst ops M t1 = false := by kernel_rfl) (d2 : RI.isDst ops M t2 = false := by kernel_rfl) (d3 : RI.isDst ops M t3 = false := by kernel_rfl) (d4 : RI.isDst ops M t4 = false := by kernel_rfl) (d5 : RI.isDst ops M t5 = false := by kernel_rfl) : f t0 = x0 ∧ f t1 = x1 ∧ f t2 = x2 ∧ f t3 = x3 ∧ f t4 = x4 ∧ f t5 = x5 := ⟨ek h t0 s0 d0, ek h t1 s1 d1, ek h t2 s2 d2, ek h t3 s3 d3, ek h t4 s4 d4, ek h t5 s5 d5⟩
theorem e7 {x0 x1 x2 x3 x4 x5 x6 : Value} {t0 t1 t2 t3 t4 t5 t6 : Nat} (h : RI.End ops M (Fn Fs) G A f0 f W) (s0 : f0 t0 = x0) (s1 : f0 t1 = x1) (s2 : f0 t2 = x2) (s3 : f0 t3 = x3) (s4 : f0 t4 = x4) (s5 : f0 t5 = x5) (s6 : f0 t6 = x6) (d0 : RI.isDst ops M t0 = false := by kernel_rfl) (d1 : RI.isDst ops M t1 = false := by kernel_rfl) (d2 : RI.isDst ops M t2 = false := by kernel_rfl) (d3 : RI.isDst ops M t3 = false := by kernel_rfl) (d4 : RI.isDst ops M t4 = false := by kernel_rfl) (d5 : RI.isDst ops M t5 = false := by kernel_rfl) (d6 : RI.isDst ops M t6 = false := by kernel_rfl) : f t0 = x0 ∧ f t1 = x1 ∧ f t2 = x2 ∧ f t3 = x3 ∧ f t4 = x4 ∧ f t5 = x5 ∧ f t6 = x6 := ⟨ek h t0 s0 d0, ek h t1 s1 d1, ek h t2 s2 d2, ek h t3 s3 d3, ek h t4 s4 d4, ek h t5 s5 d5, ek h t6 s6 d6⟩
theorem e8 {x0 x1 x2 x3 x4 x5 x6 x7 : Value} {t0 t1 t2 t3 t4 t5 t6 t7 : Nat} (h : RI.End ops M (Fn Fs) G A f0 f W) (s0 : f0 t0 = x0) (s1 : f0 t1 = x1) (s2 : f0 t2 = x2) (s3 : f0 t3 = x3) (s4 : f0 t4 = x4) (s5 : f0 t5 = x5) (s6 : f0 t6 = x6) (s7 : f0 t7 = x7) (d0 : RI.isDst ops M t0 = false := by kernel_rfl) (d1 : RI.isDst ops M t1 = false := by kernel_rfl) (d2 : RI.isDst ops M t2 = false := by kernel_rfl) (d3 : RI.isDst ops M t3 = false := by kernel_rfl) (d4 : RI.isDst ops M t4 = false := by kernel_rfl) (d5 : RI.isDst ops M t5 = false := by kernel_rfl) (d6 : RI.isDst ops M t6 = false := by kernel_rfl) (d7 : RI.isDst ops M t7 = false := by kernel_rfl) : f t0 = x0 ∧ f t1 = x1 ∧ f t2 = x2 ∧ f t3 = x3 ∧ f t4 = x4 ∧ f t5 = x5 ∧ f t6 = x6 ∧ f t7 = x7 := ⟨ek h t0 s0 d0, ek h t1 s1 d1, ek h t2 s2 d2, ek h t3 s3 d3, ek h t4 s4 d4, ek h t5 s5 d5, ek h t6 s6 d6, ek h t7 s7 d7⟩
theorem e9 {x0 x1 x2 x3 x4 x5 x6 x7 x8 : Value} {t0 t1 t2 t3 t4 t5 t6 t7 t8 : Nat} (h : RI.End ops M (Fn Fs) G A f0 f W) (s0 : f0 t0 = x0) (s1 : f0 t1 = x1) (s2 : f0 t2 = x2) (s3 : f0 t3 = x3) (s4 : f0 t4 = x4) (s5 : f0 t5 = x5) (s6 : f0 t6 = x6) (s7 : f0 t7 = x7) (s8 : f0 t8 = x8) (d0 : RI.isDst ops M t0 = false := by kernel_rfl) (d1 : RI.isDst ops M t1 = false := by kernel_rfl) (d2 : RI.isDst ops M t2 = false := by kernel_rfl) (d3 : RI.isDst ops M t3 = false := by kernel_rfl) (d4 : RI.isDst ops M t4 = false := by kernel_rfl) (d5 : RI.isDst ops M t5 = false := by kernel_rfl) (d6 : RI.isDst ops M t6 = false := by kernel_rfl) (d7 : RI.isDst ops M t7 = false := by kernel_rfl) (d8 : RI.isDst ops M t8 = false := by kernel_rfl) : f t0 = x0 ∧ f t1 = x1 ∧ f t2 = x2 ∧ f t3 = x3 ∧ f t4 = x4 ∧ f t5 = x5 ∧ f t6 = x6 ∧ f t7 = x7 ∧ f t8 = x8 := ⟨ek h t0 s0 d0, ek h t1 s1 d1, ek h t2 s2 d2, ek h t3 s3 d3, ek h t4 s4 d4, ek h t5 s5 d5, ek h t6 s6 d6, ek h t7 s7 d7, ek h t8 s8 d8⟩
theorem ep (h : RI.End ops M (Fn Fs) G As.contains f0 f W) (i j t u : Nat) {g g' : Nat} {o o' : Nat}
  (hg : f t = .pointer (some ⟨g, o, none⟩)) (hg' : f u = .pointer (some ⟨g', o', none⟩)) (hd : (decide (i < M) && decide (j < M) && (i != j) && As.contains i && As.contains j && (RI.dstOf ops i == some t) && (RI.dstOf ops j == some u)) = true := by kernel_rfl) : g ≠ g' := ap h i j t u hd hg hg'
theorem v1 (h : (execOp (act n ds f).eval o).run P W = .ok (.value x) W) : Ob P n ds o f W (fun v W' => E x v W' ∧ Ext W W') := valv x h ⟨rfl, Below.refl _ _⟩
theorem v2 (v : Value) (h : (execOp (act n ds f).eval o).run P W = .ok (.value v) W) (hv : Φ v W) : Ob P n ds o f W (fun v W' => Φ v W' ∧ Ext W W') := valv v h ⟨hv, Below.refl _ _⟩
theorem s1 (hF : Fs[i]? = some (E x)) (h : ∀ f W, At ops M Fs G f0 f W i → (execOp (act n ds f).eval o).run P W = .ok (.value x) W) (hA : As.contains i = false := by rfl) (hg : o.guard = none := by rfl) (hd : o.dst.isSome = true := by rfl) : StepOk P n ds f0 ops M Fs G As i o :=
 sp hF StbV.eq hA hg hd fun f W hat => v1 (h f W hat)
theorem z1 (hF : Fs[i]? = some (E x)) (h : ∀ {f W}, At ops M Fs G f0 f W i → (execOp (act n ds f).eval o).run P W = .ok (.value x) W) (hA : As.contains i = false := by rfl) (hg : o.guard = none := by rfl) (hd : o.dst.isSome = true := by rfl) : StepOk P n ds f0 ops M Fs G As i o :=
 s1 hF (fun _ _ => h) hA hg hd
theorem s2 [hst : ∀ v, StC (Φ v)] (hF : Fs[i]? = some Φ) (h : ∀ f W, At ops M Fs G f0 f W i → Ob P n ds o f W (fun v W' => Φ v W' ∧ Ext W W')) (hA : As.contains i = false := by rfl) (hg : o.guard = none := by rfl) (hd : o.dst.isSome = true := by rfl) : StepOk P n ds f0 ops M Fs G As i o :=
 sp hF (fun v => (hst v).s) hA hg hd h
abbrev Nb (w : World) (t : TypeId) (cs : Array Value) : Value → World → Prop := NewBlk w.heap.size t cs
theorem sn {t : TypeId} {cs : Array Value} (hF : Fs[i]? = some (Nb w t cs))
  (h : ∀ f W, At ops M Fs (fun W => G0 W ∧ w.heap.size ≤ W.heap.size) f0 f W i → (execOp (act n ds f).eval o).run P W = .ok (.value (.pointer (some ⟨W.heap.size, 0, none⟩))) (W.alloc (.cells cs t))) (hg : o.guard = none := by rfl) (hd : o.dst.isSome = true := by rfl) : StepOk P n ds f0 ops M Fs (fun W => G0 W ∧ w.heap.size ≤ W.heap.size) As i o :=
 sa hF hg hd (fun _ h => h.2) h
section short
variable {d : Option Tmp} {ty : TypeId} {pos : String} {af : Array Edge} {T : TypeId} {u : Value}
theorem mo (hF : Fs[i]? = some (E x)) (t : Nat) (s : f0 t = x) (hd : RI.fresh ops M i t = true := by kernel_rfl) (hn : Nat.blt t n = true := by rfl) (hA : As.contains i = false := by rfl) (h2 : d.isSome = true := by rfl) : StepOk P n ds f0 ops M Fs G As i ⟨d, .move (.tmp t), ty, pos, af, none⟩ := z1 hF (fun h => xm (eo h t s hd hn)) hA rfl h2
theorem me (hF : Fs[i]? = some (E x)) (j t : Nat) (hF2 : Fs[j]? = some (E x)) (hd : (RI.dep ops i j && (RI.dstOf ops j == some t)) = true := by kernel_rfl) (hn : Nat.blt t n = true := by rfl) (hA : As.contains i = false := by rfl) (h2 : d.isSome = true := by rfl) : StepOk P n ds f0 ops M Fs G As i ⟨d, .move (.tmp t), ty, pos, af, none⟩ := z1 hF (fun h => xm (ed h j t hF2 hd hn)) hA rfl h2
theorem se (hF : Fs[i]? = some (E x)) (j t : Nat) (hF2 : Fs[j]? = some (E x)) (hd : (RI.dep ops i j && (RI.dstOf ops j == some t)) = true := by kernel_rfl) (hn : Nat.blt t n = true := by rfl) (hA : As.contains i = false := by rfl) (h2 : d.isSome = true := by rfl) : StepOk P n ds f0 ops M Fs G As i ⟨d, .assign (.tmp t), ty, pos, af, none⟩ := z1 hF (fun h => xs (ed h j t hF2 hd hn)) hA rfl h2
end short
section chains
variable {S : Nat → Oper → Prop} {k : Nat} {o0 o1 o2 o3 o4 o5 o6 o7 : Oper} {l : List Oper}
theorem a2 (h0 : S (k) o0) (h1 : S (k + 1) o1) : AllS S k [o0, o1] := .cons h0 (.cons h1 .nil)
theorem a3 (h0 : S (k) o0) (h1 : S (k + 1) o1) (h2 : S ((k + 1) + 1) o2) : AllS S k [o0, o1, o2] := .cons h0 (.cons h1 (.cons h2 .nil))
theorem a4 (h0 : S (k) o0) (h1 : S (k + 1) o1) (h2 : S ((k + 1) + 1) o2) (h3 : S (((k + 1) + 1) + 1) o3) : AllS S k [o0, o1, o2, o3] := .cons h0 (.cons h1 (.cons h2 (.cons h3 .nil)))
theorem a5 (h0 : S (k) o0) (h1 : S (k + 1) o1) (h2 : S ((k + 1) + 1) o2) (h3 : S (((k + 1) + 1) + 1) o3) (h4 : S ((((k + 1) + 1) + 1) + 1) o4) : AllS S k [o0, o1, o2, o3, o4] := .cons h0 (.cons h1 (.cons h2 (.cons h3 (.cons h4 .nil))))
theorem a6 (h0 : S (k) o0) (h1 : S (k + 1) o1) (h2 : S ((k + 1) + 1) o2) (h3 : S (((k + 1) + 1) + 1) o3) (h4 : S ((((k + 1) + 1) + 1) + 1) o4) (h5 : S (((((k + 1) + 1) + 1) + 1) + 1) o5) : AllS S k [o0, o1, o2, o3, o4, o5] := .cons h0 (.cons h1 (.cons h2 (.cons h3 (.cons h4 (.cons h5 .nil)))))
theorem a7 (h0 : S (k) o0) (h1 : S (k + 1) o1) (h2 : S ((k + 1) + 1) o2) (h3 : S (((k + 1) + 1) + 1) o3) (h4 : S ((((k + 1) + 1) + 1) + 1) o4) (h5 : S (((((k + 1) + 1) + 1) + 1) + 1) o5) (h6 : S ((((((k + 1) + 1) + 1) + 1) + 1) + 1) o6) : AllS S k [o0, o1, o2, o3, o4, o5, o6] := .cons h0 (.cons h1 (.cons h2 (.cons h3 (.cons h4 (.cons h5 (.cons h6 .nil))))))
theorem a8 (h0 : S (k) o0) (h1 : S (k + 1) o1) (h2 : S ((k + 1) + 1) o2) (h3 : S (((k + 1) + 1) + 1) o3) (h4 : S ((((k + 1) + 1) + 1) + 1) o4) (h5 : S (((((k + 1) + 1) + 1) + 1) + 1) o5) (h6 : S ((((((k + 1) + 1) + 1) + 1) + 1) + 1) o6) (h7 : S (((((((k + 1) + 1) + 1) + 1) + 1) + 1) + 1) o7) : AllS S k [o0, o1, o2, o3, o4, o5, o6, o7] := .cons h0 (.cons h1 (.cons h2 (.cons h3 (.cons h4 (.cons h5 (.cons h6 (.cons h7 .nil)))))))
theorem b8 (h0 : S (k) o0) (h1 : S (k + 1) o1) (h2 : S ((k + 1) + 1) o2) (h3 : S (((k + 1) + 1) + 1) o3) (h4 : S ((((k + 1) + 1) + 1) + 1) o4) (h5 : S (((((k + 1) + 1) + 1) + 1) + 1) o5) (h6 : S ((((((k + 1) + 1) + 1) + 1) + 1) + 1) o6) (h7 : S (((((((k + 1) + 1) + 1) + 1) + 1) + 1) + 1) o7) (h' : AllS S ((((((((k + 1) + 1) + 1) + 1) + 1) + 1) + 1) + 1) l) : AllS S k (o0 :: o1 :: o2 :: o3 :: o4 :: o5 :: o6 :: o7 :: l) := .cons h0 (.cons h1 (.cons h2 (.cons h3 (.cons h4 (.cons h5 (.cons h6 (.cons h7 h')))))))
end chains
section guards
variable {T p : Bool} [hst : ∀ v, StC (Φ v)] (j t : Nat)
include hst
theorem gt (hF : Fs[i]? = some (Gd T Φ)) (hj : Fs[j]? = some (E (.bool T))) (h : T = true → ∀ f W, At ops M Fs G f0 f W i → Ob P n ds o f W (fun v W' => Φ v W' ∧ Ext W W')) (hA : As.contains i = false := by rfl) (hg : o.guard = some (j, true) := by rfl) (hd : o.dst.isSome = true := by rfl) (ht : RI.dstOf ops j = some t := by rfl) (hk : (RI.dep ops i j && (RI.dstOf ops j == some t)) = true := by kernel_rfl) : StepOk P n ds f0 ops M Fs G As i o :=
 sg T hF (fun v => (hst v).s) hA hg hd ht (fun _ _ hat => gd_t (dp hat j t hk hj)) h
theorem gf (hF : Fs[i]? = some (Gd (!T) Φ)) (hj : Fs[j]? = some (E (.bool T))) (h : (!T) = true → ∀ f W, At ops M Fs G f0 f W i → Ob P n ds o f W (fun v W' => Φ v W' ∧ Ext W W')) (hA : As.contains i = false := by rfl) (hg : o.guard = some (j, false) := by rfl) (hd : o.dst.isSome = true := by rfl) (ht : RI.dstOf ops j = some t := by rfl) (hk : (RI.dep ops i j && (RI.dstOf ops j == some t)) = true := by kernel_rfl) : StepOk P n ds f0 ops M Fs G As i o :=
 sg (!T) hF (fun v => (hst v).s) hA hg hd ht (fun _ _ hat => gd_f (dp hat j t hk hj)) h
theorem g2t (hF : Fs[i]? = some (Gd (p && T) Φ)) (hj : Fs[j]? = some (Gd p (E (.bool T)))) (h : (p && T) = true → ∀ f W, At ops M Fs G f0 f W i → Ob P n ds o f W (fun v W' => Φ v W' ∧ Ext W W')) (hA : As.contains i = false := by rfl) (hg : o.guard = some (j, true) := by rfl) (hd : o.dst.isSome = true := by rfl) (ht : RI.dstOf ops j = some t := by rfl) (hk : (RI.dep ops i j && (RI.dstOf ops j == some t)) = true := by kernel_rfl) : StepOk P n ds f0 ops M Fs G As i o :=
 sg (p && T) hF (fun v => (hst v).s) hA hg hd ht (fun _ _ hat => gd2_t (dp hat j t hk hj)) h
end guards
end steps
structure Sd (W W2 : World) (g : Nat) (T : TypeId) (cs cs' : Array Value) : Prop where
 eq : W2 = W.setRow g cs'
 old : Blk W g T cs
namespace Sd
variable {W W2 : World} {g : Nat} {T : TypeId} {cs cs' : Array Value}
theorem blk {k : Nat} {t : TypeId} {ds : Array Value} (hs : Sd W W2 g T cs cs') (h : Blk W k t ds) (hne : k ≠ g) : Blk W2 k t ds := by rw [hs.eq]; exact blk_far h hne
theorem r16 {A : Option Addr} {m c : Nat} {xs : List Nat} (hs : Sd W W2 g T cs cs') (h : R16 W A m c xs) (hc : cs.all noLimb = true := by simp [noLimb]) : R16 W2 A m c xs := by rw [hs.eq]; exact r16_far h hs.old hc
theorem bel {w : World} (hs : Sd W W2 g T cs cs') (h : Below w.heap.size w W) (hg : w.heap.size ≤ g) : Below w.heap.size w W2 := by rw [hs.eq]; exact bel_far h hg
theorem le {k : Nat} (hs : Sd W W2 g T cs cs') (h : k ≤ W.heap.size) : k ≤ W2.heap.size := by rw [hs.eq]; exact le_far h
end Sd
theorem t_st {P : Program} {n : Nat} {ds : List Deferred} {f : Nat → Value} {W : World} {ops : Array Oper} {dr : Bool} {k : Nat} {o : Oper} {Q : Exit → Act → World → Prop} {g : Nat} {T : TypeId} {cs cs' : Array Value} (ho : ops[k]? = some o)
  (hx : (execOp (act n ds f).eval o).run P W = .ok .skip (W.setRow g cs')) (hb : Blk W g T cs) (h : ∀ W2, Sd W W2 g T cs cs' → Blk W2 g T cs' → RI.Tail (fun _ => True) dr P ops Q n ds (k + 1) f W2)
  (hg : o.guard = none := by rfl) (hd : o.dst = none := by rfl) (hr : (!dr || Region.ready .any ops (RI.doneTo ops.size k) == [k]) = true := by kernel_rfl) : RI.Tail (fun _ => True) dr P ops Q n ds k f W :=
 t_skip ho hg hd hr trivial hx (h _ ⟨rfl, hb⟩ (blk_same hb))
theorem tsr {P : Program} {n : Nat} {ds : List Deferred} {f : Nat → Value} {W : World} {ops : Array Oper} {dr : Bool} {k t u : Nat} {d : Option Tmp} {ty ty2 : TypeId} {pos : String} {af : Array Edge} {Q : Exit → Act → World → Prop} {g : Nat} {T : TypeId} {cs cs' : Array Value} (ho : ops[k]? = some ⟨d, .store ty (.tmp t) (.tmp u), ty2, pos, af, none⟩)
  (s : f t = .pointer (some ⟨g, 0, none⟩)) (s2 : f u = .agg cs') (hb : Blk W g T cs) (h : ∀ W2, Sd W W2 g T cs cs' → Blk W2 g T cs' → RI.Tail (fun _ => True) dr P ops Q n ds (k + 1) f W2) (n1 : Nat.blt t n = true := by rfl) (n2 : Nat.blt u n = true := by rfl) (i1 : (P.info? ty).map (·.size) = some cs'.size := by kernel_rfl) (i2 : cs.size = cs'.size := by rfl) (i3 : cs'.all (·.oneCell') = true := by kernel_rfl)
  (hd : d = none := by rfl) (hr : (!dr || Region.ready .any ops (RI.doneTo ops.size k) == [k]) = true := by kernel_rfl) : RI.Tail (fun _ => True) dr P ops Q n ds k f W := t_st ho (x_store (ev_tmp n1 s) (ev_tmp n2 s2) (st_row hb i1 i2 i3)) hb h rfl hd hr
theorem nt {P : Program} {K n : Nat} {fn : Func} {c : Code} {args : Array Value} {w : World} {R : Ending → World → Prop} (hf : P.funcs[K]? = some fn) (hb : fn.body = some c) (hn : fn.ntmps = n) (h : ∀ f : Nat → Value, (∀ t, t < args.size → f t = args.getD t undef) → Wp P c n [] (bodyPost P fn R) f w) (ha : args.size ≤ n := by simp) : Calls P K args w R := enter hf hb hn ha h
end V
end Go.Proofs.YtjbcalbbhomkjaaGreat
