import Derived.Laws.ResultCell
import Derived.RangeFuncNested
import Derived.RangeFuncBound
import Derived.RangeFuncCalls
import Derived.RangeFuncLeaves
import Derived.Shelf.Abstract
import Derived.Shelf.RegionOpen
import Derived.OwnWalkIn
import Derived.TacticsInMore
import Derived.LoopNIn
import Derived.LoopIn
import Derived.OneCell
import Derived.Test.YtjbcalbbhomkjaaGreatEMem
namespace Go.Proofs.YtjbcalbbhomkjaaGreat
open Go.RowKit
structure Sim (B : Nat) (W W' : World) : Prop where
 below : Below B W W'
 size : W'.heap.size = W.heap.size
 cells : ∀ (b : Nat) (c : Array Value) (t : TypeId) (f : Nat × Nat), W.heap[b]? = some (.cells c t f) → W'.heap[b]? = some (.cells c t f)
theorem Sim.putObj {B : Nat} {W : World} {l : Nat} {o : Obj} (o' : Obj) (hl : W.heap[l]? = some o) (ho : o.isCells = false) (hB : B ≤ l) : Sim B W (W.putObj l o') := by
 refine ⟨⟨rfl, rfl, rfl, by simp, fun k hk => World.putObj_heap_other (by omega)⟩, by simp, fun b c t f hb => ?_⟩
 rw [World.putObj_heap_other ?_]
 ·exact hb
 ·rintro rfl; rw [hb] at hl; cases hl; cases ho
theorem Sim.cell {B : Nat} {W W' : World} (h : Sim B W W') {p : Addr} {v : Value} (hc : W.cell? p = some v) : W'.cell? p = some v := by
 unfold World.cell? at hc ⊢
 split at hc
 ·rename_i c t f hb
  rw [h.cells _ _ _ _ hb]; exact hc
 ·cases hc
theorem Rd.sim {B : Nat} {w w' : World} {sz n c : Nat} {A : Option Addr} {cs : List Value} (h : Rd w sz A n c cs) (hs : Sim B w w') : Rd w' sz A n c cs :=
 ⟨h.len, h.cap, h.max, fun hn => by
  obtain ⟨ad, e, hc⟩ := h.cells hn
  exact ⟨ad, e, fun j u hu => hs.cell (hc j u hu)⟩⟩
theorem R16.sim {B : Nat} {w w' : World} {n c : Nat} {A : Option Addr} {xs : List Nat} (h : R16 w A n c xs) (hs : Sim B w w') : R16 w' A n c xs := ⟨h.rd.sim hs, h.ok⟩
theorem ownsRow_sim {B : Nat} {w w' : World} {base : Nat} {e : TypeId} {size : Nat} {v : Value} {n : Nat} {xs : List Value} (h : w.ownsRow base e size v n xs) (hs : Sim B w w') : w'.ownsRow base e size v n xs := by
 obtain ⟨h1, h2⟩ := h
 refine ⟨h1, ?_⟩
 rcases h2 with h2 | ⟨g, cap, cur, hv, hg, hh, r⟩
 ·exact .inl h2
 ·exact .inr ⟨g, cap, cur, hv, hg, hs.cells _ _ _ _ hh, r⟩
theorem Blk.sim {B : Nat} {w w' : World} {g : Nat} {t : TypeId} {cs : Array Value} (h : Blk w g t cs) (hs : Sim B w w') : Blk w' g t cs := hs.cells _ _ _ _ h
theorem below_sim {B B' : Nat} {a w w' : World} (h : Below B a w) (hs : Sim B' w w') (hB : B ≤ B') : Below B a w' := h.trans (hs.below.mono hB)
def Keeps (B : Nat) (W W' : World) : Prop := KeepsFrom B W W'
def rfPost (B : Nat) (Kp : World → World → Prop) (I : World → Prop) (Ix : Code → World → Prop) (W : World) : Exit → Act → World → Prop
 | .normal, _, W' => Keeps B W W' ∧ Kp W W' ∧ I W'
 | .ret, _, W' => Keeps B W W' ∧ Ix .ret W'
 | .exit id, _, W' => Keeps B W W' ∧ Ix (.exit id) W'
 | .goto t, _, W' => Keeps B W W' ∧ Ix (.goto t) W'
 | .panic _, _, _ => False
 | .outgrown, _, _ => False
def Iter (P : Program) (gf : FuncId) (lb : Array Value) (Kp : World → World → Prop) (more : Nat → World → World → Array Value → Prop) (fin : Nat → World → World → Prop) (w : World) : Prop :=
 ∀ (l : Nat) (J : Nat → World → Prop) (Jx : World → Prop) (W0 : World), Below w.heap.size w W0 →
  (∀ k W W' args, J k W → more k W W' args → YieldAt Fence.wide 9 P l args W' fun e W'' =>
   (e = .returned (.bool true) ∧ J (k + 1) W'' ∧ Kp W' W'') ∨ (e = .returned (.bool false) ∧ Jx W'')) →
  J 0 W0 →
  CallsIn Fence.wide 9 P gf (#[.func (.yield l) #[] #[]] ++ lb) W0 fun e W' => (∃ v, e = .returned v) ∧ ((∃ k W, J k W ∧ fin k W W') ∨ Jx W')
theorem callsIn_any {n m : Nat} {P : Program} {f : FuncId} {args : Array Value} {w : World} {R : Ending → World → Prop} (h : CallsIn Fence.wide n P f args w R) : CallsIn Fence.wide m P f args w R :=
 callsIn_wide.2 (callsIn_wide.1 h)
theorem rf_law {P : Program} {n : Nat} {g : Operand} {ps : Array Tmp} {assign body : Code} {Q : Exit → Act → World → Prop} {a : Act} {w : World} {gf : FuncId} {lb : Array Value}
  (hg : a.eval g = .func (.func gf) #[] lb) (eg : ∀ args w, (callFunc gf args).run P w = .ok (.enter gf args) w)
  {Kp : World → World → Prop} {more : Nat → World → World → Array Value → Prop} {fin : Nat → World → World → Prop} (hit : Iter P gf lb Kp more fin w)
  (hKt : ∀ {A B C : World}, Kp A B → Kp B C → Kp A C) (hKs : ∀ {A B : World}, Sim w.heap.size A B → Kp A B)
  (hmore : ∀ k W W' args, more k W W' args → Keeps w.heap.size W W' ∧ args.size = ps.size) (hfin : ∀ k W W', fin k W W' → Keeps w.heap.size W W')
  (I : Nat → World → Prop) (Ia : Nat → Array Value → World → Prop) (Ib : Nat → Array Value → Act → World → Prop) (Ix : Code → World → Prop) (Id : World → Prop)
  (hI : ∀ k W W', I k W → Sim w.heap.size W W' → I k W') (hIb : ∀ k args a' W W', Ib k args a' W → Sim w.heap.size W W' → Ib k args a' W')
  (hIx : ∀ c W W', Ix c W → Sim w.heap.size W W' → Ix c W') (hId : ∀ W W', Id W → Sim w.heap.size W W' → Id W')
  (h0 : ∀ W, Below w.heap.size w W → W.heap.size = w.heap.size + 2 → I 0 W)
  (ha : ∀ k W W' args, I k W → more k W W' args → Ia k args W')
  (hassign : ∀ (l k : Nat) (args : Array Value) (W : World), Ia k args W → args.size = ps.size →
   assign.wpIn (Fence.wide.inRound l) 9 P (Exit.then (fun a' W' => Keeps w.heap.size W W' ∧ Kp W W' ∧ Ib k args a' W') (fun _ _ _ => False)) { tmps := (ps.zip args).foldl (fun t (p, v) => t.setIfInBounds p v) a.tmps, defers := [] } W)
  (hbody : ∀ (l k : Nat) (args : Array Value) (a' : Act) (W : World), w.heap.size ≤ l → (∃ r, W.heap[l]? = some (.loop r)) → Ib k args a' W → body.wpIn (Fence.wide.inRound l) 9 P (rfPost w.heap.size Kp (I (k + 1)) Ix W) a' W)
  (hend : ∀ k W W', I k W → fin k W W' → Id W')
  (hdone : ∀ (D : Nat) (W : World), w.heap.size ≤ D → Id W → W.heap[D]? = some (.deferred (some [])) → Q .normal { a with defers := { target := .collected D, args := #[] } :: a.defers } W)
  (hstop : ∀ (D : Nat) (c : Code) (W : World), w.heap.size ≤ D → Ix c W → W.heap[D]? = some (.deferred (some [])) → c.wpIn Fence.wide n P Q { a with defers := { target := .collected D, args := #[] } :: a.defers } W) :
  (Code.rangeFunc g ps assign body).wpIn Fence.wide n P Q a w := by
 refine wpIn_rangeFunc fun fn _ => ?_
 obtain ⟨R, hRd⟩ : ∃ R : LoopState → Option Code → Loop, R = fun st pe => { state := st, pending := pe, fn, tmps := a.tmps, params := ps, assign, body, defers := w.heap.size } := ⟨_, rfl⟩
 obtain ⟨W1, hW1⟩ : ∃ W1, W1 = (w.alloc (.deferred (some []))).alloc (.loop (R .ready none)) := ⟨_, rfl⟩
 have hB1 : Below w.heap.size w W1 := by rw [hW1]; exact ((Below.refl _ w).alloc (Nat.le_refl _) _).alloc (by simp) _
 have hs1 : W1.heap.size = w.heap.size + 2 := by rw [hW1]; simp
 have hl1 : W1.heap[w.heap.size + 1]? = some (.loop (R .ready none)) := by
  rw [hW1]; have := World.alloc_heap_new (w.alloc (.deferred (some []))) (.loop (R .ready none)); rwa [World.size_alloc] at this
 have hd1 : W1.heap[w.heap.size]? = some (.deferred (some [])) := by
  rw [hW1]; exact (Below.heap_alloc _ _ _ (by simp)).trans (World.alloc_heap_new w _)
 refine ⟨w.heap.size + 1, [{ target := .collected w.heap.size, args := #[] }], W1, { target := .fn (.func gf) lb, args := #[.func (.yield (w.heap.size + 1)) #[] #[]] }, W1, gf,
  #[.func (.yield (w.heap.size + 1)) #[] #[]] ++ lb, W1, ?_, ?_, fun _ _ => trivial, ?_, fun h => (by simp [Fence.wide] at h), ?_⟩
 ·rw [hW1, hRd]; exact run_enterLoop_outer _ _ _ _ _
 ·simp only [resolve, hg]; simp [go_sem]
 ·simp [invoke, go_sem, eg]
 ·refine callsIn_any (n := 9) ?_
  refine (hit (w.heap.size + 1) (fun k W => I k W ∧ W.heap[w.heap.size + 1]? = some (.loop (R .ready none)) ∧ W.heap[w.heap.size]? = some (.deferred (some [])))
   (fun W => ∃ c, Ix c W ∧ W.heap[w.heap.size + 1]? = some (.loop (R .done (some c))) ∧ W.heap[w.heap.size]? = some (.deferred (some []))) W1 hB1 ?_ ⟨h0 _ hB1 hs1, hl1, hd1⟩).mono ?_
  ·rintro k W W' args ⟨hi, hl, hd⟩ hm
   obtain ⟨hk, hsz⟩ := hmore k W W' args hm
   have hl := hk.same _ _ (by omega) hl rfl
   have hd := hk.same _ _ (Nat.le_refl _) hd rfl
   have hia := ha k W W' args hi hm
   have hy := run_yield (P := P) (args := args) hl (by rw [hRd]; exact hsz)
   rw [hRd] at hy
   refine ⟨fn, _, assign, body, hy, roundIn_of_wpIn trivial (wpIn_mono (hassign (w.heap.size + 1) k args W' hia hsz) ?_)⟩
   rintro e a1 Wa hp
   cases e with
   | normal =>
    obtain ⟨hka, hkpa, hib⟩ := hp
    have hla := hka.same _ _ (by omega) hl rfl
    have hda := hka.same _ _ (Nat.le_refl _) hd rfl
    have hlt : w.heap.size + 1 < Wa.heap.size := (Array.getElem?_eq_some_iff.1 hla).1
    refine ⟨_, run_beginRound hla (by rw [hRd]), ?_⟩
    have hsim := Sim.putObj (B := w.heap.size) (.loop { R .ready none with state := .busy }) hla rfl (by omega)
    have hlb : (Wa.putObj (w.heap.size + 1) (.loop { R .ready none with state := .busy })).heap[w.heap.size + 1]? = some (.loop { R .ready none with state := .busy }) := World.putObj_heap_same hlt
    have hdb : (Wa.putObj (w.heap.size + 1) (.loop { R .ready none with state := .busy })).heap[w.heap.size]? = some (.deferred (some [])) := (World.putObj_heap_other (by omega)).trans hda
    refine wpIn_mono (hbody (w.heap.size + 1) k args a1 _ (by omega) ⟨_, hlb⟩ (hIb k args a1 _ _ hib hsim)) ?_
    have close : ∀ (jump : Option Code) (W3 : World), Keeps w.heap.size (Wa.putObj (w.heap.size + 1) (.loop { R .ready none with state := .busy })) W3 →
      ∃ W4, (Instr.endRound (w.heap.size + 1) jump).run P W3 = .ok (.bool jump.isNone) W4 ∧ Sim w.heap.size W3 W4 ∧
       W4.heap[w.heap.size + 1]? = some (.loop (R (if jump.isNone then .ready else .done) jump)) ∧ W4.heap[w.heap.size]? = some (.deferred (some [])) := fun jump W3 hk3 => by
     have hl3 := hk3.same _ _ (by omega) hlb rfl
     have hd3 := hk3.same _ _ (Nat.le_refl _) hdb rfl
     refine ⟨_, run_endRound (P := P) jump hl3, Sim.putObj _ hl3 rfl (by omega), ?_, (World.putObj_heap_other (by omega)).trans hd3⟩
     rw [World.putObj_heap_same (Array.getElem?_eq_some_iff.1 hl3).1, hRd]
    rintro e a3 W3 hp
    cases e with
    | normal =>
     obtain ⟨hk3, hkp3, hi3⟩ := hp
     obtain ⟨W4, hr, hsim4, hl4, hd4⟩ := close none W3 hk3
     exact ⟨_, W4, hr, .inl ⟨rfl, ⟨hI _ _ _ hi3 hsim4, hl4, hd4⟩, hKt hkpa (hKt (hKs hsim) (hKt hkp3 (hKs hsim4)))⟩⟩
    | ret =>
     obtain ⟨hk3, hi3⟩ := hp
     obtain ⟨W4, hr, hsim4, hl4, hd4⟩ := close (some .ret) W3 hk3
     exact ⟨_, W4, hr, .inr ⟨rfl, .ret, hIx _ _ _ hi3 hsim4, hl4, hd4⟩⟩
    | exit id =>
     obtain ⟨hk3, hi3⟩ := hp
     obtain ⟨W4, hr, hsim4, hl4, hd4⟩ := close (some (.exit id)) W3 hk3
     exact ⟨_, W4, hr, .inr ⟨rfl, .exit id, hIx _ _ _ hi3 hsim4, hl4, hd4⟩⟩
    | goto t =>
     obtain ⟨hk3, hi3⟩ := hp
     obtain ⟨W4, hr, hsim4, hl4, hd4⟩ := close (some (.goto t)) W3 hk3
     exact ⟨_, W4, hr, .inr ⟨rfl, .goto t, hIx _ _ _ hi3 hsim4, hl4, hd4⟩⟩
    | panic ch => exact hp.elim
    | outgrown => exact hp.elim
   | exit id => exact hp.elim
   | goto t => exact hp.elim
   | ret => exact hp.elim
   | panic ch => exact hp.elim
   | outgrown => exact hp.elim
  ·rintro e W2 ⟨⟨v, rfl⟩, (⟨k, W, ⟨hi, hl, hd⟩, hf⟩ | ⟨c, hi, hl, hd⟩)⟩
   ·have hk := hfin k W W2 hf
    have hl := hk.same _ _ (by omega) hl rfl
    have hd := hk.same _ _ (Nat.le_refl _) hd rfl
    have hid := hend k W W2 hi hf
    refine ⟨none, _, ?_, hdone w.heap.size _ (Nat.le_refl _) (hId _ _ hid (Sim.putObj (.loop { R .ready none with state := .exhausted }) hl rfl (by omega))) ((World.putObj_heap_other (by omega)).trans hd)⟩
    have := run_endLoop (P := P) hl (by rw [hRd]; simp)
    rw [this, hRd]
   ·refine ⟨some c, _, ?_, hstop w.heap.size c _ (Nat.le_refl _) (hIx _ _ _ hi (Sim.putObj (.loop { R .done (some c) with state := .exhausted }) hl rfl (by omega))) ((World.putObj_heap_other (by omega)).trans hd)⟩
    have := run_endLoop (P := P) hl (by rw [hRd]; simp)
    rw [this, hRd]
theorem leave_plain {P : Program} {n : Nat} {fn : Func} {R : Ending → World → Prop} {tmps : Array Value} {W : World} {v : Value} (hr : (results fn tmps).run P W = .ok v W) (hR : R (.returned v) W) :
  bodyPostM Fence.wide n P fn R .ret { tmps := tmps, defers := [] } W := ⟨v, hr, hR⟩
theorem leave_mark {P : Program} {n : Nat} {fn : Func} {R : Ending → World → Prop} {tmps : Array Value} {W : World} {D : Nat} {v : Value} (hD : W.heap[D]? = some (.deferred (some [])))
  (hr : (results fn tmps).run P (W.putObj D (.deferred none)) = .ok v (W.putObj D (.deferred none))) (hR : R (.returned v) (W.putObj D (.deferred none))) :
  bodyPostM Fence.wide n P fn R .ret { tmps := tmps, defers := [{ target := .collected D, args := #[] }] } W :=
 ⟨by simp, .inl ⟨_, _, rfl, run_takeDeferred hD, ⟨v, hr, hR⟩⟩⟩
theorem results_cell {P : Program} {fn : Func} {p : Tmp} {ty : TypeId} {tmps : Array Value} {W : World} {a : Addr} {v : Value} (h : fn.results = #[.cell p ty]) (ht : tmps.getD p undef = .pointer (some a))
  (hl : (loadVar ty a).run P W = .ok v W) : (results fn tmps).run P W = .ok v W := by
 have ht' : tmps[p]?.getD undef = .pointer (some a) := by simpa using ht
 simp only [results, h]
 simp [ht', asAddr, hl]
theorem results_cellTmp {P : Program} {fn : Func} {p u : Tmp} {ty : TypeId} {tmps : Array Value} {W : World} {a : Addr} {v x : Value} (h : fn.results = #[.cell p ty, .tmp u]) (ht : tmps.getD p undef = .pointer (some a)) (hu : tmps.getD u undef = x)
  (hl : (loadVar ty a).run P W = .ok v W) : (results fn tmps).run P W = .ok (.tuple #[v, x]) W := by
 subst hu
 rw [results_cell_tmp h, ht]
 simp [asAddr, hl, Result.andThen]
theorem below_putObj {B : Nat} {a W : World} {D : Nat} (h : Below B a W) (hD : B ≤ D) (o : Obj) : Below B a (W.putObj D o) :=
 h.trans ⟨rfl, rfl, rfl, by simp, fun k hk => World.putObj_heap_other (by omega)⟩
theorem Blk.putObj {W : World} {g : Nat} {t : TypeId} {cs : Array Value} {D : Nat} (h : Blk W g t cs) (hD : W.heap[D]? = some (.deferred (some []))) (o : Obj) : Blk (W.putObj D o) g t cs :=
 h.sim (Sim.putObj (B := 0) o hD rfl (Nat.zero_le _))
theorem wpi_make {F : Fence} {n : Nat} {P : Program} (w : World) {ops : Array Oper} {rest : List Oper} {o : Oper} {a : Act} {Q : Exit → Act → World → Prop} (hgd : o.guard = none) (l c : Operand) (t : TypeId) (ho : o.op = Op.makeSlice t l c)
  (base : Nat) (e : TypeId) (i : TypeInfo) (z : Value) (size : Nat) (ht : P.underlying t = some (.slice e)) (hi : P.info? e = some i) (hz : i.zero = some z) (hsize : i.size = size)
  (L : Int) (m : Nat) (hl : a.eval l = .int .i64 L) (hc : a.eval c = .int .i64 L) (hL : L = (m : Int)) (hb : i.bytes * m ≤ 281474976710656) (hm : m ≤ maxLen) (hbase : base ≤ w.heap.size)
  (h : ∀ w', w'.ownsRow base e size (.slice (some ⟨w.heap.size, 0, none⟩) m m) m (madeCells z.cells (m * size)).toList → w.grownBy w' none → wpListIn F n P ops Q rest (a.put o.dst (.slice (some ⟨w.heap.size, 0, none⟩) m m)) w') : wpListIn F n P ops Q (o :: rest) a w := by
 obtain ⟨w', hrun, h2, h3⟩ := run_make_full (P := P) w base t e i z size ht hi hz hsize .i64 .i64 m hb hm hbase
 subst hL
 refine wpListIn_plain hgd fun K hK => ⟨by simp [Oper.about, ho], ?_⟩
 rw [Oper.semAt_plain F _ _ (by rw [ho]; intro x hx; cases hx)]
 simp [execOp, ho, hl, hc, hrun, Result.andThen]
 exact hK _ _ (h w' h2 h3)
theorem keeps_refl (B : Nat) (W : World) : Keeps B W W := KeepsFrom.refl B W
theorem keeps_trans {B : Nat} {X Y Z : World} (h : Keeps B X Y) (k : Keeps B Y Z) : Keeps B X Z := KeepsFrom.trans h k
theorem keeps_setCell (B : Nat) (W : World) (a : Addr) (v : Value) : Keeps B W (W.setCell a v) := (KeepsOthers.setCell W a v).from B
theorem keeps_drew {B : Nat} {X W : World} (h : Keeps B X W) : Keeps B X W.drew := keeps_trans h ((KeepsOthers.drew W).from B)
end Go.Proofs.YtjbcalbbhomkjaaGreat
