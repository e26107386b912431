import Derived.Test.YtjbcalbbhomkjaaGreatEClone
import Derived.Test.YtjbcalbbhomkjaaGreatEShort
import Derived.Test.YtjbcalbbhomkjaaGreatEDigit
import Derived.Test.YtjbcalbbhomkjaaGreatEDivLaw
namespace Go.Proofs.YtjbcalbbhomkjaaGreat
open Go.RowKit Go.Shelf
def FRow (B N V g : Nat) (W : World) : Prop := ∃ zs, RowI B g N W zs ∧ Lb.val zs = V
theorem RowI.next {B g N : Nat} {W W1 : World} {zs : List Nat} (h : RowI B g N W zs) (hb : Below W.heap.size W W1) : RowI B g N W1 zs := ⟨h.len, h.ok, ownsRow_below h.own hb⟩
theorem FRow.next {B N V g : Nat} {W W1 : World} (h : FRow B N V g W) (hb : Below W.heap.size W W1) : FRow B N V g W1 := by
 obtain ⟨zs, h1, h2⟩ := h
 exact ⟨zs, h1.next hb, h2⟩
theorem own_base {w : World} {base base' : Nat} {e : TypeId} {sz n : Nat} {v : Value} {xs : List Value} (h : w.ownsRow base e sz v n xs) (hb : base' ≤ base) : w.ownsRow base' e sz v n xs := by
 obtain ⟨h1, h2⟩ := h
 refine ⟨h1, ?_⟩
 rcases h2 with h2 | ⟨g, cap, cur, hv, hg, r⟩
 ·exact .inl h2
 ·exact .inr ⟨g, cap, cur, hv, by omega, r⟩
theorem FRow.mk {B N V g : Nat} {W W1 : World} {zs : List Nat} (hB : B ≤ W.heap.size) (h : MulI W W1 g N zs) (hv : Lb.val zs = V) : FRow B N V g W1 := ⟨zs, ⟨h.len, h.ok, own_base h.own hB⟩, hv⟩
theorem FRow.lt {B N V g : Nat} {W : World} (h : FRow B N V g W) : g < W.heap.size ∧ B ≤ g := by
 obtain ⟨zs, h1, _⟩ := h
 exact ⟨(h1.own.lt _ rfl).2, (h1.own.lt _ rfl).1⟩
theorem FRow.set {B N V g : Nat} {W : World} (h : FRow B N V g W) {b : Nat} {cs : Array Value} (hb : Blk W b 33 cs) (i : Nat) (v : Value) : FRow B N V g (W.setCell ⟨b, i, none⟩ v) := by
 obtain ⟨zs, h1, h2⟩ := h
 exact ⟨zs, ⟨h1.len, h1.ok, own_set h1.own hb (by decide) i v⟩, h2⟩
theorem Blk.next {W W1 : World} {b : Nat} {t : TypeId} {cs : Array Value} (h : Blk W b t cs) (hb : Below W.heap.size W W1) : Blk W1 b t cs := h.below hb h.lt
def D7 (B : Nat) (W0 : World) (N N' V V' : Nat) (gu gv bu bv : Nat) (W : World) : Prop :=
 Below B W0 W ∧ FRow B N V gu W ∧ FRow B N' V' gv W ∧ Blk W bu 33 #[.slice (some ⟨gu, 0, none⟩) N N] ∧ Blk W bv 33 #[.slice (some ⟨gv, 0, none⟩) (N' - 1) N'] ∧ bu ≠ bv ∧ gu ≠ gv ∧ B ≤ bu ∧ B ≤ bv
theorem div7_end {B : Nat} {W0 W : World} {N N' V V' gu gv bu bv : Nat} (hbu : B ≤ bu) (hbv : B ≤ bv) (hbb : bu ≠ bv) (hgg : gu ≠ gv) (fu : FRow B N V gu W) (fv : FRow B N' V' gv W) (b1 : Blk W bu 33 #[.slice none 0 0]) (b2 : Blk W bv 33 #[.slice none 0 0]) (hS : Below B W0 W) :
  (Below B W0 (W.setCell ⟨bu, 0, none⟩ (.slice (some ⟨gu, 0, none⟩) N N)) ∧ Blk (W.setCell ⟨bu, 0, none⟩ (.slice (some ⟨gu, 0, none⟩) N N)) bv 33 #[.slice none 0 0]) ∧
  D7 B W0 N N' V V' gu gv bu bv ((W.setCell ⟨bu, 0, none⟩ (.slice (some ⟨gu, 0, none⟩) N N)).setCell ⟨bv, 0, none⟩ (.slice (some ⟨gv, 0, none⟩) (N' - 1) N')) := by
 have h1 := b1.set_ 0 (.slice (some ⟨gu, 0, none⟩) N N)
 have h2 := b2.far (p := ⟨bu, 0, none⟩) (Ne.symm hbb) (.slice (some ⟨gu, 0, none⟩) N N)
 have h3 := hS.setCell hbu (p := ⟨bu, 0, none⟩) (.slice (some ⟨gu, 0, none⟩) N N)
 refine ⟨⟨h3, h2⟩, h3.setCell hbv _, (fu.set b1 _ _).set h2 _ _, (fv.set b1 _ _).set h2 _ _, ?_, ?_, hbb, hgg, hbu, hbv⟩
 ·exact h1.far (p := ⟨bv, 0, none⟩) hbb _
 ·exact h2.set_ 0 _
theorem Only.blk {g : Nat} {w w' : World} (h : Only g w w') {b : Nat} {t : TypeId} {cs : Array Value} (hb : Blk w b t cs) (hne : b ≠ g) : Blk w' b t cs :=
 (h.grown.block b hb.lt (fun e => hne (by injection e))).trans hb
theorem RowI.ne {B g N b : Nat} {w : World} {zs : List Nat} (h : RowI B g N w zs) {t : TypeId} {cs : Array Value} (hb : Blk w b t cs) (ht : 51 ≠ t) : b ≠ g := by
 intro e
 exact own_blk_ne h.own hb ht (by rw [e]; rfl)
theorem RowI.only {B g g' N : Nat} {w w' : World} {zs : List Nat} (h : RowI B g N w zs) (ho : Only g' w w') (hne : g ≠ g') : RowI B g N w' zs := by
 refine ⟨h.len, h.ok, h.own.1, ?_⟩
 rcases h.own.2 with h2 | ⟨g2, cap, cur, hv, hg, hh, r⟩
 ·exact .inl h2
 ·have e : g = g2 := by injection hv with h; injection h with h; injection h
  exact .inr ⟨g2, cap, cur, hv, hg, (ho.grown.block g2 (Array.getElem?_eq_some_iff.1 hh).1 (fun e' => hne (by injection e' with e'; omega))).trans hh, r⟩
theorem RowI.sim {B g N B' : Nat} {w w' : World} {zs : List Nat} (h : RowI B g N w zs) (hs : Sim B' w w') : RowI B g N w' zs := ⟨h.len, h.ok, ownsRow_sim h.own hs⟩
theorem RowI.r16 {B g N : Nat} {w : World} {zs : List Nat} (h : RowI B g N w zs) : R16 w (some ⟨g, 0, none⟩) N N zs := ⟨Rd.of_lit h.own, h.ok⟩
theorem RowI.take16 {B g N : Nat} {w : World} {zs : List Nat} (h : RowI B g N w zs) (k : Nat) (hk : k ≤ N) : R16 w (some ⟨g, 0, none⟩) k N (zs.take k) := h.r16.take k hk
theorem RowI.ge {B g N : Nat} {w : World} {zs : List Nat} (h : RowI B g N w zs) : B ≤ g ∧ g < w.heap.size := ⟨(h.own.lt _ rfl).1, (h.own.lt _ rfl).2⟩
theorem RowI.far {B g N : Nat} {w : World} {zs : List Nat} (h : RowI B g N w zs) {g' : Nat} (hne : g ≠ g') (i : Nat) (v : Value) : RowI B g N (w.setCell ⟨g', i, none⟩ v) zs := by
 refine ⟨h.len, h.ok, h.own.1, ?_⟩
 rcases h.own.2 with h2 | ⟨g2, cap, cur, hv, hg, hh, r⟩
 ·exact .inl h2
 ·have e : g = g2 := by injection hv with h; injection h with h; injection h
  exact .inr ⟨g2, cap, cur, hv, hg, (Below.heap_setCell w _ v g2 (by simp; omega)).trans hh, r⟩
theorem Only.keeps {g : Nat} {w w' : World} (h : Only g w w') {B : Nat} (hg : g < B) : Keeps B w w' := ⟨by rw [h.size]; exact Nat.le_refl _, fun k o hk ho _ => (h.grown.block k (Array.getElem?_eq_some_iff.1 ho).1 (fun e => by injection e; omega)).trans ho⟩
theorem Only.below {g : Nat} {w w' : World} (h : Only g w w') {B : Nat} {w0 : World} (hb : Below B w0 w) (hg : B ≤ g) (hB : B ≤ w.heap.size) : Below B w0 w' :=
 ⟨h.grown.os.trans hb.os, h.grown.tape.trans hb.tape, h.grown.output.trans hb.output, by rw [h.size]; exact hb.size, fun k hk => (h.grown.block k (by omega) (fun e => by injection e; omega)).trans (hb.block k hk)⟩
theorem RowI.set30 {B g N : Nat} {W : World} {zs : List Nat} (h : RowI B g N W zs) {b : Nat} {cs : Array Value} (hb : Blk W b 33 cs) (i : Nat) (v : Value) : RowI B g N (W.setCell ⟨b, i, none⟩ v) zs := ⟨h.len, h.ok, own_set h.own hb (by decide) i v⟩
theorem RowI.alloc {B g N : Nat} {W : World} {zs : List Nat} (h : RowI B g N W zs) (o : Obj) : RowI B g N (W.alloc o) zs := h.next ((Below.refl _ _).alloc (Nat.le_refl _) o)
theorem RowI.base {B B' g N : Nat} {W : World} {zs : List Nat} (h : RowI B g N W zs) (hB : B' ≤ B) : RowI B' g N W zs := ⟨h.len, h.ok, own_base h.own hB⟩
structure DvP where
 (b4 bn bu bv gu gv gq S m q Z V B : Nat)
 zv : List Nat
structure DvG (p : DvP) : Prop where
 uv : p.gu ≠ p.gv
 uq : p.gu ≠ p.gq
 vq : p.gv ≠ p.gq
 uS : p.gu < p.S
 qS : p.gq < p.S
 nm : p.m + 2 + p.q ≤ 100000
 val : Lb.val (p.zv.take (p.m + 2)) = p.V
 top : 32768 ≤ (p.zv.take (p.m + 2))[p.m + 1]?.getD 0
 small : p.V < 65536 ^ (p.m + 2)
structure DvI (p : DvP) (w : World) (j : Nat) (zs qs : List Nat) (W : World) : Prop where
 q4 : Blk W p.b4 33 #[.slice (some ⟨p.gq, 0, none⟩) (p.q + 1) (p.q + 1)]
 n : Blk W p.bn 3 #[.int .i64 ((p.m : Int) + 2)]
 u : Blk W p.bu 33 #[.slice (some ⟨p.gu, 0, none⟩) (p.m + 2 + p.q + 1) (p.m + 2 + p.q + 1)]
 v : Blk W p.bv 33 #[.slice (some ⟨p.gv, 0, none⟩) (p.m + 2) (p.m + 3)]
 ru : RowI p.B p.gu (p.m + 2 + p.q + 1) W zs
 rv : RowI p.B p.gv (p.m + 3) W p.zv
 rq : RowI p.B p.gq (p.q + 1) W qs
 below : Below p.B w W
 lt : Lb.val zs < 65536 ^ j * p.V
 sum : 65536 ^ j * Lb.val (qs.drop j) * p.V + Lb.val zs = p.Z
def DvS (p : DvP) (W : World) : Prop :=
 W.cell? ⟨p.b4, 0, none⟩ = some (.slice (some ⟨p.gq, 0, none⟩) (p.q + 1) (p.q + 1)) ∧ W.cell? ⟨p.bn, 0, none⟩ = some (.int .i64 ((p.m : Int) + 2)) ∧
 W.cell? ⟨p.bu, 0, none⟩ = some (.slice (some ⟨p.gu, 0, none⟩) (p.m + 2 + p.q + 1) (p.m + 2 + p.q + 1)) ∧ W.cell? ⟨p.bv, 0, none⟩ = some (.slice (some ⟨p.gv, 0, none⟩) (p.m + 2) (p.m + 3))
theorem DvI.s {p : DvP} {w W : World} {j : Nat} {zs qs : List Nat} (h : DvI p w j zs qs W) : DvS p W := ⟨h.q4.one, h.n.one, h.u.one, h.v.one⟩
theorem DvI.sim {p : DvP} {w W W' : World} {j B' : Nat} {zs qs : List Nat} (h : DvI p w j zs qs W) (hs : Sim B' W W') (hB : p.B ≤ B') : DvI p w j zs qs W' :=
 ⟨h.q4.sim hs, h.n.sim hs, h.u.sim hs, h.v.sim hs, h.ru.sim hs, h.rv.sim hs, h.rq.sim hs, below_sim h.below hs hB, h.lt, h.sum⟩
theorem RowI.drew {B g N : Nat} {w : World} {zs : List Nat} (h : RowI B g N w zs) : RowI B g N w.drew zs := ⟨h.len, h.ok, h.own⟩
theorem DvI.drew {p : DvP} {w W : World} {j : Nat} {zs qs : List Nat} (h : DvI p w j zs qs W) : DvI p w j zs qs W.drew :=
 ⟨h.q4.drew, h.n.drew, h.u.drew, h.v.drew, h.ru.drew, h.rv.drew, h.rq.drew, h.below.drew, h.lt, h.sum⟩
theorem DvI.next {p : DvP} {w W W' : World} {j : Nat} {zs qs : List Nat} (h : DvI p w j zs qs W) (hb : Below W.heap.size W W') : DvI p w j zs qs W' :=
 ⟨h.q4.next hb, h.n.next hb, h.u.next hb, h.v.next hb, h.ru.next hb, h.rv.next hb, h.rq.next hb, h.below.trans (hb.mono (by have := h.ru.ge; omega)), h.lt, h.sum⟩
theorem DvI.mid {p : DvP} {w W W1 : World} {j : Nat} {zs qs zs' : List Nat} (g : DvG p) (h : DvI p w (j + 1) zs qs W) (hj : j < p.q + 1) (h1 : RowI p.B p.gu (p.m + 2 + p.q + 1) W1 zs') (h2 : Lb.val zs' = Lb.val zs % (65536 ^ j * p.V)) (h3 : Only p.gu W W1) :
  DvS p W1 ∧ (∀ v, DvS p (W1.setCell ⟨p.gq, j, none⟩ v)) ∧ (W1.cell? ⟨p.gq, j, none⟩ = some (.int .u16 ((qs[j]?.getD 0 : Nat) : Int)) ∧ W1.frozen? ⟨p.gq, j, none⟩ = false) ∧
  DvI p w j zs' (qs.set j (Lb.val zs / (65536 ^ j * p.V))) (W1.setCell ⟨p.gq, j, none⟩ (.int .u16 ((Lb.val zs / (65536 ^ j * p.V) : Nat) : Int))) := by
 have a1 := h3.blk h.q4 (h.ru.ne h.q4 (by decide))
 have a2 := h3.blk h.n (h.ru.ne h.n (by decide))
 have a3 := h3.blk h.u (h.ru.ne h.u (by decide))
 have a4 := h3.blk h.v (h.ru.ne h.v (by decide))
 have rv := h.rv.only h3 (Ne.symm g.uv)
 have rq := h.rq.only h3 (Ne.symm g.uq)
 have d1 := rq.ne a1 (by decide)
 have d2 := rq.ne a2 (by decide)
 have d3 := rq.ne a3 (by decide)
 have d4 := rq.ne a4 (by decide)
 have hV : 0 < 65536 ^ j * p.V := by
  rcases Nat.eq_zero_or_pos p.V with h0 | h0
  ·have := h.lt; rw [h0] at this; omega
  ·exact Nat.mul_pos (Nat.pow_pos (by omega)) h0
 have hd : Lb.val zs / (65536 ^ j * p.V) < 65536 := (Nat.div_lt_iff_lt_mul hV).2 (by have := h.lt; rw [Nat.pow_succ] at this; rw [← Nat.mul_assoc, Nat.mul_comm 65536]; exact this)
 refine ⟨⟨a1.one, a2.one, a3.one, a4.one⟩, fun v => ⟨(a1.far (p := ⟨p.gq, j, none⟩) d1 v).one, (a2.far (p := ⟨p.gq, j, none⟩) d2 v).one, (a3.far (p := ⟨p.gq, j, none⟩) d3 v).one, (a4.far (p := ⟨p.gq, j, none⟩) d4 v).one⟩, rq.cell j hj,
  ⟨a1.far (p := ⟨p.gq, j, none⟩) d1 _, a2.far (p := ⟨p.gq, j, none⟩) d2 _, a3.far (p := ⟨p.gq, j, none⟩) d3 _, a4.far (p := ⟨p.gq, j, none⟩) d4 _, h1.far g.uq _ _, rv.far g.vq _ _, rq.set _ _ hd,
   (h3.below h.below h.ru.ge.1 (by have := h.ru.ge; omega)).setCell rq.ge.1 _, by rw [h2]; exact Nat.mod_lt _ hV, ?_⟩⟩
 rw [h2]
 exact Lb.div_step (by have := rq.len; omega) h.sum
theorem DvI.downK {p : DvP} {w W W' : World} {j : Nat} {zs qs : List Nat} (h : DvI p w j zs qs W') (hbox : W'.cell? ⟨p.S, 0, none⟩ = W.cell? ⟨p.S, 0, none⟩) : DownK p.S (some ⟨p.gq, 0, none⟩) (p.q + 1) (p.q + 1) W W' := fun ⟨h1, _⟩ =>
 ⟨hbox.trans h1, fun _ => by
  obtain ⟨ad, e, hx⟩ := h.rq.r16.some (by omega)
  exact ⟨ad, e, fun k hk => ⟨_, hx k hk⟩⟩⟩
end Go.Proofs.YtjbcalbbhomkjaaGreat
