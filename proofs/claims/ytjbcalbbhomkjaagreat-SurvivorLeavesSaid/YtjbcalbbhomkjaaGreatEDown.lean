import Derived.Test.YtjbcalbbhomkjaaGreatERf
namespace Go.Proofs.YtjbcalbbhomkjaaGreat
open Go.RowKit Go.Shelf
attribute [local go_sem] Oper.semAt_some
theorem down_any (A : Option Addr) (n c : Nat) (w : World) :
  Calls Tryz.prog 120 #[.slice A n c] w fun e w' => e = .returned (.func (.func 149) #[] #[.pointer (some ⟨w.heap.size, 0, none⟩)]) ∧ w.alloc (.cells #[.slice A n c] 33) = w' := by
 go_enter Tryz.func120, Tryz.ntmps120
 go_wp2
 go_ret
 exact ⟨rfl, rfl⟩
def DownOk (Bs : Nat) (A : Option Addr) (n c : Nat) (W : World) : Prop :=
 W.cell? ⟨Bs, 0, none⟩ = some (.slice A n c) ∧ (0 < n → ∃ ad, A = some ad ∧ ∀ j, j < n → ∃ x : Int, W.cell? (ad.add j) = some (.int .u16 x))
def DownK (Bs : Nat) (A : Option Addr) (n c : Nat) (W W' : World) : Prop := DownOk Bs A n c W → DownOk Bs A n c W'
def DownMore (A : Option Addr) (n : Nat) (k : Nat) (W W' : World) (args : Array Value) : Prop :=
 W = W' ∧ ∃ j, j + k + 1 = n ∧ ∃ ad, A = some ad ∧ ∃ x : Int, W.cell? (ad.add j) = some (.int .u16 x) ∧ args = #[.int .i64 (j : Int), .int .u16 x]
def DownFin (n : Nat) (k : Nat) (W W' : World) : Prop := k = n ∧ W = W'
set_option maxRecDepth 100000 in
set_option maxHeartbeats 1000000 in
theorem down1_in (Bs n c : Nat) (A : Option Addr) (hn : n ≤ 9223372036854775807) (l : Nat) (J : Nat → World → Prop) (Jx : World → Prop) (W0 : World) (h0 : J 0 W0) (hok : DownOk Bs A n c W0)
  (hY : ∀ k W W' args, J k W → DownMore A n k W W' args → YieldAt Fence.wide 9 Tryz.prog l args W' fun e W'' =>
   (e = .returned (.bool true) ∧ J (k + 1) W'' ∧ DownK Bs A n c W' W'') ∨ (e = .returned (.bool false) ∧ Jx W'')) :
  CallsIn Fence.wide 3 Tryz.prog 149 (#[.func (.yield l) #[] #[]] ++ #[.pointer (some ⟨Bs, 0, none⟩)]) W0 fun e W' => (∃ v, e = .returned v) ∧ ((∃ k W, J k W ∧ DownFin n k W W') ∨ Jx W') := by
 refine callsIn_of_wp Tryz.func149 rfl trivial ?_ rfl
 simp only [Tryz.ntmps149, List.size_toArray, List.length_cons, List.length_nil, Nat.reduceAdd, Nat.reduceSub, Array.replicate_succ, Array.replicate_zero, List.push_toArray, List.append_toArray, List.nil_append, List.cons_append]
 have hbox := hok.1
 gi_wp2
 clear hbox
 gi_loopw [3] (fun i wr => ∃ k j : Nat, j + k = n ∧ i = .int .i64 ((j : Int) - 1) ∧ J k wr ∧ DownOk Bs A n c wr)
  (fun i _ => (intOf i + 1).toNat)
 case atStart => exact ⟨0, n, by omega, rfl, h0, hok⟩
 case round =>
  obtain ⟨k, j, hjk, rfl, hJ, hok⟩ := hrel
  cases j with
  | zero =>
   have hkn : k = n := by omega
   have HK := Lib.hid hkn
   clear hkn hjk hok
   gi_wp2
   go_end0
   exact ⟨⟨_, rfl⟩, .inl ⟨k, _, hJ, HK.out, rfl⟩⟩
  | succ j =>
   obtain ⟨ad, rfl, hcs⟩ := hok.2 (by omega)
   obtain ⟨x, hx⟩ := hcs j (by omega)
   have hbox := hok.1
   have HJK : Hid (j + 1 + k = n) := hjk
   have hjn : j < n := by omega
   obtain ⟨fn, tmps, assign, body, hy, hR⟩ := hY k wr wr #[.int .i64 (j : Int), .int .u16 x] hJ ⟨rfl, j, by omega, ad, rfl, x, hx, rfl⟩
   have e1 : ((j + 1 : Nat) : Int) - 1 = (j : Int) := by omega
   rw [e1]
   have HOK := hide hok
   clear hok hcs hjk e1
   gi_wp2
   refine RoundIn.mono (R := _) ⟨hR.1, fun c cs _ => hR.2 c cs (room_wide _)⟩ ?_
   rintro e W3 (⟨rfl, hJ3, hk3⟩ | ⟨rfl, hJx3⟩)
   ·have hok3 := hk3 HOK.out
    have hbox3 := hok3.1
    gi_wp2
    go_roundw
    case rel => exact ⟨k + 1, j, by have := HJK.out; omega, rfl, hJ3, hok3⟩
    case measure => simp [intOf]
   ·gi_wp2
    refine bodyPost_ret (results_none rfl _ _ _) rfl ?_
    exact ⟨⟨_, rfl⟩, .inr hJx3⟩
theorem down_iter (Bs n c : Nat) (A : Option Addr) (w : World) (hn : n ≤ 9223372036854775807) (hkeep : ∀ W, Below w.heap.size w W → DownOk Bs A n c W) :
  Iter Tryz.prog 149 #[.pointer (some ⟨Bs, 0, none⟩)] (DownK Bs A n c) (DownMore A n) (DownFin n) w := fun l J Jx W0 hb hY h0 =>
 callsIn_any (down1_in Bs n c A hn l J Jx W0 h0 (hkeep W0 hb) hY)
theorem DownK.trans {Bs n c : Nat} {A : Option Addr} {X Y Z : World} (h : DownK Bs A n c X Y) (k : DownK Bs A n c Y Z) : DownK Bs A n c X Z := fun x => k (h x)
theorem DownOk.sim {Bs n c B : Nat} {A : Option Addr} {X Y : World} (h : DownOk Bs A n c X) (k : Sim B X Y) : DownOk Bs A n c Y :=
 ⟨k.cell h.1, fun hn => by
  obtain ⟨ad, e, hx⟩ := h.2 hn
  refine ⟨ad, e, fun j hj => ?_⟩
  obtain ⟨x, hc⟩ := hx j hj
  exact ⟨x, k.cell hc⟩⟩
theorem DownK.sim {Bs n c B : Nat} {A : Option Addr} {X Y : World} (k : Sim B X Y) : DownK Bs A n c X Y := fun h => h.sim k
theorem downK_of {Bs n c : Nat} {A : Option Addr} {w W W' : World} {xs : List Nat} (h : R16 w A n c xs) (hb : Below w.heap.size W W') (hbox : W'.cell? ⟨Bs, 0, none⟩ = W.cell? ⟨Bs, 0, none⟩) : DownK Bs A n c W W' := fun ⟨h1, h2⟩ =>
 ⟨hbox.trans h1, fun hn => by
  obtain ⟨ad, e, hx⟩ := h2 hn
  refine ⟨ad, e, fun j hj => ?_⟩
  obtain ⟨x, hc⟩ := hx j hj
  obtain ⟨ad', e', hx'⟩ := h.some hn
  rw [e] at e'; cases e'
  exact ⟨x, (hb.cell (block_lt_of_cell (hx' j hj))).trans hc⟩⟩
end Go.Proofs.YtjbcalbbhomkjaaGreat
