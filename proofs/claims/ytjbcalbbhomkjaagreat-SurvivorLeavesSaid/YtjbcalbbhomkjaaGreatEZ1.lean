import Derived.Test.YtjbcalbbhomkjaaGreatEFr4
set_option maxRecDepth 20000
set_option maxHeartbeats 2000000
namespace Go.Proofs.YtjbcalbbhomkjaaGreat
open Go.RowKit
structure Fr where
 A : Option Addr
 c : Nat
 A' : Option Addr
 c' : Nat
 q : Rat
instance : Inhabited Fr := ⟨⟨none, 0, none, 0, 0⟩⟩
abbrev Fr.cells (x : Fr) : List Value := [.bool (Q.neg x.q), .slice x.A (Lb.limbs (Q.m x.q)).length x.c, .bool false, .slice x.A' (Lb.limbs x.q.den).length x.c']
abbrev Fr.cs (x : Fr) : Array Value := #[.bool (Q.neg x.q), .slice x.A (Lb.limbs (Q.m x.q)).length x.c, .bool false, .slice x.A' (Lb.limbs x.q.den).length x.c']
abbrev Fr.v (x : Fr) : Value := .agg #[.bool (Q.neg x.q), .slice x.A (Lb.limbs (Q.m x.q)).length x.c, .bool false, .slice x.A' (Lb.limbs x.q.den).length x.c']
structure Fr.ok (W : World) (x : Fr) : Prop where
 n : R16 W x.A (Lb.limbs (Q.m x.q)).length x.c (Lb.limbs (Q.m x.q))
 d : R16 W x.A' (Lb.limbs x.q.den).length x.c' (Lb.limbs x.q.den)
theorem V.Stb.fr {x : Fr} : V.Stb fun W => Fr.ok W x := fun _ _ h hE => ⟨h.n.below hE (Nat.le_refl _), h.d.below hE (Nat.le_refl _)⟩
theorem Fr.ok.below {w w' : World} {x : Fr} (h : Fr.ok w x) (hb : Below w.heap.size w w') : Fr.ok w' x := V.Stb.fr _ _ h hb
def FrOut (w : World) (q : Rat) (e : Ending) (w' : World) : Prop := ∃ z : Fr, e = .returned (.agg #[.bool (Q.neg z.q), .slice z.A (Lb.limbs (Q.m z.q)).length z.c, .bool false, .slice z.A' (Lb.limbs z.q.den).length z.c']) ∧ Fr.ok w' z ∧ z.q = q ∧ Below w.heap.size w w'
def FrOutT (w : World) (q : Rat) (e : Ending) (w' : World) : Prop := ∃ z : Fr, e = .returned (.tuple #[.agg #[.bool (Q.neg z.q), .slice z.A (Lb.limbs (Q.m z.q)).length z.c, .bool false, .slice z.A' (Lb.limbs z.q.den).length z.c'], .int .i64 0]) ∧ Fr.ok w' z ∧ z.q = q ∧ Below w.heap.size w w'
theorem FrOut.of {w w' : World} {q : Rat} {e : Ending} (h : RetF w (Q.neg q) (Q.m q) q.den e w') : FrOut w q e w' := by
 obtain ⟨A, c, A', c', rfl, h1, h2, _, _, hb⟩ := h
 exact ⟨⟨A, c, A', c', q⟩, rfl, ⟨h1, h2⟩, rfl, hb⟩
theorem FrOutT.of {w w' : World} {q : Rat} {e : Ending} (h : TupF w (Q.neg q) (Q.m q) q.den e w') : FrOutT w q e w' := by
 obtain ⟨A, c, A', c', rfl, h1, h2, _, _, hb⟩ := h
 exact ⟨⟨A, c, A', c', q⟩, rfl, ⟨h1, h2⟩, rfl, hb⟩
structure Cl where
 id : Int
 w : Fr
 cap : Int
instance : Inhabited Cl := ⟨⟨0, default, 0⟩⟩
abbrev Cl.cells (x : Cl) : List Value := [.int .i64 x.id, .bool (Q.neg x.w.q), .slice x.w.A (Lb.limbs (Q.m x.w.q)).length x.w.c, .bool false, .slice x.w.A' (Lb.limbs x.w.q.den).length x.w.c', .int .i64 x.cap]
abbrev Cl.v (x : Cl) : Value := .agg #[.int .i64 x.id, .bool (Q.neg x.w.q), .slice x.w.A (Lb.limbs (Q.m x.w.q)).length x.w.c, .bool false, .slice x.w.A' (Lb.limbs x.w.q.den).length x.w.c', .int .i64 x.cap]
structure It where
 c : Cl
 at_ : Int
instance : Inhabited It := ⟨⟨default, 0⟩⟩
abbrev It.cells (x : It) : List Value := [.int .i64 x.c.id, .bool (Q.neg x.c.w.q), .slice x.c.w.A (Lb.limbs (Q.m x.c.w.q)).length x.c.w.c, .bool false, .slice x.c.w.A' (Lb.limbs x.c.w.q.den).length x.c.w.c', .int .i64 x.c.cap, .int .i64 x.at_]
instance {x : Fr} : V.StC (fun W => Fr.ok W x) := ⟨V.Stb.fr⟩
instance {w : World} {x : Fr} : V.Ab w (Fr.ok w x) (fun W => Fr.ok W x) := .mk' V.Stb.fr
abbrev It.v (x : It) : Value := .agg #[.int .i64 x.c.id, .bool (Q.neg x.c.w.q), .slice x.c.w.A (Lb.limbs (Q.m x.c.w.q)).length x.c.w.c, .bool false, .slice x.c.w.A' (Lb.limbs x.c.w.q.den).length x.c.w.c', .int .i64 x.c.cap, .int .i64 x.at_]
def adr (A : Option Addr) : Addr := A.getD ⟨0, 0, none⟩
structure Ls (W : World) (sz : Nat) (A : Option Addr) (n c : Nat) (xs : List (List Value)) : Prop where
 len : xs.length = n
 cap : n ≤ c
 max : c ≤ 9223372036854775807
 adr : 0 < n → A = some (adr A)
 blt : 0 < n → (Go.Proofs.YtjbcalbbhomkjaaGreat.adr A).block < W.heap.size
 cell : ∀ (i : Nat) (x : List Value) (j : Nat) (u : Value), xs[i]? = some x → x[j]? = some u → W.cell? ((Go.Proofs.YtjbcalbbhomkjaaGreat.adr A).add (i * sz + j)) = some u
theorem V.Stb.ls {sz n c : Nat} {A : Option Addr} {xs : List (List Value)} : V.Stb fun W => Ls W sz A n c xs := fun W W' h hE =>
 ⟨h.len, h.cap, h.max, h.adr, fun hn => Nat.lt_of_lt_of_le (h.blt hn) hE.size, fun i x j u hx hu => (hE.cell (block_lt_of_cell (h.cell i x j u hx hu))).trans (h.cell i x j u hx hu)⟩
instance {sz n c : Nat} {A : Option Addr} {xs : List (List Value)} : V.StC (fun W => Ls W sz A n c xs) := ⟨V.Stb.ls⟩
instance {w : World} {sz n c : Nat} {A : Option Addr} {xs : List (List Value)} : V.Ab w (Ls w sz A n c xs) (fun W => Ls W sz A n c xs) := .mk' V.Stb.ls
theorem Ls.below {w w' : World} {sz n c : Nat} {A : Option Addr} {xs : List (List Value)} (h : Ls w sz A n c xs) (hb : Below w.heap.size w w') : Ls w' sz A n c xs := V.Stb.ls _ _ h hb
theorem Ls.lt {W : World} {sz n c i : Nat} {A : Option Addr} {xs : List (List Value)} {x : List Value} (h : Ls W sz A n c xs) (hx : xs[i]? = some x) : i < n := by
 rw [← h.len]; exact (List.getElem?_eq_some_iff.1 hx).1
theorem Ls.nil {W : World} {sz c : Nat} {A : Option Addr} (hc : c ≤ 9223372036854775807) : Ls W sz A 0 c [] := ⟨rfl, by omega, hc, by omega, by omega, fun i x j u h => by simp at h⟩
namespace V
section rows
variable {P : Program} {W : World} {ρ : Operand → Value} {d : Option Tmp} {ty : TypeId} {pos : String} {af : Array Edge} {gd : Option (Nat × Bool)}
theorem xi {sz n c i : Nat} {A : Option Addr} {xs : List (List Value)} {a : List Value} {t e : TypeId} {x y : Operand} (h : Ls W sz A n c xs) (hi : xs[i]? = some a) (hx : ρ x = .slice A n c) (hy : ρ y = .int .i64 (i : Int))
  (hu : P.underlying t = some (.slice e) := by rfl) (hs : (sizeOf e).run P W = .ok sz W := by kernel_rfl) : (execOp ρ ⟨d, .indexAddr t x y, ty, pos, af, gd⟩).run P W = .ok (.value (.pointer (some ((adr A).add (i * sz + 0))))) W := by
 have hlt := h.lt hi
 have hA := h.adr (by omega)
 refine x_indexAddr hx hy ?_
 rw [hA]
 have he : P.elem t = e := by simp [Program.elem, hu]
 rw [run_indexAt_slice (h := by rw [he]; exact hu), if_pos ⟨by omega, by omega⟩, he, hs]
 rfl
theorem x_fieldP {t : TypeId} {x : Operand} {i j k : Nat} {p : Addr} (hx : ρ x = .pointer (some (p.add j))) (h : ∀ q : Addr, (Instr.fieldAt t (.pointer (some q)) i).run P W = .ok (.pointer (some (q.add k))) W) : (execOp ρ ⟨d, .fieldAddr t x i, ty, pos, af, gd⟩).run P W = .ok (.value (.pointer (some (p.add (j + k))))) W := by
 refine xa hx ?_
 rw [h, add_of_add]
theorem ld_at {a : Addr} {t : TypeId} {dd : TypeDesc} {cs : List Value} (hc : ∀ j v, cs[j]? = some v → W.cell? (a.add j) = some v) (hu : P.underlying t = some dd) (hd : dd.isRow = true) (hi : (P.info? t).map (·.size) = some cs.length) : (loadVar t a).run P W = .ok (.agg cs.toArray) W := by
 have hl : (loadCells a cs.length).run P W = .ok cs.toArray W := run_loadCells_list (P := P) W a cs hc
 cases hq : P.info? t with
 | none => simp [hq] at hi
 | some i =>
  have hs : i.size = cs.length := by simpa [hq] using hi
  have hagg : (isAgg t).run P W = .ok true W := by
   unfold isAgg
   rw [Sem.run_bind, run_underlying hu W]
   cases dd <;> simp_all
  simp [loadVar, Sem.run_bind, hagg, sizeOf, typeInfo, hq, hs, hl]
theorem ld_ls {sz n c i o : Nat} {A : Option Addr} {xs : List (List Value)} {a cs : List Value} {t : TypeId} {dd : TypeDesc} (h : Ls W sz A n c xs) (hi : xs[i]? = some a) (hcs : ∀ j, j < cs.length → a[o + j]? = cs[j]?)
  (hu : P.underlying t = some dd) (hd : dd.isRow = true) (hz : (P.info? t).map (·.size) = some cs.length) : (loadVar t ((adr A).add (i * sz + o))).run P W = .ok (.agg cs.toArray) W :=
 ld_at (fun j v hv => by
  have hj : j < cs.length := (List.getElem?_eq_some_iff.1 hv).1
  rw [add_of_add, Nat.add_assoc]
  exact h.cell i a (o + j) v hi ((hcs j hj).trans hv)) hu hd hz
theorem ld_lsE {sz n c i o : Nat} {A : Option Addr} {xs : List (List Value)} {a : List Value} {cs : List Value} {t : TypeId} {dd : TypeDesc} (h : Ls W sz A n c xs) (hi : xs[i]? = some a) (hu : P.underlying t = some dd) (hcs : (a.drop o).take cs.length = cs := by rfl)
  (hd : dd.isRow = true := by rfl) (hz : (P.info? t).map (·.size) = some cs.length := by kernel_rfl) : (loadVar t ((adr A).add (i * sz + o))).run P W = .ok (.agg cs.toArray) W :=
 ld_ls h hi (fun j hj => by
  have := congrArg (·[j]?) hcs
  simpa [List.getElem?_take_of_lt hj, List.getElem?_drop] using this) hu hd hz
theorem ld_ls1 {sz n c i o : Nat} {A : Option Addr} {xs : List (List Value)} {a : List Value} {v : Value} {t : TypeId} (h : Ls W sz A n c xs) (hi : xs[i]? = some a) (hv : a[o]? = some v)
  (hs : ∀ p : Addr, (loadVar t p).run P W = (load p).run P W := by exact fun _ => by kernel_rfl) : (loadVar t ((adr A).add (i * sz + o))).run P W = .ok v W := by
 rw [hs, run_load, h.cell i a o v hi hv]
end rows
end V
structure Own (W : World) (g : Nat) (T : TypeId) (k : Nat) (xs : List (List Value)) (rest : List Value) : Prop where
 blk : Blk W g T (xs.flatten ++ rest).toArray
 sz : ∀ x ∈ xs, x.length = k
theorem V.Stb.own {g k : Nat} {T : TypeId} {xs : List (List Value)} {rest : List Value} : V.Stb fun W => Own W g T k xs rest := fun _ _ h hE => ⟨V.Stb.blk _ _ h.blk hE, h.sz⟩
instance {g k : Nat} {T : TypeId} {xs : List (List Value)} {rest : List Value} : V.StC (fun W => Own W g T k xs rest) := ⟨V.Stb.own⟩
instance {w : World} {g k : Nat} {T : TypeId} {xs : List (List Value)} {rest : List Value} : V.Ab w (Own w g T k xs rest) (fun W => Own W g T k xs rest) := .mk' V.Stb.own
theorem flatten_at {k : Nat} : ∀ {xs : List (List Value)} {i j : Nat} {x : List Value} {u : Value} {rest : List Value}, (∀ x ∈ xs, x.length = k) → xs[i]? = some x → x[j]? = some u → (xs.flatten ++ rest)[i * k + j]? = some u
 | [], _, _, _, _, _, _, h, _ => by simp at h
 | y :: ys, 0, j, x, u, rest, hk, h, hu => by
  have : y = x := by simpa using h
  subst this
  have hj := (List.getElem?_eq_some_iff.1 hu).1
  rw [List.flatten_cons, List.append_assoc, Nat.zero_mul, Nat.zero_add, List.getElem?_append_left hj]; exact hu
 | y :: ys, i + 1, j, x, u, rest, hk, h, hu => by
  have hy : y.length = k := hk y (by simp)
  have := flatten_at (rest := rest) (fun z hz => hk z (by simp [hz])) (by simpa using h : ys[i]? = some x) hu
  rw [List.flatten_cons, List.append_assoc, List.getElem?_append_right (by rw [hy]; rw [Nat.add_mul]; omega)]
  rw [hy, show (i + 1) * k + j - k = i * k + j by rw [Nat.add_mul]; omega]
  exact this
theorem Own.ls {W : World} {g k c : Nat} {T : TypeId} {xs : List (List Value)} {rest : List Value} (h : Own W g T k xs rest) (hc : xs.length ≤ c) (hm : c ≤ 9223372036854775807) : Ls W k (some ⟨g, 0, none⟩) xs.length c xs :=
 ⟨rfl, hc, hm, fun _ => rfl, fun _ => h.blk.lt, fun i x j u hx hu => by
  show W.cell? ((⟨g, 0, none⟩ : Addr).add _) = _
  rw [Addr.add_mid, Nat.zero_add, h.blk.cell]
  simpa using flatten_at h.sz hx hu⟩
def setMany (cs : Array Value) (o : Nat) : List Value → Array Value
 | [] => cs
 | v :: r => setMany (cs.setIfInBounds o v) (o + 1) r
theorem setRow_setRow (W : World) (g : Nat) (a b : Array Value) : (W.setRow g a).setRow g b = W.setRow g b := by
 unfold World.setRow
 congr 1
 apply Array.ext
 ·simp
 ·intro i h1 h2
  simp only [Array.getElem_modify]
  by_cases hi : g = i
  ·subst hi
   simp only [if_true]
   cases W.heap[g]'(by simpa using h1) <;> rfl
  ·simp [hi]
theorem setRow_same {W : World} {g : Nat} {T : TypeId} {cs : Array Value} (h : Blk W g T cs) : W.setRow g cs = W := by
 have hlt := h.lt
 unfold Blk at h
 have e : (W.setRow g cs).heap = W.heap := by
  unfold World.setRow
  apply Array.ext
  ·simp
  ·intro i h1 h2
   simp only [Array.getElem_modify]
   by_cases hi : g = i
   ·subst hi
    rw [Array.getElem?_eq_getElem hlt] at h
    rw [Option.some.inj h]
    simp
   ·simp [hi]
 have e2 : W.setRow g cs = { W with heap := (W.setRow g cs).heap } := rfl
 rw [e2, e]
theorem setCells_row {T : TypeId} {g : Nat} : ∀ (vs : List Value) (W : World) (cs : Array Value) (o : Nat), Blk W g T cs → W.setCells g o vs = W.setRow g (setMany cs o vs)
 | [], W, cs, o, h => by rw [World.setCells, setMany, setRow_same h]
 | v :: r, W, cs, o, h => by
  have h' := h.set_ o v
  rw [World.setCells, setCells_row r _ _ _ h', setMany]
  have e : W.setCell ⟨g, o, none⟩ v = W.setRow g (cs.setIfInBounds o v) := setCell_eq_setRow W g o cs T (0, 0) v h
  rw [e, setRow_setRow]
theorem setMany_get : ∀ (vs : List Value) (cs : Array Value) (o j : Nat), o + vs.length ≤ cs.size → (setMany cs o vs)[j]? = if o ≤ j ∧ j < o + vs.length then vs[j - o]? else cs[j]?
 | [], cs, o, j, h => by rw [setMany, if_neg (by simp only [List.length_nil]; omega)]
 | v :: r, cs, o, j, h => by
  simp at h
  rw [setMany, setMany_get r _ _ _ (by simp; omega)]
  by_cases h1 : o = j
  ·subst h1
   rw [if_neg (by omega), if_pos (by simp), Array.getElem?_setIfInBounds]
   first | (rw [if_pos rfl, if_pos (by omega)]; done) | (rw [if_pos rfl, if_pos (by omega)]; simp)
  ·by_cases h2 : o + 1 ≤ j ∧ j < o + 1 + r.length
   ·rw [if_pos h2, if_pos (by simp; omega), show j - o = (j - (o + 1)) + 1 by omega]; simp
   ·rw [if_neg h2, if_neg (by simp; omega), Array.getElem?_setIfInBounds]; simp [h1]
theorem flatten_set {k : Nat} : ∀ {xs : List (List Value)} {i : Nat} {x : List Value}, (∀ x ∈ xs, x.length = k) → i < xs.length → x.length = k → ∀ (j : Nat) (rest : List Value), ((xs.set i x).flatten ++ rest)[j]? = if i * k ≤ j ∧ j < i * k + k then x[j - i * k]? else (xs.flatten ++ rest)[j]?
 | [], i, x, _, h, _, _, _ => by simp at h
 | y :: ys, 0, x, hk, _, hx, j, rest => by
  have hy : y.length = k := hk y (by simp)
  simp only [List.set_cons_zero, List.flatten_cons, List.append_assoc, Nat.zero_mul, Nat.zero_le, true_and, Nat.zero_add, Nat.sub_zero]
  split
  ·rw [List.getElem?_append_left (by omega)]
  ·rw [List.getElem?_append_right (l₁ := x) (by omega), List.getElem?_append_right (l₁ := y) (by omega), hx, hy]
 | y :: ys, i + 1, x, hk, h, hx, j, rest => by
  have hy : y.length = k := hk y (by simp)
  have ih := flatten_set (fun z hz => hk z (by simp [hz])) (by simpa using h : i < ys.length) hx
  simp only [List.set_cons_succ, List.flatten_cons, List.append_assoc]
  have e1 : (i + 1) * k = i * k + k := by rw [Nat.add_mul]; omega
  rcases Nat.lt_or_ge j k with hj | hj
  ·rw [List.getElem?_append_left (by omega), if_neg (by rw [e1]; omega), List.getElem?_append_left (by omega)]
  ·rw [List.getElem?_append_right (by omega), hy, ih, List.getElem?_append_right (l₁ := y) (by omega), hy, e1]
   by_cases hc : i * k ≤ j - k ∧ j - k < i * k + k
   ·rw [if_pos hc, if_pos (by omega), show j - (i * k + k) = j - k - i * k by omega]
   ·rw [if_neg hc, if_neg (by omega)]
theorem flatten_length {k : Nat} : ∀ {xs : List (List Value)}, (∀ x ∈ xs, x.length = k) → xs.flatten.length = xs.length * k
 | [], _ => by simp
 | y :: ys, hk => by
  have hy : y.length = k := hk y (by simp)
  rw [List.flatten_cons, List.length_append, flatten_length (fun z hz => hk z (by simp [hz])), hy, List.length_cons, Nat.add_mul]; omega
theorem setMany_flatten {k : Nat} {xs : List (List Value)} {i : Nat} {x : List Value} {rest : List Value} (hk : ∀ x ∈ xs, x.length = k) (hi : i < xs.length) (hx : x.length = k) : setMany (xs.flatten ++ rest).toArray (i * k) x = ((xs.set i x).flatten ++ rest).toArray := by
 have hl := flatten_length hk
 have hb : i * k + k ≤ xs.length * k := by
  have := Nat.mul_le_mul_right k (show i + 1 ≤ xs.length from hi)
  rwa [Nat.add_mul, Nat.one_mul] at this
 apply Array.ext_getElem?
 intro j
 rw [setMany_get _ _ _ _ (by simp [hl, hx]; omega), hx]
 have := flatten_set hk hi hx j rest
 simp only [List.getElem?_toArray]
 rw [this]
theorem Own.set {W : World} {g k i : Nat} {T : TypeId} {xs : List (List Value)} {rest x : List Value} (h : Own W g T k xs rest) (hx : x.length = k) : Own (W.setRow g ((xs.set i x).flatten ++ rest).toArray) g T k (xs.set i x) rest :=
 ⟨V.blk_same h.blk, fun y hy => (by
  rcases List.mem_or_eq_of_mem_set hy with hy | rfl
  ·exact h.sz y hy
  ·exact hx)⟩
namespace V
theorem st_own {P : Program} {W : World} {g k i : Nat} {T ty : TypeId} {xs : List (List Value)} {rest x : List Value} (h : Own W g T k xs rest) (hi : i < xs.length) (hx : x.length = k) (hz : (P.info? ty).map (·.size) = some x.length) (h1 : x.toArray.all (·.oneCell') = true) :
  (storeVar ty ((adr (some ⟨g, 0, none⟩)).add (i * k + 0)) (.agg x.toArray)).run P W = .ok () (W.setRow g ((xs.set i x).flatten ++ rest).toArray) := by
 have hl := flatten_length h.sz
 have hb : i * k + k ≤ xs.length * k := by
  have := Nat.mul_le_mul_right k (show i + 1 ≤ xs.length from hi)
  rwa [Nat.add_mul, Nat.one_mul] at this
 have e : (adr (some ⟨g, 0, none⟩)).add (i * k + 0) = ⟨g, i * k, none⟩ := by
  show (⟨g, 0, none⟩ : Addr).add _ = _
  rw [Addr.add_mid]; simp
 rw [e, run_storeVar_mid W g (i * k) ty x.toArray (fun j hj => ⟨?_, h.blk.frozen _⟩) (by simpa using hz) h1]
 ·rw [setCells_row _ _ _ _ h.blk, List.toList_toArray, setMany_flatten h.sz hi hx]
 ·simp at hj
  rw [h.blk.cell, List.getElem?_toArray, List.getElem?_append_left (by omega), List.getElem?_eq_getElem (by omega)]; rfl
theorem st_own1 {P : Program} {W : World} {g i : Nat} {T ty : TypeId} {xs : List (List Value)} {rest : List Value} {v : Value} (h : Own W g T 1 xs rest) (hi : i < xs.length) (hs : ∀ p : Addr, (storeVar ty p v).run P W = (store p v).run P W) (h1 : v.oneCell' = true) :
  (storeVar ty ((adr (some ⟨g, 0, none⟩)).add (i * 1 + 0)) v).run P W = .ok () (W.setRow g ((xs.set i [v]).flatten ++ rest).toArray) := by
 have hl := flatten_length h.sz
 have e : (adr (some ⟨g, 0, none⟩)).add (i * 1 + 0) = ⟨g, i, none⟩ := by
  show (⟨g, 0, none⟩ : Addr).add _ = _
  rw [Addr.add_mid]; simp
 have hlt : i < (xs.flatten ++ rest).length := by rw [List.length_append, hl]; omega
 have hc : W.cell? ⟨g, i, none⟩ = some ((xs.flatten ++ rest)[i]'hlt) := by
  rw [h.blk.cell, List.getElem?_toArray, List.getElem?_eq_getElem hlt]
 rw [e, hs, run_store P W _ v _ h1, hc]
 simp only [h.blk.frozen i, Bool.false_eq_true, if_false]
 rw [setCell_eq_setRow W g i _ T (0, 0) _ h.blk]
 have := setMany_flatten (rest := rest) (x := [v]) h.sz hi rfl
 rw [setMany, setMany, Nat.mul_one] at this
 rw [this]
end V
theorem Ls.far {W : World} {sz n c g : Nat} {A : Option Addr} {xs : List (List Value)} (h : Ls W sz A n c xs) (hne : 0 < n → (Go.Proofs.YtjbcalbbhomkjaaGreat.adr A).block ≠ g) (cs : Array Value) : Ls (W.setRow g cs) sz A n c xs :=
 ⟨h.len, h.cap, h.max, h.adr, fun hn => (by rw [V.setRow_size]; exact h.blt hn), fun i x j u hx hu => V.cell_far (h.cell i x j u hx hu) (by
  rw [block_of_add]; exact hne (by have := h.lt hx; omega))⟩
theorem Fr.ok.far {W : World} {x : Fr} {g : Nat} {t : TypeId} {cs cs' : Array Value} (h : Fr.ok W x) (hb : Blk W g t cs) (hc : cs.all noLimb = true) : Fr.ok (W.setRow g cs') x := ⟨V.r16_far h.n hb hc, V.r16_far h.d hb hc⟩
theorem Own.far {W : World} {g g' k : Nat} {T : TypeId} {xs : List (List Value)} {rest : List Value} {cs : Array Value} (h : Own W g T k xs rest) (hne : g ≠ g') : Own (W.setRow g' cs) g T k xs rest := ⟨V.blk_far h.blk hne, h.sz⟩
theorem V.Sd.fr {W W2 : World} {x : Fr} {g : Nat} {t : TypeId} {cs cs' : Array Value} (hs : V.Sd W W2 g t cs cs') (h : Fr.ok W x) (hc : cs.all noLimb = true := by simp [noLimb]) : Fr.ok W2 x := by rw [hs.eq]; exact h.far hs.old hc
theorem V.Sd.ls {W W2 : World} {g : Nat} {t : TypeId} {cs cs' : Array Value} {sz n c : Nat} {A : Option Addr} {xs : List (List Value)} (hs : V.Sd W W2 g t cs cs') (h : Ls W sz A n c xs) (hne : 0 < n → (Go.Proofs.YtjbcalbbhomkjaaGreat.adr A).block ≠ g) : Ls W2 sz A n c xs := by rw [hs.eq]; exact h.far hne _
theorem V.Sd.own {W W2 : World} {g : Nat} {t : TypeId} {cs cs' : Array Value} {g' k : Nat} {T : TypeId} {xs : List (List Value)} {rest : List Value} (hs : V.Sd W W2 g t cs cs') (h : Own W g' T k xs rest) (hne : g' ≠ g) : Own W2 g' T k xs rest := by rw [hs.eq]; exact h.far hne
theorem nl_ints (l : List Int) (rest : List Value) (h : rest.all noLimb = true) : (((l.map fun z => [Value.int .i64 z]).flatten ++ rest).toArray).all noLimb = true := by
 rw [← Array.all_toList, List.toList_toArray, List.all_append, h, Bool.and_true]
 induction l with
 | nil => rfl
 | cons a l ih => rw [List.map_cons, List.flatten_cons, List.all_append, ih]; rfl
theorem nl_frs (l : List Fr) (rest : List Value) (h : rest.all noLimb = true) : (((l.map Fr.cells).flatten ++ rest).toArray).all noLimb = true := by
 rw [← Array.all_toList, List.toList_toArray, List.all_append, h, Bool.and_true]
 induction l with
 | nil => rfl
 | cons a l ih => rw [List.map_cons, List.flatten_cons, List.all_append, ih]; rfl
namespace V
theorem at_map {α : Type} [Inhabited α] {l : List α} (f : α → List Value) {i : Nat} (h : i < l.length) : ∃ x, x ∈ l ∧ l[i]? = some x ∧ (l.map f)[i]? = some (f x) := ⟨l[i], List.getElem_mem h, List.getElem?_eq_getElem h, by rw [List.getElem?_map, List.getElem?_eq_getElem h]; rfl⟩
theorem max_i (a b : Int) : (if b > a then b else a) = max a b := by omega
theorem min_i (a b : Int) : (if b < a then b else a) = min a b := by omega
section
variable {P : Program} {W : World} {ρ : Operand → Value} {d : Option Tmp} {ty : TypeId} {pos : String} {af : Array Edge} {gd : Option (Nat × Bool)}
theorem x_max {x y : Operand} {a b : Int} {ts : Array TypeId} (hx : ρ x = .int .i64 a) (hy : ρ y = .int .i64 b) : (execOp ρ ⟨d, .call { callee := .builtin .max, args := #[x, y], argTypes := ts }, ty, pos, af, gd⟩).run P W = .ok (.value (.int .i64 (max a b))) W := by
 simp only [execOp, resolve, invoke, Sem.run_bind, Sem.run_pure, Result.andThen_ok, List.map_toArray, List.map_cons, List.map_nil, hx, hy]
 show Sem.run P (do pure (Next.value (← Builtin.max_ ts ty #[.int .i64 a, .int .i64 b]))) W = _
 rw [Sem.run_bind, run_max_int2, max_i]
 simp
theorem x_min {x y : Operand} {a b : Int} {ts : Array TypeId} (hx : ρ x = .int .i64 a) (hy : ρ y = .int .i64 b) : (execOp ρ ⟨d, .call { callee := .builtin .min, args := #[x, y], argTypes := ts }, ty, pos, af, gd⟩).run P W = .ok (.value (.int .i64 (min a b))) W := by
 simp only [execOp, resolve, invoke, Sem.run_bind, Sem.run_pure, Result.andThen_ok, List.map_toArray, List.map_cons, List.map_nil, hx, hy]
 show Sem.run P (do pure (Next.value (← Builtin.min_ ts ty #[.int .i64 a, .int .i64 b]))) W = _
 rw [Sem.run_bind, run_min_int2, min_i]
 simp
theorem x_make {x : Operand} {t e : TypeId} {z : Value} {n k : Nat} (hx : ρ x = .int .i64 (n : Int)) (ht : P.underlying t = some (.slice e)) (hi0 : (P.info? e).map (fun i => (i.size, decide (i.bytes ≤ 1000), i.zero)) = some (k, true, some z)) (hn : n ≤ 100000) :
  (execOp ρ ⟨d, .makeSlice t x x, ty, pos, af, gd⟩).run P W = .ok (.value (.slice (some ⟨W.heap.size, 0, none⟩) n n)) (W.alloc (.cells (madeCells z.cells (n * k)) e)) := by
 obtain ⟨i, hi, hi1⟩ := Option.map_eq_some_iff.1 hi0
 obtain ⟨hs, hb, hz⟩ : i.size = k ∧ i.bytes ≤ 1000 ∧ i.zero = some z := by simpa using hi1
 subst hs
 have hb' : (i.bytes : Int) * (n : Int) ≤ 281474976710656 := by
  have h1 : i.bytes * n ≤ 1000 * 100000 := Nat.mul_le_mul hb hn
  have h2 : ((i.bytes * n : Nat) : Int) ≤ 281474976710656 := by omega
  rwa [Int.natCast_mul] at h2
 have := run_make (P := P) W t e i z ht hi hz .i64 .i64 (n : Int) (n : Int) (by omega) (Int.le_refl _) hb' (by omega)
 simp only [Int.toNat_natCast] at this
 simp [execOp, hx, this]
theorem x_makeFunc1 {x : Operand} {k : Nat} {v : Value} (hx : ρ x = v) : (execOp ρ ⟨d, .makeFunc (Fn.func k) #[] #[x], ty, pos, af, gd⟩).run P W = .ok (.value (.func (.func k) #[] #[v])) W := by
 simp [execOp, hx, Instr.makeFunc]
end
end V
end Go.Proofs.YtjbcalbbhomkjaaGreat
namespace Go.Proofs.YtjbcalbbhomkjaaGreat
open Go.RowKit
attribute [local irreducible] RI.frame RI.act RI.Ob RI.Tail RI.out V.Wp V.Fn Oper.wp
theorem en18 : En 18 := en_ Tryz.func18
theorem en19 : En 19 := en_ Tryz.func19
theorem en20 : En 20 := en_ Tryz.func20
theorem en28 : En 28 := en_ Tryz.func28
theorem en60 : En 60 := en_ Tryz.func60
theorem en77 : En 77 := en_ Tryz.func77
theorem en81 : En 81 := en_ Tryz.func81
theorem en101 : En 101 := en_ Tryz.func101
theorem en133 : En 133 := en_ Tryz.func133
theorem Add_s {x y : Fr} {w : World} (hx : Fr.ok w x) (hy : Fr.ok w y) (z1 : Q.Sz 256 x.q) (z2 : Q.Sz 256 y.q) (z3 : Q.Sz 256 (x.q + y.q)) :
    Calls Tryz.prog 60 #[x.v, y.v] w (FrOutT w (x.q + y.q)) := by
  skip
  exact Calls.mono (Add_q hx.n hx.d hy.n hy.d z1 z2 (by omega) (by omega) z3) fun _ _ h => FrOutT.of h
theorem Mul_s {x y : Fr} {w : World} (hx : Fr.ok w x) (hy : Fr.ok w y) (z1 : Q.Sz 256 x.q) (z2 : Q.Sz 256 y.q) (z3 : Q.Sz 256 (x.q * y.q)) :
    Calls Tryz.prog 28 #[x.v, y.v] w (FrOutT w (x.q * y.q)) := by
  skip
  exact Calls.mono (Mul_q hx.n hx.d hy.n hy.d z1 z2 (by omega) (by omega) z3) fun _ _ h => FrOutT.of h
theorem Sub_s {x y : Fr} {w : World} (hx : Fr.ok w x) (hy : Fr.ok w y) (z1 : Q.Sz 256 x.q) (z2 : Q.Sz 256 y.q) (z3 : Q.Sz 256 (x.q - y.q)) :
    Calls Tryz.prog 18 #[x.v, y.v] w (FrOutT w (x.q - y.q)) := by
  rw [Rat.sub_eq_add_neg] at *
  exact Calls.mono (Sub_n hx.n hx.d hy.n hy.d z1 z2 (by omega) (by omega) z3) fun _ _ h => FrOutT.of h
theorem Div_s {x y : Fr} {w : World} (hx : Fr.ok w x) (hy : Fr.ok w y) (z1 : Q.Sz 256 x.q) (z2 : Q.Sz 256 y.q) (z3 : Q.Sz 256 (x.q / y.q)) (h0 : y.q ≠ 0) :
    Calls Tryz.prog 133 #[x.v, y.v] w (FrOutT w (x.q / y.q)) := by
  rw [Rat.div_def] at *
  exact Calls.mono (Div_n hx.n hx.d hy.n hy.d z1 z2 (by omega) (by omega) z3 h0) fun _ _ h => FrOutT.of h
theorem Cmp_s {x y : Fr} {w : World} (hx : Fr.ok w x) (hy : Fr.ok w y) (z1 : Q.Sz 256 x.q) (z2 : Q.Sz 256 y.q) :
    Calls Tryz.prog 19 #[x.v, y.v] w fun e w' => e = .returned (.int .i64 (Q.cmp x.q y.q)) ∧ Below w.heap.size w w' := Cmp_q hx.n hx.d hy.n hy.d z1 z2 (by omega) (by omega)
theorem FromInt_s {x : Int} {w : World} (h0 : -9223372036854775808 ≤ x) (h1 : x ≤ 9223372036854775807) :
    Calls Tryz.prog 20 #[.int .i64 x] w (FrOut w (x : Rat)) := Calls.mono (FromInt_q h0 h1) fun _ _ h => FrOut.of h
theorem plus_s {x y : Fr} {w : World} (hx : Fr.ok w x) (hy : Fr.ok w y) (z1 : Q.Sz 256 x.q) (z2 : Q.Sz 256 y.q) (z3 : Q.Sz 256 (x.q + y.q)) :
    Calls Tryz.prog 100 #[x.v, y.v] w (FrOut w (x.q + y.q)) := by
 refine V.nt Tryz.func100 rfl rfl fun f0 hf => ?_
 have s0 : f0 0 = x.v := hf 0 (by simp)
 have s1 : f0 1 = y.v := hf 1 (by simp)
 clear hf
 have hb := Below.refl w.heap.size w
 refine V.seq ?_
 refine V.reg 3 [V.Nb w 39 x.cs, V.Nb w 39 y.cs, V.Nb w 39 #[.bool false, .slice none 0 0, .bool false, .slice none 0 0]] [0, 1, 2] (V.i hx (V.i hy hb)) ?_ ?_
 ·refine V.a3 ?_ ?_ ?_
  ·exact V.sn rfl fun f W h => V.x_box (V.eo h 0 s0)
  ·exact V.sn rfl fun f W h => V.x_box (V.eo h 1 s1)
  ·exact V.sn rfl fun f W h => V.x_alloc
 have o_bel := hb.size
 intro f4 W5 e6
 clear hx hy hb
 obtain ⟨⟨hx, hy, hb⟩, z_⟩ := e6.g
 obtain ⟨s0, s1⟩ := V.e2 e6 s0 s1
 obtain ⟨g1, s2, bg1, lg1⟩ := V.eq e6 0 2 rfl
 obtain ⟨g2, s3, bg2, lg2⟩ := V.eq e6 1 3 rfl
 obtain ⟨g3, s4, bg3, lg3⟩ := V.eq e6 2 4 rfl
 have mg3 := Nat.le_trans o_bel lg3
 clear e6 z_
 clear o_bel
 refine V.t_done rfl (V.nx (V.seq ?_))
 refine V.reg 7 [V.E (x.v), V.E (y.v), (fun v W => ∃ z7 : Fr, v = .tuple #[z7.v, .int .i64 0] ∧ Fr.ok W z7 ∧ (z7.q = (x.q + y.q))), (fun v W => ∃ z10 : Fr, v = .tuple #[z10.v, .int .i64 0] ∧ Fr.ok W z10 ∧ (z10.q = (x.q + y.q))), (fun v W => ∃ z11 : Fr, v = z11.v ∧ Fr.ok W z11 ∧ (z11.q = (x.q + y.q))), V.E (.int .i64 0), V.Nb W5 39 #[.bool false, .slice none 0 0, .bool false, .slice none 0 0]] [6] (V.i hx (V.i hy (V.i hb (V.i bg1 (V.i bg2 bg3))))) ?_ ?_
 ·refine V.a7 ?_ ?_ ?_ ?_ ?_ ?_ ?_
  ·exact V.z1 rfl fun h => V.xl (V.eo h 2 s2) (V.lr h.g.1.2.2.2.1 Tryz.underlying39)
  ·exact V.z1 rfl fun h => V.xl (V.eo h 3 s3) (V.lr h.g.1.2.2.2.2.1 Tryz.underlying39)
  ·refine V.s2 rfl fun f W h => ?_
   refine V.call en60 (V.args2 (V.ed h 0 8 rfl) (V.ed h 1 9 rfl)) (Calls.mono (Add_s h.g.1.1 h.g.1.2.1 z1 z2 z3) ?_)
   rintro e W' ⟨z7, rfl, k8, e9, hb⟩
   exact ⟨_, rfl, ⟨z7, rfl, k8, e9⟩, hb⟩
  ·refine V.s2 rfl fun f W h => ?_
   obtain ⟨z7, a10, k2_0, p2_0⟩ := V.dp h 2 10 (by kernel_rfl) rfl
   exact V.v2 (.tuple #[z7.v, .int .i64 0]) (V.xm (V.ev_tmp rfl a10)) ⟨z7, rfl, k2_0, p2_0⟩
  ·refine V.s2 rfl fun f W h => ?_
   obtain ⟨z10, a7, k3_0, p3_0⟩ := V.dp h 3 7 (by kernel_rfl) rfl
   exact V.v2 (z10.v) (V.xe (V.ev_tmp rfl a7)) ⟨z10, rfl, k3_0, p3_0⟩
  ·refine V.s1 rfl fun f W h => ?_
   obtain ⟨z10, a7, k3_0, p3_0⟩ := V.dp h 3 7 (by kernel_rfl) rfl
   exact V.xe (V.ev_tmp rfl a7)
  ·exact V.sn rfl fun f W h => V.x_alloc
 have o_g1 := bg1.lt
 have o_g2 := bg2.lt
 have o_g3 := bg3.lt
 have o_bel := hb.size
 intro f13 W14 e15
 clear hx hy hb bg1 bg2 bg3
 obtain ⟨⟨hx, hy, hb, bg1, bg2, bg3⟩, z_⟩ := e15.g
 obtain ⟨s0, s1, s4⟩ := V.e3 e15 s0 s1 s4
 obtain ⟨z11, s11, r16, n17⟩ := V.eq e15 4 11 rfl
 have s12 := V.es e15 5 12 rfl
 obtain ⟨g12, s5, bg12, lg12⟩ := V.eq e15 6 5 rfl
 have mg12 := Nat.le_trans o_bel lg12
 have q1_12 : g1 ≠ g12 := by omega
 have q2_12 : g2 ≠ g12 := by omega
 have q3_12 : g3 ≠ g12 := by omega
 clear e15 z_
 clear o_bel o_g1 o_g2 o_g3
 refine V.tsr (k := 7) rfl s5 s11 bg12 fun W18 hs b' => ?_
 replace hx := hs.fr hx
 replace hy := hs.fr hy
 replace hb := hs.bel hb mg12
 replace bg1 := hs.blk bg1 q1_12
 replace bg2 := hs.blk bg2 q2_12
 replace bg3 := hs.blk bg3 q3_12
 replace r16 := hs.fr r16
 replace bg12 := b'
 clear hs b'
 refine V.t_val (k := 8) (v := .int .i64 0) (t := 6) rfl rfl rfl (by kernel_rfl) trivial (V.xs (V.ev_tmp rfl s12)) ?_
 intro f19 e20 u21
 replace s0 : f19 0 = x.v := (u21 0 (by decide)).trans s0
 replace s1 : f19 1 = y.v := (u21 1 (by decide)).trans s1
 replace s4 : f19 4 = Vp g3 0 := (u21 4 (by decide)).trans s4
 replace s11 : f19 11 = z11.v := (u21 11 (by decide)).trans s11
 replace s12 : f19 12 = .int .i64 0 := (u21 12 (by decide)).trans s12
 replace s5 : f19 5 = Vp g12 0 := (u21 5 (by decide)).trans s5
 have s6 := e20
 clear u21
 refine V.t_done rfl (V.nx (V.seq ?_))
 clear bg1 bg2
 refine V.reg 1 [V.E (z11.v)] [] (V.i hx (V.i hy (V.i hb (V.i bg3 (V.i r16 bg12))))) ?_ ?_
 ·refine V.ac ?_ V.an
  ·exact V.z1 rfl fun h => V.xl (V.eo h 5 s5) (V.lr h.g.1.2.2.2.2.2 Tryz.underlying39)
 intro f22 W23 e24
 clear hx hy hb bg3 r16 bg12
 obtain ⟨⟨hx, hy, hb, bg3, r16, bg12⟩, z_⟩ := e24.g
 obtain ⟨s0, s1, s4⟩ := V.e3 e24 s0 s1 s4
 have s13 := V.es e24 0 13 rfl
 clear e24 z_
 refine V.tsr (k := 1) rfl s4 s13 bg3 fun W25 hs b' => ?_
 replace hx := hs.fr hx
 replace hy := hs.fr hy
 replace hb := hs.bel hb mg3
 replace r16 := hs.fr r16
 replace bg12 := hs.blk bg12 (Ne.symm q3_12)
 replace bg3 := b'
 clear hs b'
 refine V.t_done rfl (V.nx (V.ret ?_))
 refine V.leave_any (.inl rfl) (V.res_cell rfl rfl s4 (V.lr bg3 Tryz.underlying39 rfl (by kernel_rfl))) ?_
 exact ⟨z11, rfl, r16, n17, hb⟩
theorem minus_s {x y : Fr} {w : World} (hx : Fr.ok w x) (hy : Fr.ok w y) (z1 : Q.Sz 256 x.q) (z2 : Q.Sz 256 y.q) (z3 : Q.Sz 256 (x.q - y.q)) :
    Calls Tryz.prog 44 #[x.v, y.v] w (FrOut w (x.q - y.q)) := by
 refine V.nt Tryz.func44 rfl rfl fun f0 hf => ?_
 have s0 : f0 0 = x.v := hf 0 (by simp)
 have s1 : f0 1 = y.v := hf 1 (by simp)
 clear hf
 have hb := Below.refl w.heap.size w
 refine V.seq ?_
 refine V.reg 3 [V.Nb w 39 x.cs, V.Nb w 39 y.cs, V.Nb w 39 #[.bool false, .slice none 0 0, .bool false, .slice none 0 0]] [0, 1, 2] (V.i hx (V.i hy hb)) ?_ ?_
 ·refine V.a3 ?_ ?_ ?_
  ·exact V.sn rfl fun f W h => V.x_box (V.eo h 0 s0)
  ·exact V.sn rfl fun f W h => V.x_box (V.eo h 1 s1)
  ·exact V.sn rfl fun f W h => V.x_alloc
 have o_bel := hb.size
 intro f29 W30 e31
 clear hx hy hb
 obtain ⟨⟨hx, hy, hb⟩, z_⟩ := e31.g
 obtain ⟨s0, s1⟩ := V.e2 e31 s0 s1
 obtain ⟨g26, s2, bg26, lg26⟩ := V.eq e31 0 2 rfl
 obtain ⟨g27, s3, bg27, lg27⟩ := V.eq e31 1 3 rfl
 obtain ⟨g28, s4, bg28, lg28⟩ := V.eq e31 2 4 rfl
 have mg28 := Nat.le_trans o_bel lg28
 clear e31 z_
 clear o_bel
 refine V.t_done rfl (V.nx (V.seq ?_))
 refine V.reg 7 [V.E (x.v), V.E (y.v), (fun v W => ∃ z32 : Fr, v = .tuple #[z32.v, .int .i64 0] ∧ Fr.ok W z32 ∧ (z32.q = (x.q - y.q))), (fun v W => ∃ z35 : Fr, v = .tuple #[z35.v, .int .i64 0] ∧ Fr.ok W z35 ∧ (z35.q = (x.q - y.q))), (fun v W => ∃ z36 : Fr, v = z36.v ∧ Fr.ok W z36 ∧ (z36.q = (x.q - y.q))), V.E (.int .i64 0), V.Nb W30 39 #[.bool false, .slice none 0 0, .bool false, .slice none 0 0]] [6] (V.i hx (V.i hy (V.i hb (V.i bg26 (V.i bg27 bg28))))) ?_ ?_
 ·refine V.a7 ?_ ?_ ?_ ?_ ?_ ?_ ?_
  ·exact V.z1 rfl fun h => V.xl (V.eo h 2 s2) (V.lr h.g.1.2.2.2.1 Tryz.underlying39)
  ·exact V.z1 rfl fun h => V.xl (V.eo h 3 s3) (V.lr h.g.1.2.2.2.2.1 Tryz.underlying39)
  ·refine V.s2 rfl fun f W h => ?_
   refine V.call en18 (V.args2 (V.ed h 0 8 rfl) (V.ed h 1 9 rfl)) (Calls.mono (Sub_s h.g.1.1 h.g.1.2.1 z1 z2 z3) ?_)
   rintro e W' ⟨z32, rfl, k33, e34, hb⟩
   exact ⟨_, rfl, ⟨z32, rfl, k33, e34⟩, hb⟩
  ·refine V.s2 rfl fun f W h => ?_
   obtain ⟨z32, a10, k2_0, p2_0⟩ := V.dp h 2 10 (by kernel_rfl) rfl
   exact V.v2 (.tuple #[z32.v, .int .i64 0]) (V.xm (V.ev_tmp rfl a10)) ⟨z32, rfl, k2_0, p2_0⟩
  ·refine V.s2 rfl fun f W h => ?_
   obtain ⟨z35, a7, k3_0, p3_0⟩ := V.dp h 3 7 (by kernel_rfl) rfl
   exact V.v2 (z35.v) (V.xe (V.ev_tmp rfl a7)) ⟨z35, rfl, k3_0, p3_0⟩
  ·refine V.s1 rfl fun f W h => ?_
   obtain ⟨z35, a7, k3_0, p3_0⟩ := V.dp h 3 7 (by kernel_rfl) rfl
   exact V.xe (V.ev_tmp rfl a7)
  ·exact V.sn rfl fun f W h => V.x_alloc
 have o_g26 := bg26.lt
 have o_g27 := bg27.lt
 have o_g28 := bg28.lt
 have o_bel := hb.size
 intro f38 W39 e40
 clear hx hy hb bg26 bg27 bg28
 obtain ⟨⟨hx, hy, hb, bg26, bg27, bg28⟩, z_⟩ := e40.g
 obtain ⟨s0, s1, s4⟩ := V.e3 e40 s0 s1 s4
 obtain ⟨z36, s11, r41, n42⟩ := V.eq e40 4 11 rfl
 have s12 := V.es e40 5 12 rfl
 obtain ⟨g37, s5, bg37, lg37⟩ := V.eq e40 6 5 rfl
 have mg37 := Nat.le_trans o_bel lg37
 have q26_37 : g26 ≠ g37 := by omega
 have q27_37 : g27 ≠ g37 := by omega
 have q28_37 : g28 ≠ g37 := by omega
 clear e40 z_
 clear o_bel o_g26 o_g27 o_g28
 refine V.tsr (k := 7) rfl s5 s11 bg37 fun W43 hs b' => ?_
 replace hx := hs.fr hx
 replace hy := hs.fr hy
 replace hb := hs.bel hb mg37
 replace bg26 := hs.blk bg26 q26_37
 replace bg27 := hs.blk bg27 q27_37
 replace bg28 := hs.blk bg28 q28_37
 replace r41 := hs.fr r41
 replace bg37 := b'
 clear hs b'
 refine V.t_val (k := 8) (v := .int .i64 0) (t := 6) rfl rfl rfl (by kernel_rfl) trivial (V.xs (V.ev_tmp rfl s12)) ?_
 intro f44 e45 u46
 replace s0 : f44 0 = x.v := (u46 0 (by decide)).trans s0
 replace s1 : f44 1 = y.v := (u46 1 (by decide)).trans s1
 replace s4 : f44 4 = Vp g28 0 := (u46 4 (by decide)).trans s4
 replace s11 : f44 11 = z36.v := (u46 11 (by decide)).trans s11
 replace s12 : f44 12 = .int .i64 0 := (u46 12 (by decide)).trans s12
 replace s5 : f44 5 = Vp g37 0 := (u46 5 (by decide)).trans s5
 have s6 := e45
 clear u46
 refine V.t_done rfl (V.nx (V.seq ?_))
 clear bg26 bg27
 refine V.reg 1 [V.E (z36.v)] [] (V.i hx (V.i hy (V.i hb (V.i bg28 (V.i r41 bg37))))) ?_ ?_
 ·refine V.ac ?_ V.an
  ·exact V.z1 rfl fun h => V.xl (V.eo h 5 s5) (V.lr h.g.1.2.2.2.2.2 Tryz.underlying39)
 intro f47 W48 e49
 clear hx hy hb bg28 r41 bg37
 obtain ⟨⟨hx, hy, hb, bg28, r41, bg37⟩, z_⟩ := e49.g
 obtain ⟨s0, s1, s4⟩ := V.e3 e49 s0 s1 s4
 have s13 := V.es e49 0 13 rfl
 clear e49 z_
 refine V.tsr (k := 1) rfl s4 s13 bg28 fun W50 hs b' => ?_
 replace hx := hs.fr hx
 replace hy := hs.fr hy
 replace hb := hs.bel hb mg28
 replace r41 := hs.fr r41
 replace bg37 := hs.blk bg37 (Ne.symm q28_37)
 replace bg28 := b'
 clear hs b'
 refine V.t_done rfl (V.nx (V.ret ?_))
 refine V.leave_any (.inl rfl) (V.res_cell rfl rfl s4 (V.lr bg28 Tryz.underlying39 rfl (by kernel_rfl))) ?_
 exact ⟨z36, rfl, r41, n42, hb⟩
theorem timesS {x y : Fr} {w : World} (hx : Fr.ok w x) (hy : Fr.ok w y) (z1 : Q.Sz 256 x.q) (z2 : Q.Sz 256 y.q) (z3 : Q.Sz 256 (x.q * y.q)) :
    Calls Tryz.prog 77 #[x.v, y.v] w (FrOut w (x.q * y.q)) := by
 refine V.nt Tryz.func77 rfl rfl fun f0 hf => ?_
 have s0 : f0 0 = x.v := hf 0 (by simp)
 have s1 : f0 1 = y.v := hf 1 (by simp)
 clear hf
 have hb := Below.refl w.heap.size w
 refine V.seq ?_
 refine V.reg 3 [V.Nb w 39 x.cs, V.Nb w 39 y.cs, V.Nb w 39 #[.bool false, .slice none 0 0, .bool false, .slice none 0 0]] [0, 1, 2] (V.i hx (V.i hy hb)) ?_ ?_
 ·refine V.a3 ?_ ?_ ?_
  ·exact V.sn rfl fun f W h => V.x_box (V.eo h 0 s0)
  ·exact V.sn rfl fun f W h => V.x_box (V.eo h 1 s1)
  ·exact V.sn rfl fun f W h => V.x_alloc
 have o_bel := hb.size
 intro f54 W55 e56
 clear hx hy hb
 obtain ⟨⟨hx, hy, hb⟩, z_⟩ := e56.g
 obtain ⟨s0, s1⟩ := V.e2 e56 s0 s1
 obtain ⟨g51, s2, bg51, lg51⟩ := V.eq e56 0 2 rfl
 obtain ⟨g52, s3, bg52, lg52⟩ := V.eq e56 1 3 rfl
 obtain ⟨g53, s4, bg53, lg53⟩ := V.eq e56 2 4 rfl
 have mg53 := Nat.le_trans o_bel lg53
 clear e56 z_
 clear o_bel
 refine V.t_done rfl (V.nx (V.seq ?_))
 refine V.reg 7 [V.E (x.v), V.E (y.v), (fun v W => ∃ z57 : Fr, v = .tuple #[z57.v, .int .i64 0] ∧ Fr.ok W z57 ∧ (z57.q = (x.q * y.q))), (fun v W => ∃ z60 : Fr, v = .tuple #[z60.v, .int .i64 0] ∧ Fr.ok W z60 ∧ (z60.q = (x.q * y.q))), (fun v W => ∃ z61 : Fr, v = z61.v ∧ Fr.ok W z61 ∧ (z61.q = (x.q * y.q))), V.E (.int .i64 0), V.Nb W55 39 #[.bool false, .slice none 0 0, .bool false, .slice none 0 0]] [6] (V.i hx (V.i hy (V.i hb (V.i bg51 (V.i bg52 bg53))))) ?_ ?_
 ·refine V.a7 ?_ ?_ ?_ ?_ ?_ ?_ ?_
  ·exact V.z1 rfl fun h => V.xl (V.eo h 2 s2) (V.lr h.g.1.2.2.2.1 Tryz.underlying39)
  ·exact V.z1 rfl fun h => V.xl (V.eo h 3 s3) (V.lr h.g.1.2.2.2.2.1 Tryz.underlying39)
  ·refine V.s2 rfl fun f W h => ?_
   refine V.call en28 (V.args2 (V.ed h 0 8 rfl) (V.ed h 1 9 rfl)) (Calls.mono (Mul_s h.g.1.1 h.g.1.2.1 z1 z2 z3) ?_)
   rintro e W' ⟨z57, rfl, k58, e59, hb⟩
   exact ⟨_, rfl, ⟨z57, rfl, k58, e59⟩, hb⟩
  ·refine V.s2 rfl fun f W h => ?_
   obtain ⟨z57, a10, k2_0, p2_0⟩ := V.dp h 2 10 (by kernel_rfl) rfl
   exact V.v2 (.tuple #[z57.v, .int .i64 0]) (V.xm (V.ev_tmp rfl a10)) ⟨z57, rfl, k2_0, p2_0⟩
  ·refine V.s2 rfl fun f W h => ?_
   obtain ⟨z60, a7, k3_0, p3_0⟩ := V.dp h 3 7 (by kernel_rfl) rfl
   exact V.v2 (z60.v) (V.xe (V.ev_tmp rfl a7)) ⟨z60, rfl, k3_0, p3_0⟩
  ·refine V.s1 rfl fun f W h => ?_
   obtain ⟨z60, a7, k3_0, p3_0⟩ := V.dp h 3 7 (by kernel_rfl) rfl
   exact V.xe (V.ev_tmp rfl a7)
  ·exact V.sn rfl fun f W h => V.x_alloc
 have o_g51 := bg51.lt
 have o_g52 := bg52.lt
 have o_g53 := bg53.lt
 have o_bel := hb.size
 intro f63 W64 e65
 clear hx hy hb bg51 bg52 bg53
 obtain ⟨⟨hx, hy, hb, bg51, bg52, bg53⟩, z_⟩ := e65.g
 obtain ⟨s0, s1, s4⟩ := V.e3 e65 s0 s1 s4
 obtain ⟨z61, s11, r66, n67⟩ := V.eq e65 4 11 rfl
 have s12 := V.es e65 5 12 rfl
 obtain ⟨g62, s5, bg62, lg62⟩ := V.eq e65 6 5 rfl
 have mg62 := Nat.le_trans o_bel lg62
 have q51_62 : g51 ≠ g62 := by omega
 have q52_62 : g52 ≠ g62 := by omega
 have q53_62 : g53 ≠ g62 := by omega
 clear e65 z_
 clear o_bel o_g51 o_g52 o_g53
 refine V.tsr (k := 7) rfl s5 s11 bg62 fun W68 hs b' => ?_
 replace hx := hs.fr hx
 replace hy := hs.fr hy
 replace hb := hs.bel hb mg62
 replace bg51 := hs.blk bg51 q51_62
 replace bg52 := hs.blk bg52 q52_62
 replace bg53 := hs.blk bg53 q53_62
 replace r66 := hs.fr r66
 replace bg62 := b'
 clear hs b'
 refine V.t_val (k := 8) (v := .int .i64 0) (t := 6) rfl rfl rfl (by kernel_rfl) trivial (V.xs (V.ev_tmp rfl s12)) ?_
 intro f69 e70 u71
 replace s0 : f69 0 = x.v := (u71 0 (by decide)).trans s0
 replace s1 : f69 1 = y.v := (u71 1 (by decide)).trans s1
 replace s4 : f69 4 = Vp g53 0 := (u71 4 (by decide)).trans s4
 replace s11 : f69 11 = z61.v := (u71 11 (by decide)).trans s11
 replace s12 : f69 12 = .int .i64 0 := (u71 12 (by decide)).trans s12
 replace s5 : f69 5 = Vp g62 0 := (u71 5 (by decide)).trans s5
 have s6 := e70
 clear u71
 refine V.t_done rfl (V.nx (V.seq ?_))
 clear bg51 bg52
 refine V.reg 1 [V.E (z61.v)] [] (V.i hx (V.i hy (V.i hb (V.i bg53 (V.i r66 bg62))))) ?_ ?_
 ·refine V.ac ?_ V.an
  ·exact V.z1 rfl fun h => V.xl (V.eo h 5 s5) (V.lr h.g.1.2.2.2.2.2 Tryz.underlying39)
 intro f72 W73 e74
 clear hx hy hb bg53 r66 bg62
 obtain ⟨⟨hx, hy, hb, bg53, r66, bg62⟩, z_⟩ := e74.g
 obtain ⟨s0, s1, s4⟩ := V.e3 e74 s0 s1 s4
 have s13 := V.es e74 0 13 rfl
 clear e74 z_
 refine V.tsr (k := 1) rfl s4 s13 bg53 fun W75 hs b' => ?_
 replace hx := hs.fr hx
 replace hy := hs.fr hy
 replace hb := hs.bel hb mg53
 replace r66 := hs.fr r66
 replace bg62 := hs.blk bg62 (Ne.symm q53_62)
 replace bg53 := b'
 clear hs b'
 refine V.t_done rfl (V.nx (V.ret ?_))
 refine V.leave_any (.inl rfl) (V.res_cell rfl rfl s4 (V.lr bg53 Tryz.underlying39 rfl (by kernel_rfl))) ?_
 exact ⟨z61, rfl, r66, n67, hb⟩
theorem over_s {x y : Fr} {w : World} (hx : Fr.ok w x) (hy : Fr.ok w y) (z1 : Q.Sz 256 x.q) (z2 : Q.Sz 256 y.q) (z3 : Q.Sz 256 (x.q / y.q)) (h0 : y.q ≠ 0) :
    Calls Tryz.prog 101 #[x.v, y.v] w (FrOut w (x.q / y.q)) := by
 refine V.nt Tryz.func101 rfl rfl fun f0 hf => ?_
 have s0 : f0 0 = x.v := hf 0 (by simp)
 have s1 : f0 1 = y.v := hf 1 (by simp)
 clear hf
 have hb := Below.refl w.heap.size w
 refine V.seq ?_
 refine V.reg 3 [V.Nb w 39 x.cs, V.Nb w 39 y.cs, V.Nb w 39 #[.bool false, .slice none 0 0, .bool false, .slice none 0 0]] [0, 1, 2] (V.i hx (V.i hy hb)) ?_ ?_
 ·refine V.a3 ?_ ?_ ?_
  ·exact V.sn rfl fun f W h => V.x_box (V.eo h 0 s0)
  ·exact V.sn rfl fun f W h => V.x_box (V.eo h 1 s1)
  ·exact V.sn rfl fun f W h => V.x_alloc
 have o_bel := hb.size
 intro f79 W80 e81
 clear hx hy hb
 obtain ⟨⟨hx, hy, hb⟩, z_⟩ := e81.g
 obtain ⟨s0, s1⟩ := V.e2 e81 s0 s1
 obtain ⟨g76, s2, bg76, lg76⟩ := V.eq e81 0 2 rfl
 obtain ⟨g77, s3, bg77, lg77⟩ := V.eq e81 1 3 rfl
 obtain ⟨g78, s4, bg78, lg78⟩ := V.eq e81 2 4 rfl
 have mg78 := Nat.le_trans o_bel lg78
 clear e81 z_
 clear o_bel
 refine V.t_done rfl (V.nx (V.seq ?_))
 refine V.reg 7 [V.E (x.v), V.E (y.v), (fun v W => ∃ z82 : Fr, v = .tuple #[z82.v, .int .i64 0] ∧ Fr.ok W z82 ∧ (z82.q = (x.q / y.q))), (fun v W => ∃ z85 : Fr, v = .tuple #[z85.v, .int .i64 0] ∧ Fr.ok W z85 ∧ (z85.q = (x.q / y.q))), (fun v W => ∃ z86 : Fr, v = z86.v ∧ Fr.ok W z86 ∧ (z86.q = (x.q / y.q))), V.E (.int .i64 0), V.Nb W80 39 #[.bool false, .slice none 0 0, .bool false, .slice none 0 0]] [6] (V.i hx (V.i hy (V.i hb (V.i bg76 (V.i bg77 bg78))))) ?_ ?_
 ·refine V.a7 ?_ ?_ ?_ ?_ ?_ ?_ ?_
  ·exact V.z1 rfl fun h => V.xl (V.eo h 2 s2) (V.lr h.g.1.2.2.2.1 Tryz.underlying39)
  ·exact V.z1 rfl fun h => V.xl (V.eo h 3 s3) (V.lr h.g.1.2.2.2.2.1 Tryz.underlying39)
  ·refine V.s2 rfl fun f W h => ?_
   refine V.call en133 (V.args2 (V.ed h 0 8 rfl) (V.ed h 1 9 rfl)) (Calls.mono (Div_s h.g.1.1 h.g.1.2.1 z1 z2 z3 h0) ?_)
   rintro e W' ⟨z82, rfl, k83, e84, hb⟩
   exact ⟨_, rfl, ⟨z82, rfl, k83, e84⟩, hb⟩
  ·refine V.s2 rfl fun f W h => ?_
   obtain ⟨z82, a10, k2_0, p2_0⟩ := V.dp h 2 10 (by kernel_rfl) rfl
   exact V.v2 (.tuple #[z82.v, .int .i64 0]) (V.xm (V.ev_tmp rfl a10)) ⟨z82, rfl, k2_0, p2_0⟩
  ·refine V.s2 rfl fun f W h => ?_
   obtain ⟨z85, a7, k3_0, p3_0⟩ := V.dp h 3 7 (by kernel_rfl) rfl
   exact V.v2 (z85.v) (V.xe (V.ev_tmp rfl a7)) ⟨z85, rfl, k3_0, p3_0⟩
  ·refine V.s1 rfl fun f W h => ?_
   obtain ⟨z85, a7, k3_0, p3_0⟩ := V.dp h 3 7 (by kernel_rfl) rfl
   exact V.xe (V.ev_tmp rfl a7)
  ·exact V.sn rfl fun f W h => V.x_alloc
 have o_g76 := bg76.lt
 have o_g77 := bg77.lt
 have o_g78 := bg78.lt
 have o_bel := hb.size
 intro f88 W89 e90
 clear hx hy hb bg76 bg77 bg78
 obtain ⟨⟨hx, hy, hb, bg76, bg77, bg78⟩, z_⟩ := e90.g
 obtain ⟨s0, s1, s4⟩ := V.e3 e90 s0 s1 s4
 obtain ⟨z86, s11, r91, n92⟩ := V.eq e90 4 11 rfl
 have s12 := V.es e90 5 12 rfl
 obtain ⟨g87, s5, bg87, lg87⟩ := V.eq e90 6 5 rfl
 have mg87 := Nat.le_trans o_bel lg87
 have q76_87 : g76 ≠ g87 := by omega
 have q77_87 : g77 ≠ g87 := by omega
 have q78_87 : g78 ≠ g87 := by omega
 clear e90 z_
 clear o_bel o_g76 o_g77 o_g78
 refine V.tsr (k := 7) rfl s5 s11 bg87 fun W93 hs b' => ?_
 replace hx := hs.fr hx
 replace hy := hs.fr hy
 replace hb := hs.bel hb mg87
 replace bg76 := hs.blk bg76 q76_87
 replace bg77 := hs.blk bg77 q77_87
 replace bg78 := hs.blk bg78 q78_87
 replace r91 := hs.fr r91
 replace bg87 := b'
 clear hs b'
 refine V.t_val (k := 8) (v := .int .i64 0) (t := 6) rfl rfl rfl (by kernel_rfl) trivial (V.xs (V.ev_tmp rfl s12)) ?_
 intro f94 e95 u96
 replace s0 : f94 0 = x.v := (u96 0 (by decide)).trans s0
 replace s1 : f94 1 = y.v := (u96 1 (by decide)).trans s1
 replace s4 : f94 4 = Vp g78 0 := (u96 4 (by decide)).trans s4
 replace s11 : f94 11 = z86.v := (u96 11 (by decide)).trans s11
 replace s12 : f94 12 = .int .i64 0 := (u96 12 (by decide)).trans s12
 replace s5 : f94 5 = Vp g87 0 := (u96 5 (by decide)).trans s5
 have s6 := e95
 clear u96
 refine V.t_done rfl (V.nx (V.seq ?_))
 clear bg76 bg77
 refine V.reg 1 [V.E (z86.v)] [] (V.i hx (V.i hy (V.i hb (V.i bg78 (V.i r91 bg87))))) ?_ ?_
 ·refine V.ac ?_ V.an
  ·exact V.z1 rfl fun h => V.xl (V.eo h 5 s5) (V.lr h.g.1.2.2.2.2.2 Tryz.underlying39)
 intro f97 W98 e99
 clear hx hy hb bg78 r91 bg87
 obtain ⟨⟨hx, hy, hb, bg78, r91, bg87⟩, z_⟩ := e99.g
 obtain ⟨s0, s1, s4⟩ := V.e3 e99 s0 s1 s4
 have s13 := V.es e99 0 13 rfl
 clear e99 z_
 refine V.tsr (k := 1) rfl s4 s13 bg78 fun W100 hs b' => ?_
 replace hx := hs.fr hx
 replace hy := hs.fr hy
 replace hb := hs.bel hb mg78
 replace r91 := hs.fr r91
 replace bg87 := hs.blk bg87 (Ne.symm q78_87)
 replace bg78 := b'
 clear hs b'
 refine V.t_done rfl (V.nx (V.ret ?_))
 refine V.leave_any (.inl rfl) (V.res_cell rfl rfl s4 (V.lr bg78 Tryz.underlying39 rfl (by kernel_rfl))) ?_
 exact ⟨z86, rfl, r91, n92, hb⟩
theorem limit_s {x : It} {w : World} (b0 : 0 ≤ x.c.cap) (b1 : x.c.cap ≤ 1099511627776) :
    Calls Tryz.prog 81 #[x.v] w (FrOut w ((x.c.cap : Int) : Rat)) := by
 refine V.nt Tryz.func81 rfl rfl fun f0 hf => ?_
 have s0 : f0 0 = x.v := hf 0 (by simp)
 clear hf
 have hb := Below.refl w.heap.size w
 refine V.seq ?_
 refine V.reg 2 [V.Nb w 72 #[.int .i64 x.c.id, .bool (Q.neg x.c.w.q), Vs x.c.w.A (Q.m x.c.w.q) x.c.w.c, .bool false, Vs x.c.w.A' x.c.w.q.den x.c.w.c', .int .i64 x.c.cap, .int .i64 x.at_], V.Nb w 39 #[.bool false, .slice none 0 0, .bool false, .slice none 0 0]] [0, 1] hb ?_ ?_
 ·refine V.a2 ?_ ?_
  ·exact V.sn rfl fun f W h => V.x_box (V.eo h 0 s0)
  ·exact V.sn rfl fun f W h => V.x_alloc
 have o_bel := hb.size
 intro f103 W104 e105
 clear hb
 obtain ⟨hb, z_⟩ := e105.g
 replace s0 := V.e1 e105 s0
 obtain ⟨g101, s1, bg101, lg101⟩ := V.eq e105 0 1 rfl
 obtain ⟨g102, s2, bg102, lg102⟩ := V.eq e105 1 2 rfl
 have mg102 := Nat.le_trans o_bel lg102
 have q101_102 : g101 ≠ g102 := V.ep e105 0 1 1 2 s1 s2
 clear e105 z_
 clear o_bel
 refine V.t_done rfl (V.nx (V.seq ?_))
 refine V.reg 4 [V.E (Vp g101 0), V.E (Vp g101 5), V.E (.int .i64 x.c.cap), (fun v W => ∃ z106 : Fr, v = z106.v ∧ Fr.ok W z106 ∧ (z106.q = (((x.c.cap : Int) : Rat) : Rat)))] [] (V.i hb (V.i bg101 bg102)) ?_ ?_
 ·refine V.a4 ?_ ?_ ?_ ?_
  ·exact V.z1 rfl fun h => V.xa (V.eo h 1 s1)
  ·exact V.z1 rfl fun h => V.xa (V.ed h 0 3 rfl)
  ·exact V.z1 rfl fun h => V.xl (V.ed h 1 4 rfl) (V.lo h.g.1.2.1 rfl)
  ·refine V.s2 rfl fun f W h => ?_
   refine V.call en20 (V.args1 (V.ed h 2 5 rfl)) (Calls.mono (FromInt_s (x := x.c.cap) (by omega) (by omega)) ?_)
   rintro e W' ⟨z106, rfl, k107, e108, hb⟩
   exact ⟨_, rfl, ⟨z106, rfl, k107, e108⟩, hb⟩
 intro f109 W110 e111
 clear hb bg101 bg102
 obtain ⟨⟨hb, bg101, bg102⟩, z_⟩ := e111.g
 obtain ⟨s0, s2⟩ := V.e2 e111 s0 s2
 obtain ⟨z106, s6, r112, n113⟩ := V.eq e111 3 6 rfl
 clear e111 z_
 refine V.tsr (k := 4) rfl s2 s6 bg102 fun W114 hs b' => ?_
 replace hb := hs.bel hb mg102
 replace bg101 := hs.blk bg101 q101_102
 replace r112 := hs.fr r112
 replace bg102 := b'
 clear hs b'
 refine V.t_done rfl (V.nx (V.ret ?_))
 refine V.leave_any (.inl rfl) (V.res_cell rfl rfl s2 (V.lr bg102 Tryz.underlying39 rfl (by kernel_rfl))) ?_
 exact ⟨z106, rfl, r112, n113, hb⟩
theorem Q.Sz.cap {z : Int} (h0 : 0 ≤ z) (h1 : z ≤ 1099511627776) : Q.Sz 3 (z : Rat) := by
  refine ⟨?_, ?_⟩
  · rw [Q.int_m]; omega
  · rw [Q.int_den]; decide
theorem full_s {x : It} {w : World} (hx : Fr.ok w x.c.w) (b0 : 0 ≤ x.c.cap) (b1 : x.c.cap ≤ 1099511627776) (z2 : Q.Sz 256 x.c.w.q) (z3 : Q.Sz 256 (((x.c.cap : Int) : Rat) / x.c.w.q)) (h0 : x.c.w.q ≠ 0) :
    Calls Tryz.prog 102 #[x.v] w (FrOut w (((x.c.cap : Int) : Rat) / x.c.w.q)) := by
 refine V.nt Tryz.func102 rfl rfl fun f0 hf => ?_
 have s0 : f0 0 = x.v := hf 0 (by simp)
 clear hf
 have hb := Below.refl w.heap.size w
 refine V.seq ?_
 refine V.reg 2 [V.Nb w 72 #[.int .i64 x.c.id, .bool (Q.neg x.c.w.q), Vs x.c.w.A (Q.m x.c.w.q) x.c.w.c, .bool false, Vs x.c.w.A' x.c.w.q.den x.c.w.c', .int .i64 x.c.cap, .int .i64 x.at_], V.Nb w 39 #[.bool false, .slice none 0 0, .bool false, .slice none 0 0]] [0, 1] (V.i hx hb) ?_ ?_
 ·refine V.a2 ?_ ?_
  ·exact V.sn rfl fun f W h => V.x_box (V.eo h 0 s0)
  ·exact V.sn rfl fun f W h => V.x_alloc
 have o_bel := hb.size
 intro f117 W118 e119
 clear hx hb
 obtain ⟨⟨hx, hb⟩, z_⟩ := e119.g
 replace s0 := V.e1 e119 s0
 obtain ⟨g115, s1, bg115, lg115⟩ := V.eq e119 0 1 rfl
 obtain ⟨g116, s2, bg116, lg116⟩ := V.eq e119 1 2 rfl
 have mg116 := Nat.le_trans o_bel lg116
 have q115_116 : g115 ≠ g116 := V.ep e119 0 1 1 2 s1 s2
 clear e119 z_
 clear o_bel
 refine V.t_done rfl (V.nx (V.seq ?_))
 refine V.reg 6 [V.E (x.v), (fun v W => ∃ z120 : Fr, v = z120.v ∧ Fr.ok W z120 ∧ (z120.q = ((x.c.cap : Int) : Rat))), V.E (Vp g115 0), V.E (Vp g115 1), V.E (x.c.w.v), (fun v W => ∃ z123 : Fr, v = z123.v ∧ Fr.ok W z123 ∧ (z123.q = (((x.c.cap : Int) : Rat) / x.c.w.q)))] [] (V.i hx (V.i hb (V.i bg115 bg116))) ?_ ?_
 ·refine V.a6 ?_ ?_ ?_ ?_ ?_ ?_
  ·exact V.z1 rfl fun h => V.xl (V.eo h 1 s1) (V.lr h.g.1.2.2.1 Tryz.underlying72)
  ·refine V.s2 rfl fun f W h => ?_
   refine V.call en81 (V.args1 (V.ed h 0 3 rfl)) (Calls.mono (limit_s b0 b1) ?_)
   rintro e W' ⟨z120, rfl, k121, e122, hb⟩
   exact ⟨_, rfl, ⟨z120, rfl, k121, e122⟩, hb⟩
  ·exact V.z1 rfl fun h => V.xa (V.eo h 1 s1)
  ·exact V.z1 rfl fun h => V.xa (V.ed h 2 5 rfl)
  ·exact V.z1 rfl fun h => V.xl (V.ed h 3 6 rfl) (V.ld_mid (xs := [.bool (Q.neg x.c.w.q), Vs x.c.w.A (Q.m x.c.w.q) x.c.w.c, .bool false, Vs x.c.w.A' x.c.w.q.den x.c.w.c']) h.g.1.2.2.1 (by intro j hj; match j, hj with | 0, _ => rfl | 1, _ => rfl | 2, _ => rfl | 3, _ => rfl) Tryz.underlying39)
  ·refine V.s2 rfl fun f W h => ?_
   obtain ⟨z120, a4, k1_0, p1_0⟩ := V.dp h 1 4 (by kernel_rfl) rfl
   refine V.call en101 (V.args2 (V.ev_tmp rfl a4) (V.ed h 4 7 rfl)) (Calls.mono (over_s k1_0 h.g.1.1 (by rw [p1_0]; exact ((Q.Sz.cap b0 b1).mono (by decide))) z2 (by rw [p1_0]; exact z3) h0) ?_)
   rintro e W' ⟨z123, rfl, k124, e125, hb⟩
   exact ⟨_, rfl, ⟨z123, rfl, k124, e125.trans (by rw [p1_0])⟩, hb⟩
 intro f126 W127 e128
 clear hx hb bg115 bg116
 obtain ⟨⟨hx, hb, bg115, bg116⟩, z_⟩ := e128.g
 obtain ⟨s0, s2⟩ := V.e2 e128 s0 s2
 obtain ⟨z123, s8, r129, n130⟩ := V.eq e128 5 8 rfl
 clear e128 z_
 refine V.tsr (k := 6) rfl s2 s8 bg116 fun W131 hs b' => ?_
 replace hx := hs.fr hx
 replace hb := hs.bel hb mg116
 replace bg115 := hs.blk bg115 q115_116
 replace r129 := hs.fr r129
 replace bg116 := b'
 clear hs b'
 refine V.t_done rfl (V.nx (V.ret ?_))
 refine V.leave_any (.inl rfl) (V.res_cell rfl rfl s2 (V.lr bg116 Tryz.underlying39 rfl (by kernel_rfl))) ?_
 exact ⟨z123, rfl, r129, n130, hb⟩
theorem Q.cmp_gt {a b : Rat} (h : decide (0 < Q.cmp a b) = true) : b = min b a := by
  unfold Q.cmp at h; have : ¬ a < b ∧ ¬ a = b := by split at h <;> (try split at h) <;> simp_all
  rw [Rat.instMin.eq_1] <;> grind
theorem Q.cmp_le {a b : Rat} (h : decide (0 < Q.cmp a b) = false) : a = min b a := by
  unfold Q.cmp at h; have : a < b ∨ a = b := by split at h <;> (try split at h) <;> simp_all
  grind
theorem part_s {x : It} {y : Fr} {w : World} (hx : Fr.ok w x.c.w) (hy : Fr.ok w y) (b0 : 0 ≤ x.c.cap) (b1 : x.c.cap ≤ 1099511627776) (z1 : Q.Sz 256 y.q) (z2 : Q.Sz 256 x.c.w.q) (z3 : Q.Sz 256 (y.q * x.c.w.q)) :
    Calls Tryz.prog 82 #[x.v, y.v] w (FrOut w (min ((x.c.cap : Int) : Rat) (y.q * x.c.w.q))) := by
 refine V.nt Tryz.func82 rfl rfl fun f0 hf => ?_
 have s0 : f0 0 = x.v := hf 0 (by simp)
 have s1 : f0 1 = y.v := hf 1 (by simp)
 clear hf
 have hb := Below.refl w.heap.size w
 refine V.seq ?_
 refine V.reg 3 [V.Nb w 72 #[.int .i64 x.c.id, .bool (Q.neg x.c.w.q), Vs x.c.w.A (Q.m x.c.w.q) x.c.w.c, .bool false, Vs x.c.w.A' x.c.w.q.den x.c.w.c', .int .i64 x.c.cap, .int .i64 x.at_], V.Nb w 39 y.cs, V.Nb w 39 #[.bool false, .slice none 0 0, .bool false, .slice none 0 0]] [0, 1, 2] (V.i hx (V.i hy hb)) ?_ ?_
 ·refine V.a3 ?_ ?_ ?_
  ·exact V.sn rfl fun f W h => V.x_box (V.eo h 0 s0)
  ·exact V.sn rfl fun f W h => V.x_box (V.eo h 1 s1)
  ·exact V.sn rfl fun f W h => V.x_alloc
 have o_bel := hb.size
 intro f135 W136 e137
 clear hx hy hb
 obtain ⟨⟨hx, hy, hb⟩, z_⟩ := e137.g
 obtain ⟨s0, s1⟩ := V.e2 e137 s0 s1
 obtain ⟨g132, s2, bg132, lg132⟩ := V.eq e137 0 2 rfl
 obtain ⟨g133, s3, bg133, lg133⟩ := V.eq e137 1 3 rfl
 obtain ⟨g134, s4, bg134, lg134⟩ := V.eq e137 2 4 rfl
 have mg134 := Nat.le_trans o_bel lg134
 have q132_134 : g132 ≠ g134 := V.ep e137 0 2 2 4 s2 s4
 clear e137 z_
 clear o_bel
 refine V.t_done rfl (V.nx (V.seq ?_))
 refine V.reg 6 [V.E (y.v), V.E (Vp g132 0), V.E (Vp g132 1), V.E (x.c.w.v), (fun v W => ∃ z138 : Fr, v = z138.v ∧ Fr.ok W z138 ∧ (z138.q = (y.q * x.c.w.q))), V.Nb W136 39 #[.bool false, .slice none 0 0, .bool false, .slice none 0 0]] [5] (V.i hx (V.i hy (V.i hb (V.i bg132 (V.i bg133 bg134))))) ?_ ?_
 ·refine V.a6 ?_ ?_ ?_ ?_ ?_ ?_
  ·exact V.z1 rfl fun h => V.xl (V.eo h 3 s3) (V.lr h.g.1.2.2.2.2.1 Tryz.underlying39)
  ·exact V.z1 rfl fun h => V.xa (V.eo h 2 s2)
  ·exact V.z1 rfl fun h => V.xa (V.ed h 1 7 rfl)
  ·exact V.z1 rfl fun h => V.xl (V.ed h 2 8 rfl) (V.ld_mid (xs := [.bool (Q.neg x.c.w.q), Vs x.c.w.A (Q.m x.c.w.q) x.c.w.c, .bool false, Vs x.c.w.A' x.c.w.q.den x.c.w.c']) h.g.1.2.2.2.1 (by intro j hj; match j, hj with | 0, _ => rfl | 1, _ => rfl | 2, _ => rfl | 3, _ => rfl) Tryz.underlying39)
  ·refine V.s2 rfl fun f W h => ?_
   refine V.call en77 (V.args2 (V.ed h 0 6 rfl) (V.ed h 3 9 rfl)) (Calls.mono (timesS h.g.1.2.1 h.g.1.1 z1 z2 z3) ?_)
   rintro e W' ⟨z138, rfl, k139, e140, hb⟩
   exact ⟨_, rfl, ⟨z138, rfl, k139, e140⟩, hb⟩
  ·exact V.sn rfl fun f W h => V.x_alloc
 have o_g132 := bg132.lt
 have o_g133 := bg133.lt
 have o_g134 := bg134.lt
 have o_bel := hb.size
 intro f142 W143 e144
 clear hx hy hb bg132 bg133 bg134
 obtain ⟨⟨hx, hy, hb, bg132, bg133, bg134⟩, z_⟩ := e144.g
 obtain ⟨s0, s1, s2, s4⟩ := V.e4 e144 s0 s1 s2 s4
 obtain ⟨z138, s10, r145, n146⟩ := V.eq e144 4 10 rfl
 obtain ⟨g141, s5, bg141, lg141⟩ := V.eq e144 5 5 rfl
 have mg141 := Nat.le_trans o_bel lg141
 have q132_141 : g132 ≠ g141 := by omega
 have q133_141 : g133 ≠ g141 := by omega
 have q134_141 : g134 ≠ g141 := by omega
 clear e144 z_
 clear o_bel o_g132 o_g133 o_g134
 refine V.tsr (k := 6) rfl s5 s10 bg141 fun W147 hs b' => ?_
 replace hx := hs.fr hx
 replace hy := hs.fr hy
 replace hb := hs.bel hb mg141
 replace bg132 := hs.blk bg132 q132_141
 replace bg133 := hs.blk bg133 q133_141
 replace bg134 := hs.blk bg134 q134_141
 replace r145 := hs.fr r145
 replace bg141 := b'
 clear hs b'
 refine V.t_done rfl (V.nx (V.seq (V.seq ?_)))
 clear bg133
 refine V.reg 5 [V.E (z138.v), V.E (x.v), (fun v W => ∃ z148 : Fr, v = z148.v ∧ Fr.ok W z148 ∧ (z148.q = ((x.c.cap : Int) : Rat))), V.E (.int .i64 (Q.cmp (y.q * x.c.w.q) ((x.c.cap : Int) : Rat))), V.E (.bool (decide (0 < (Q.cmp (y.q * x.c.w.q) ((x.c.cap : Int) : Rat)))))] [] (V.i hx (V.i hy (V.i hb (V.i bg132 (V.i bg134 (V.i r145 bg141)))))) ?_ ?_
 ·refine V.a5 ?_ ?_ ?_ ?_ ?_
  ·exact V.z1 rfl fun h => V.xl (V.eo h 5 s5) (V.lr h.g.1.2.2.2.2.2.2 Tryz.underlying39)
  ·exact V.z1 rfl fun h => V.xl (V.eo h 2 s2) (V.lr h.g.1.2.2.2.1 Tryz.underlying72)
  ·refine V.s2 rfl fun f W h => ?_
   refine V.call en81 (V.args1 (V.ed h 1 12 rfl)) (Calls.mono (limit_s b0 b1) ?_)
   rintro e W' ⟨z148, rfl, k149, e150, hb⟩
   exact ⟨_, rfl, ⟨z148, rfl, k149, e150⟩, hb⟩
  ·refine V.s2 rfl fun f W h => ?_
   obtain ⟨z148, a13, k2_0, p2_0⟩ := V.dp h 2 13 (by kernel_rfl) rfl
   refine V.call en19 (V.args2 (V.ed h 0 11 rfl) (V.ev_tmp rfl a13)) (Calls.mono (Cmp_s h.g.1.2.2.2.2.2.1 k2_0 (by rw [n146]; exact z3) (by rw [p2_0]; exact ((Q.Sz.cap b0 b1).mono (by decide)))) ?_)
   rintro e W' ⟨e151, hb⟩
   rw [n146, p2_0] at e151
   subst e151
   exact ⟨_, rfl, rfl, hb⟩
  ·exact V.z1 rfl fun h => V.xb (V.ed h 3 14 rfl) rfl
 intro f152 W153 e154
 clear hx hy hb bg132 bg134 r145 bg141
 obtain ⟨⟨hx, hy, hb, bg132, bg134, r145, bg141⟩, z_⟩ := e154.g
 obtain ⟨s0, s1, s2, s4, s5⟩ := V.e5 e154 s0 s1 s2 s4 s5
 have s15 := V.es e154 4 15 rfl
 clear e154 z_
 refine V.t_done rfl (V.nx ?_)
 cases hc155 : (decide (0 < (Q.cmp (y.q * x.c.w.q) ((x.c.cap : Int) : Rat))))
 ·have s15_ : f152 15 = .bool false := s15.trans (by rw [hc155])
  refine V.cond_f (V.ev_tmp rfl s15_) ?_
  refine V.skip ?_
  refine V.nx (V.seq ?_)
  clear bg132
  refine V.reg 1 [V.E (z138.v)] [] (V.i hx (V.i hy (V.i hb (V.i bg134 (V.i r145 bg141))))) ?_ ?_
  ·refine V.ac ?_ V.an
   ·exact V.z1 rfl fun h => V.xl (V.eo h 5 s5) (V.lr h.g.1.2.2.2.2.2 Tryz.underlying39)
  intro f156 W157 e158
  clear hx hy hb bg134 r145 bg141
  obtain ⟨⟨hx, hy, hb, bg134, r145, bg141⟩, z_⟩ := e158.g
  obtain ⟨s0, s1, s4⟩ := V.e3 e158 s0 s1 s4
  have s18 := V.es e158 0 18 rfl
  clear e158 z_
  refine V.tsr (k := 1) rfl s4 s18 bg134 fun W159 hs b' => ?_
  replace hx := hs.fr hx
  replace hy := hs.fr hy
  replace hb := hs.bel hb mg134
  replace r145 := hs.fr r145
  replace bg141 := hs.blk bg141 (Ne.symm q134_141)
  replace bg134 := b'
  clear hs b'
  refine V.t_done rfl (V.nx (V.ret ?_))
  refine V.leave_any (.inl rfl) (V.res_cell rfl rfl s4 (V.lr bg134 Tryz.underlying39 rfl (by kernel_rfl))) ?_
  exact ⟨z138, rfl, r145, (by rw [n146]; exact Q.cmp_le hc155), hb⟩
 ·have s15_ : f152 15 = .bool true := s15.trans (by rw [hc155])
  refine V.cond_t (V.ev_tmp rfl s15_) ?_
  refine V.seq ?_
  refine V.reg 2 [V.E (x.v), (fun v W => ∃ z160 : Fr, v = z160.v ∧ Fr.ok W z160 ∧ (z160.q = ((x.c.cap : Int) : Rat)))] [] (V.i hx (V.i hy (V.i hb (V.i bg132 (V.i bg134 (V.i r145 bg141)))))) ?_ ?_
  ·refine V.a2 ?_ ?_
   ·exact V.z1 rfl fun h => V.xl (V.eo h 2 s2) (V.lr h.g.1.2.2.2.1 Tryz.underlying72)
   ·refine V.s2 rfl fun f W h => ?_
    refine V.call en81 (V.args1 (V.ed h 0 16 rfl)) (Calls.mono (limit_s b0 b1) ?_)
    rintro e W' ⟨z160, rfl, k161, e162, hb⟩
    exact ⟨_, rfl, ⟨z160, rfl, k161, e162⟩, hb⟩
  intro f163 W164 e165
  clear hx hy hb bg132 bg134 r145 bg141
  obtain ⟨⟨hx, hy, hb, bg132, bg134, r145, bg141⟩, z_⟩ := e165.g
  obtain ⟨s0, s1, s4, s5⟩ := V.e4 e165 s0 s1 s4 s5
  obtain ⟨z160, s17, r166, n167⟩ := V.eq e165 1 17 rfl
  clear e165 z_
  refine V.tsr (k := 2) rfl s4 s17 bg134 fun W168 hs b' => ?_
  replace hx := hs.fr hx
  replace hy := hs.fr hy
  replace hb := hs.bel hb mg134
  replace bg132 := hs.blk bg132 q132_134
  replace r145 := hs.fr r145
  replace bg141 := hs.blk bg141 (Ne.symm q134_141)
  replace r166 := hs.fr r166
  replace bg134 := b'
  clear hs b'
  refine V.t_done rfl (V.nx (V.ret (V.tr ?_)))
  refine V.leave_any (.inl rfl) (V.res_cell rfl rfl s4 (V.lr bg134 Tryz.underlying39 rfl (by kernel_rfl))) ?_
  exact ⟨z160, rfl, r166, (by rw [n167]; exact Q.cmp_gt hc155), hb⟩
end Go.Proofs.YtjbcalbbhomkjaaGreat
namespace Go.Proofs.YtjbcalbbhomkjaaGreat
open Go.RowKit
namespace Ins
variable {α : Type} {lt : α → α → Bool} {xs : List α} {i j : Nat} {x y : α}
def Upto (lt : α → α → Bool) (xs : List α) (i : Nat) : Prop := ∀ p r x y, p < r → r < i → xs[p]? = some x → xs[r]? = some y → lt y x = false
def Mid (lt : α → α → Bool) (xs : List α) (i j : Nat) : Prop := ∀ p r x y, p < r → r ≤ i → r ≠ j → xs[p]? = some x → xs[r]? = some y → lt y x = false
theorem upto_one : Upto lt xs 1 := fun p r _ _ h h' => by omega
theorem mid_start (h : Upto lt xs i) : Mid lt xs i i := fun p r x y h1 h2 h3 => h p r x y h1 (by omega)
theorem mid_swap (h : Mid lt xs i j) (hj : 0 < j) (hji : j ≤ i) (hx : xs[j]? = some x) (hy : xs[j - 1]? = some y) (ha : lt y x = false) : Mid lt ((xs.set j y).set (j - 1) x) i (j - 1) := by
 have lj := (List.getElem?_eq_some_iff.1 hx).1
 have g : ∀ p, ((xs.set j y).set (j - 1) x)[p]? = if p = j - 1 then some x else if p = j then some y else xs[p]? := by
  intro p
  rw [List.getElem?_set, List.getElem?_set]
  by_cases h1 : p = j - 1
  ·subst h1; simp; omega
  ·rw [if_neg (Ne.symm h1), if_neg h1]
   by_cases h2 : p = j
   ·subst h2; simp [lj]
   ·rw [if_neg (Ne.symm h2), if_neg h2]
 intro p r u v hpr hri hrj hu hv
 rw [g] at hu hv
 rw [if_neg hrj] at hv
 by_cases h1 : r = j
 ·rw [if_pos h1] at hv
  cases hv
  by_cases h2 : p = j - 1
  ·rw [if_pos h2] at hu; cases hu; exact ha
  ·rw [if_neg h2, if_neg (by omega)] at hu
   exact h p (j - 1) u y (by omega) (by omega) (by omega) hu hy
 ·rw [if_neg h1] at hv
  by_cases h2 : p = j - 1
  ·rw [if_pos h2] at hu; cases hu
   exact h j r x v (by omega) hri h1 hx hv
  ·rw [if_neg h2] at hu
   by_cases h3 : p = j
   ·rw [if_pos h3] at hu; cases hu
    exact h (j - 1) r y v (by omega) hri h1 hy hv
   ·rw [if_neg h3] at hu
    exact h p r u v hpr hri h1 hu hv
theorem mid_stop (h : Mid lt xs i j) (hji : j ≤ i) (hs : 0 < j → ∃ x y, xs[j]? = some x ∧ xs[j - 1]? = some y ∧ lt x y = false)
  (tr : ∀ x y z, x ∈ xs → y ∈ xs → z ∈ xs → lt y x = false → lt z y = false → lt z x = false) : Upto lt xs (i + 1) := by
 intro p r u v hpr hri hu hv
 by_cases h1 : r = j
 ·subst h1
  obtain ⟨x, y, hx, hy, hl⟩ := hs (by omega)
  rw [hx] at hv; cases hv
  by_cases h2 : p = r - 1
  ·subst h2; rw [hy] at hu; cases hu; exact hl
  ·exact tr u y v (List.mem_of_getElem? hu) (List.mem_of_getElem? hy) (List.mem_of_getElem? hx) (h p (r - 1) u y (by omega) (by omega) (by omega) hu hy) hl
 ·exact h p r u v hpr (by omega) h1 hu hv
theorem swap_perm (hx : xs[j]? = some x) (hy : xs[i]? = some y) : ((xs.set j y).set i x).Perm xs := by
 obtain ⟨lj, ej⟩ := List.getElem?_eq_some_iff.1 hx
 obtain ⟨li, ei⟩ := List.getElem?_eq_some_iff.1 hy
 subst ej; subst ei
 exact List.set_set_perm lj li
theorem pairwise (h : Upto lt xs xs.length) : xs.Pairwise fun x y => lt y x = false := by
 rw [List.pairwise_iff_getElem]
 intro p r hp hr hpr
 exact h p r _ _ hpr hr (List.getElem?_eq_getElem hp) (List.getElem?_eq_getElem hr)
end Ins
def Fr.off (g : Nat) (x : Fr) : Prop := (0 < (Lb.limbs (Q.m x.q)).length → ∀ ad, x.A = some ad → ad.block ≠ g) ∧ (0 < (Lb.limbs x.q.den).length → ∀ ad, x.A' = some ad → ad.block ≠ g)
theorem R16.blk_lt {w : World} {A : Option Addr} {n c : Nat} {xs : List Nat} (h : R16 w A n c xs) (hn : 0 < n) (ad : Addr) (e : A = Option.some ad) : ad.block < w.heap.size := by
 obtain ⟨ad', e', hc⟩ := h.some hn
 rw [e] at e'; cases e'
 have := block_lt_of_cell (hc 0 hn)
 rwa [block_of_add] at this
theorem Fr.ok.off {w : World} {x : Fr} {g : Nat} (h : Fr.ok w x) (hg : w.heap.size ≤ g) : Fr.off g x :=
 ⟨fun hn ad e => Nat.ne_of_lt (Nat.lt_of_lt_of_le (h.n.blk_lt hn ad e) hg), fun hn ad e => Nat.ne_of_lt (Nat.lt_of_lt_of_le (h.d.blk_lt hn ad e) hg)⟩
theorem Fr.ok.set {W : World} {x : Fr} {g : Nat} (h : Fr.ok W x) (ho : Fr.off g x) (cs : Array Value) : Fr.ok (W.setRow g cs) x := ⟨⟨V.rd_far h.n.rd ho.1, h.n.ok⟩, ⟨V.rd_far h.d.rd ho.2, h.d.ok⟩⟩
theorem V.Stb.grown {w : World} {r : Option Nat} : V.Stb fun W => w.grownBy W r := fun _ _ h hE => ⟨hE.os.trans h.os, hE.tape.trans h.tape, hE.output.trans h.output, Nat.le_trans h.size hE.size, fun k hk hr => (hE.block k (Nat.lt_of_lt_of_le hk h.size)).trans (h.block k hk hr)⟩
instance {w : World} {r : Option Nat} : V.StC (fun W => w.grownBy W r) := ⟨V.Stb.grown⟩
instance {w0 w : World} {r : Option Nat} : V.Ab w (w0.grownBy w r) (fun W => w0.grownBy W r) := .mk' V.Stb.grown
theorem grown_set {w W : World} {g : Nat} (h : w.grownBy W (some g)) (cs : Array Value) : w.grownBy (W.setRow g cs) (some g) :=
 ⟨h.os, h.tape, h.output, by rw [V.setRow_size]; exact h.size, fun k hk hr => by rw [V.setRow_far (fun e => hr (by rw [e]))]; exact h.block k hk hr⟩
theorem V.Stb.all {α : Type} {p : α → Prop} {q : α → World → Prop} (h : ∀ x, V.Stb (q x)) : V.Stb fun W => ∀ x, p x → q x W := fun W W' hh hE x hx => h x W W' (hh x hx) hE
theorem Own.lsn {W : World} {g k n c : Nat} {T : TypeId} {xs : List (List Value)} {rest : List Value} (h : Own W g T k xs rest) (hn : xs.length = n ∧ n ≤ c ∧ c ≤ 9223372036854775807) : Ls W k (some ⟨g, 0, none⟩) n c xs := by
 obtain ⟨rfl, h1, h2⟩ := hn; exact h.ls h1 h2
theorem madeCells_rep (z : List Value) (n : Nat) : (madeCells z.toArray (n * z.length)).toList = (List.replicate n z).flatten := by
 induction n with
 | zero => simp [madeCells]
 | succ n ih =>
  rw [List.replicate_succ', List.flatten_append, ← ih]
  simp only [madeCells, Nat.add_mul, Nat.one_mul]
  rw [Array.toList_map, Array.toList_map, Array.toList_range, Array.toList_range, List.range_add, List.map_append]
  congr 1
  simp only [List.flatten_cons, List.flatten_nil, List.append_nil, List.map_map]
  apply List.ext_getElem?
  intro i
  simp only [List.getElem?_map, Function.comp]
  by_cases hi : i < z.length
  ·rw [List.getElem?_range hi]
   simp [Nat.mul_add_mod_self_right, Nat.mod_eq_of_lt hi, hi]
  ·rw [List.getElem?_eq_none (by simp; omega), List.getElem?_eq_none (by omega)]; rfl
theorem V.res_none {P : Program} {n : Nat} {fn : Func} {f : Nat → Value} {W : World} (h : fn.results = #[]) : (results fn (RI.frame n f)).run P W = .ok (.tuple #[]) W := by simp [results, h]
theorem Own.made {T : TypeId} {k n : Nat} {z : Value} {xs : List Value} (hz : z.cells = xs.toArray) (hk : xs.length = k) (W : World) : Own (W.alloc (.cells (madeCells z.cells (n * k)) T)) W.heap.size T k (List.replicate n xs) [] := by
 refine ⟨?_, fun y hy => by rw [List.eq_of_mem_replicate hy]; exact hk⟩
 have e := madeCells_rep xs n
 rw [hk] at e
 rw [List.append_nil, ← e, hz]
 exact Blk.new W T _
structure Cl.good (x : Cl) : Prop where
 b0 : 0 ≤ x.cap
 b1 : x.cap ≤ 1099511627776
 s : Q.Sz 4 x.w.q
 p : 0 ≤ x.w.q
structure It.good (x : It) : Prop where
 b0 : 0 ≤ x.c.cap
 b1 : x.c.cap ≤ 1099511627776
 s : Q.Sz 4 x.c.w.q
 p : 0 < x.c.w.q
theorem Rat.ne_of_pos {q : Rat} (h : 0 < q) : q ≠ 0 := by intro e; rw [e] at h; exact absurd h (by decide)
def cmpI (x y : It) : Int := Q.cmp (((x.c.cap : Int) : Rat) * y.c.w.q) (((y.c.cap : Int) : Rat) * x.c.w.q)
def ltI (x y : It) : Bool := decide (cmpI x y < 0)
theorem Q.cmp_lt {a b : Rat} : Q.cmp a b < 0 ↔ a < b := by
 unfold Q.cmp
 split
 ·simp_all
 ·split <;> simp_all
theorem ltI_iff (x y : It) : ltI x y = true ↔ ((x.c.cap : Int) : Rat) * y.c.w.q < ((y.c.cap : Int) : Rat) * x.c.w.q := by
 unfold ltI cmpI; rw [decide_eq_true_iff, Q.cmp_lt]
theorem ltI_f (x y : It) : ltI x y = false ↔ ((y.c.cap : Int) : Rat) * x.c.w.q ≤ ((x.c.cap : Int) : Rat) * y.c.w.q := by
 rw [← Bool.not_eq_true, ltI_iff, Rat.not_lt]
theorem ltI_asym {x y : It} (h : ltI x y = true) : ltI y x = false := by
 rw [ltI_iff] at h; rw [ltI_f]; exact Rat.le_of_lt h
theorem ltI_tr {x y z : It} (hx : 0 < x.c.w.q) (hy : 0 < y.c.w.q) (hz : 0 < z.c.w.q) (h : ltI y x = false) (h' : ltI z y = false) : ltI z x = false := by
 rw [ltI_f] at *
 have h1 := Rat.mul_le_mul_of_nonneg_right h (Rat.le_of_lt hz)
 have h2 := Rat.mul_le_mul_of_nonneg_right h' (Rat.le_of_lt hx)
 have h3 : (((x.c.cap : Int) : Rat) * z.c.w.q) * y.c.w.q ≤ (((z.c.cap : Int) : Rat) * x.c.w.q) * y.c.w.q := by grind
 exact Rat.le_of_mul_le_mul_right h3 hy
end Go.Proofs.YtjbcalbbhomkjaaGreat
namespace Go.Proofs.YtjbcalbbhomkjaaGreat
open Go.RowKit
attribute [local irreducible] RI.frame RI.act RI.Ob RI.Tail RI.out V.Wp V.Fn Oper.wp
theorem en80 : En 80 := en_ Tryz.func80
theorem items_cmp {x y : It} {w : World} (hx : Fr.ok w x.c.w) (hy : Fr.ok w y.c.w) (gx : x.good) (gy : y.good) :
    Calls Tryz.prog 80 #[x.v, y.v] w fun e w' => e = .returned (.int .i64 (cmpI x y)) ∧ Below w.heap.size w w' := by
 refine V.nt Tryz.func80 rfl rfl fun f0 hf => ?_
 have s0 : f0 0 = x.v := hf 0 (by simp)
 have s1 : f0 1 = y.v := hf 1 (by simp)
 clear hf
 have hb := Below.refl w.heap.size w
 refine V.seq ?_
 refine V.reg 3 [V.Nb w 72 #[.int .i64 x.c.id, .bool (Q.neg x.c.w.q), Vs x.c.w.A (Q.m x.c.w.q) x.c.w.c, .bool false, Vs x.c.w.A' x.c.w.q.den x.c.w.c', .int .i64 x.c.cap, .int .i64 x.at_], V.Nb w 72 #[.int .i64 y.c.id, .bool (Q.neg y.c.w.q), Vs y.c.w.A (Q.m y.c.w.q) y.c.w.c, .bool false, Vs y.c.w.A' y.c.w.q.den y.c.w.c', .int .i64 y.c.cap, .int .i64 y.at_], V.E (.int .i64 0)] [0, 1] (V.i hx (V.i hy hb)) ?_ ?_
 ·refine V.a3 ?_ ?_ ?_
  ·exact V.sn rfl fun f W h => V.x_box (V.eo h 0 s0)
  ·exact V.sn rfl fun f W h => V.x_box (V.eo h 1 s1)
  ·exact V.z1 rfl fun h => V.xs rfl
 have o_bel := hb.size
 intro f3 W4 e5
 clear hx hy hb
 obtain ⟨⟨hx, hy, hb⟩, z_⟩ := e5.g
 obtain ⟨s0, s1⟩ := V.e2 e5 s0 s1
 obtain ⟨g1, s2, bg1, lg1⟩ := V.eq e5 0 2 rfl
 obtain ⟨g2, s3, bg2, lg2⟩ := V.eq e5 1 3 rfl
 have s4 := V.es e5 2 4 rfl
 clear e5 z_
 clear o_bel
 refine V.t_done rfl (V.nx (V.seq ?_))
 refine V.reg 14 [V.E (x.v), (fun v W => ∃ z6 : Fr, v = z6.v ∧ Fr.ok W z6 ∧ (z6.q = ((x.c.cap : Int) : Rat))), V.E (Vp g2 0), V.E (Vp g2 1), V.E (y.c.w.v), (fun v W => ∃ z9 : Fr, v = z9.v ∧ Fr.ok W z9 ∧ (z9.q = (((x.c.cap : Int) : Rat) * y.c.w.q))), V.E (y.v), (fun v W => ∃ z12 : Fr, v = z12.v ∧ Fr.ok W z12 ∧ (z12.q = ((y.c.cap : Int) : Rat))), V.E (Vp g1 0), V.E (Vp g1 1), V.E (x.c.w.v), (fun v W => ∃ z15 : Fr, v = z15.v ∧ Fr.ok W z15 ∧ (z15.q = (((y.c.cap : Int) : Rat) * x.c.w.q))), V.E (.int .i64 (Q.cmp (((x.c.cap : Int) : Rat) * y.c.w.q) (((y.c.cap : Int) : Rat) * x.c.w.q))), V.E (.int .i64 (Q.cmp (((x.c.cap : Int) : Rat) * y.c.w.q) (((y.c.cap : Int) : Rat) * x.c.w.q)))] [] (V.i hx (V.i hy (V.i hb (V.i bg1 bg2)))) ?_ ?_
 ·refine V.b8 ?_ ?_ ?_ ?_ ?_ ?_ ?_ ?_ (V.a6 ?_ ?_ ?_ ?_ ?_ ?_)
  ·exact V.z1 rfl fun h => V.xl (V.eo h 2 s2) (V.lr h.g.1.2.2.2.1 Tryz.underlying72)
  ·refine V.s2 rfl fun f W h => ?_
   refine V.call en81 (V.args1 (V.ed h 0 5 rfl)) (Calls.mono (limit_s gx.b0 gx.b1) ?_)
   rintro e W' ⟨z6, rfl, k7, e8, hb⟩
   exact ⟨_, rfl, ⟨z6, rfl, k7, e8⟩, hb⟩
  ·exact V.z1 rfl fun h => V.xa (V.eo h 3 s3)
  ·exact V.z1 rfl fun h => V.xa (V.ed h 2 7 rfl)
  ·exact V.z1 rfl fun h => V.xl (V.ed h 3 8 rfl) (V.ld_mid (xs := [.bool (Q.neg y.c.w.q), Vs y.c.w.A (Q.m y.c.w.q) y.c.w.c, .bool false, Vs y.c.w.A' y.c.w.q.den y.c.w.c']) h.g.1.2.2.2.2 (by intro j hj; match j, hj with | 0, _ => rfl | 1, _ => rfl | 2, _ => rfl | 3, _ => rfl) Tryz.underlying39)
  ·refine V.s2 rfl fun f W h => ?_
   obtain ⟨z6, a6, k1_0, p1_0⟩ := V.dp h 1 6 (by kernel_rfl) rfl
   refine V.call en77 (V.args2 (V.ev_tmp rfl a6) (V.ed h 4 9 rfl)) (Calls.mono (timesS k1_0 h.g.1.2.1 (by rw [p1_0]; exact ((Q.Sz.cap gx.b0 gx.b1).mono (by decide))) (gy.s.mono (by decide)) (by rw [p1_0]; exact (((Q.Sz.cap gx.b0 gx.b1).mul gy.s).mono (by decide)))) ?_)
   rintro e W' ⟨z9, rfl, k10, e11, hb⟩
   exact ⟨_, rfl, ⟨z9, rfl, k10, e11.trans (by rw [p1_0])⟩, hb⟩
  ·exact V.z1 rfl fun h => V.xl (V.eo h 3 s3) (V.lr h.g.1.2.2.2.2 Tryz.underlying72)
  ·refine V.s2 rfl fun f W h => ?_
   refine V.call en81 (V.args1 (V.ed h 6 11 rfl)) (Calls.mono (limit_s gy.b0 gy.b1) ?_)
   rintro e W' ⟨z12, rfl, k13, e14, hb⟩
   exact ⟨_, rfl, ⟨z12, rfl, k13, e14⟩, hb⟩
  ·exact V.z1 rfl fun h => V.xa (V.eo h 2 s2)
  ·exact V.z1 rfl fun h => V.xa (V.ed h 8 13 rfl)
  ·exact V.z1 rfl fun h => V.xl (V.ed h 9 14 rfl) (V.ld_mid (xs := [.bool (Q.neg x.c.w.q), Vs x.c.w.A (Q.m x.c.w.q) x.c.w.c, .bool false, Vs x.c.w.A' x.c.w.q.den x.c.w.c']) h.g.1.2.2.2.1 (by intro j hj; match j, hj with | 0, _ => rfl | 1, _ => rfl | 2, _ => rfl | 3, _ => rfl) Tryz.underlying39)
  ·refine V.s2 rfl fun f W h => ?_
   obtain ⟨z12, a12, k7_0, p7_0⟩ := V.dp h 7 12 (by kernel_rfl) rfl
   refine V.call en77 (V.args2 (V.ev_tmp rfl a12) (V.ed h 10 15 rfl)) (Calls.mono (timesS k7_0 h.g.1.1 (by rw [p7_0]; exact ((Q.Sz.cap gy.b0 gy.b1).mono (by decide))) (gx.s.mono (by decide)) (by rw [p7_0]; exact (((Q.Sz.cap gy.b0 gy.b1).mul gx.s).mono (by decide)))) ?_)
   rintro e W' ⟨z15, rfl, k16, e17, hb⟩
   exact ⟨_, rfl, ⟨z15, rfl, k16, e17.trans (by rw [p7_0])⟩, hb⟩
  ·refine V.s2 rfl fun f W h => ?_
   obtain ⟨z9, a10, k5_0, p5_0⟩ := V.dp h 5 10 (by kernel_rfl) rfl
   obtain ⟨z15, a16, k11_0, p11_0⟩ := V.dp h 11 16 (by kernel_rfl) rfl
   refine V.call en19 (V.args2 (V.ev_tmp rfl a10) (V.ev_tmp rfl a16)) (Calls.mono (Cmp_s k5_0 k11_0 (by rw [p5_0]; exact (((Q.Sz.cap gx.b0 gx.b1).mul gy.s).mono (by decide))) (by rw [p11_0]; exact (((Q.Sz.cap gy.b0 gy.b1).mul gx.s).mono (by decide)))) ?_)
   rintro e W' ⟨e18, hb⟩
   rw [p5_0, p11_0] at e18
   subst e18
   exact ⟨_, rfl, rfl, hb⟩
  ·exact V.se rfl 12 17 rfl
 intro f19 W20 e21
 clear hx hy hb bg1 bg2
 obtain ⟨⟨hx, hy, hb, bg1, bg2⟩, z_⟩ := e21.g
 obtain ⟨s0, s1⟩ := V.e2 e21 s0 s1
 have s4 := V.es e21 13 4 rfl
 clear e21 z_
 refine V.t_done rfl (V.nx (V.ret ?_))
 refine V.leave_any (.inl rfl) (V.res_tmp rfl rfl s4) ?_
 exact ⟨rfl, hb⟩
theorem insertion_it {g cap : Nat} {xs : List It} {rest : List Value} {w : World} (ho : Own w g 72 7 (xs.map It.cells) rest) (hfr : ∀ x ∈ xs, Fr.ok w x.c.w) (hoff : ∀ x ∈ xs, Fr.off g x.c.w) (hgood : ∀ x ∈ xs, x.good) (hcap : xs.length ≤ cap ∧ cap ≤ 9223372036854775807) :
    Calls Tryz.prog 147 #[.slice (some ⟨g, 0, none⟩) xs.length cap, .int .i64 0, .int .i64 (xs.length : Int), .func (.func 80) #[] #[]] w fun e w' => ∃ ys : List It, e = .returned (.tuple #[]) ∧ ys.Perm xs ∧ Ins.Upto ltI ys xs.length ∧ Own w' g 72 7 (ys.map It.cells) rest ∧ w.grownBy w' (some g) := by
 have htr : ∀ {zs : List It}, zs.Perm xs → ∀ x y z, x ∈ zs → y ∈ zs → z ∈ zs → ltI y x = false → ltI z y = false → ltI z x = false := fun p x y z hx hy hz => ltI_tr (hgood x (p.mem_iff.1 hx)).p (hgood y (p.mem_iff.1 hy)).p (hgood z (p.mem_iff.1 hz)).p
 refine V.nt Tryz.func147 rfl rfl fun f0 hf => ?_
 have s0 : f0 0 = .slice (some ⟨g, 0, none⟩) xs.length cap := hf 0 (by simp)
 have s1 : f0 1 = .int .i64 0 := hf 1 (by simp)
 have s2 : f0 2 = .int .i64 (xs.length : Int) := hf 2 (by simp)
 have s3 : f0 3 = .func (.func 80) #[] #[] := hf 3 (by simp)
 clear hf
 have hb : w.grownBy w (some g) := World.grownBy.refl w _
 refine V.seq ?_
 refine V.reg 3 [V.E (.int .i64 0), V.E (.int .i64 (0 + 1)), V.E (.int .i64 (0 + 1))] [] (V.i ho (V.i hfr hb)) ?_ ?_
 ·refine V.a3 ?_ ?_ ?_
  ·exact V.mo rfl 1 s1
  ·refine V.s1 rfl fun f W h => ?_
   have hw22 : IntKind.i64.wrap (0 + 1) = 0 + 1 := by exact IntWalk.i64_in _ (by omega)
   exact V.xb (V.ed h 0 10 rfl) rfl ((by kernel_rfl : _ = Result.ok (.int .i64 (IntKind.i64.wrap (0 + 1))) _).trans (by rw [hw22]))
  ·exact V.se rfl 1 11 rfl
 intro f23 W24 e25
 clear ho hfr hb
 obtain ⟨⟨ho, hfr, hb⟩, z_⟩ := e25.g
 obtain ⟨s0, s1, s2, s3⟩ := V.e4 e25 s0 s1 s2 s3
 have s8 := V.es e25 2 8 rfl
 clear e25 z_
 refine V.t_done rfl (V.nx (V.block ?_))
 refine V.loop (fun k f W => ∃ i : Nat, ∃ ys : List It, (k = xs.length - i ∧ (ys.Perm xs) ∧ (Ins.Upto ltI ys i) ∧ (1 ≤ i)) ∧ (f 0 = .slice (some ⟨g, 0, none⟩) xs.length cap ∧ f 1 = .int .i64 0 ∧ f 2 = .int .i64 (xs.length : Int) ∧ f 3 = .func (.func 80) #[] #[] ∧ f 8 = .int .i64 (i : Int)) ∧ (w.grownBy W (some g) ∧ Own W g 72 7 (ys.map It.cells) rest ∧ (∀ x ∈ xs, Fr.ok W x.c.w))) (xs.length - 1) ⟨1, xs, ⟨rfl, List.Perm.refl _, Ins.upto_one, Nat.le_refl _⟩, ⟨s0, s1, s2, s3, (s8.trans (by simp))⟩, ⟨hb, ho, hfr⟩⟩ ?_
 clear ho hfr hb s0 s1 s2 s3 s8
 rintro k28 f26 W27 ⟨i, ys, ⟨hk32, py, uy, hi1⟩, ⟨s0, s1, s2, s3, s8⟩, ⟨r29, r30, r31⟩⟩
 refine V.seq (V.seq ?_)
 refine V.reg 3 [V.E (.int .i64 (i : Int)), V.E (.int .i64 (xs.length : Int)), V.E (.bool (decide ((i : Int) < (xs.length : Int))))] [] (V.i r29 (V.i r30 r31)) ?_ ?_
 ·refine V.a3 ?_ ?_ ?_
  ·exact V.mo rfl 8 s8
  ·exact V.mo rfl 2 s2
  ·exact V.z1 rfl fun h => V.xb (V.ed h 0 12 rfl) (V.ed h 1 13 rfl)
 intro f33 W34 e35
 clear r29 r30 r31
 obtain ⟨⟨r29, r30, r31⟩, z_⟩ := e35.g
 obtain ⟨s0, s1, s2, s3, s8⟩ := V.e5 e35 s0 s1 s2 s3 s8
 have s14 := V.es e35 2 14 rfl
 clear e35 z_
 refine V.t_done rfl (V.nx ?_)
 cases hc36 : (decide ((i : Int) < (xs.length : Int)))
 ·have s14_ : f33 14 = .bool false := s14.trans (by rw [hc36])
  refine V.cond_f (V.ev_tmp rfl s14_) ?_
  have hin := hc36
  simp at hin
  refine V.exit (V.tx (V.tx (V.bx ?_)))
  refine V.leave_any (.inr rfl) (V.res_none rfl) ?_
  exact ⟨ys, rfl, py, fun p r x y h1 h2 => uy p r x y h1 (by omega), r30, r29⟩
 ·have s14_ : f33 14 = .bool true := s14.trans (by rw [hc36])
  refine V.cond_t (V.ev_tmp rfl s14_) ?_
  have hin := hc36
  simp at hin
  refine V.skip ?_
  refine V.nx (V.seq (V.block (V.seq ?_)))
  refine V.reg 2 [V.E (.int .i64 (i : Int)), V.E (.int .i64 (i : Int))] [] (V.i r29 (V.i r30 r31)) ?_ ?_
  ·refine V.a2 ?_ ?_
   ·exact V.mo rfl 8 s8
   ·exact V.se rfl 0 17 rfl
  intro f37 W38 e39
  clear r29 r30 r31
  obtain ⟨⟨r29, r30, r31⟩, z_⟩ := e39.g
  obtain ⟨s0, s1, s2, s3, s8⟩ := V.e5 e39 s0 s1 s2 s3 s8
  have s9 := V.es e39 1 9 rfl
  clear e39 z_
  refine V.t_done rfl (V.nx (V.block ?_))
  refine V.loop (fun k f W => ∃ j : Nat, ∃ zs : List It, (k = j ∧ (zs.Perm xs) ∧ (Ins.Mid ltI zs i j) ∧ (j ≤ i)) ∧ (f 0 = .slice (some ⟨g, 0, none⟩) xs.length cap ∧ f 1 = .int .i64 0 ∧ f 2 = .int .i64 (xs.length : Int) ∧ f 3 = .func (.func 80) #[] #[] ∧ f 8 = .int .i64 (i : Int) ∧ f 9 = .int .i64 (j : Int)) ∧ (w.grownBy W (some g) ∧ Own W g 72 7 (zs.map It.cells) rest ∧ (∀ x ∈ xs, Fr.ok W x.c.w))) (i) ⟨i, ys, ⟨rfl, py, Ins.mid_start uy, Nat.le_refl _⟩, ⟨s0, s1, s2, s3, s8, s9⟩, ⟨r29, r30, r31⟩⟩ ?_
  clear r29 r30 r31 s0 s1 s2 s3 s8 s9
  rintro k42 f40 W41 ⟨j, zs, ⟨hk46, pz, mz, hji⟩, ⟨s0, s1, s2, s3, s8, s9⟩, ⟨r43, r44, r45⟩⟩
  have hl : zs.length = xs.length := pz.length_eq
  have hm : xs.length ≤ cap ∧ cap ≤ 9223372036854775807 := hcap
  obtain ⟨x, mx, ex, ex_⟩ := V.at_map It.cells (l := zs) (i := j) (by omega)
  have gx := hgood x (pz.mem_iff.1 mx)
  have fx := r45 x (pz.mem_iff.1 mx)
  obtain ⟨y, my, ey, ey_⟩ := V.at_map It.cells (l := zs) (i := j - 1) (by omega)
  have gy := hgood y (pz.mem_iff.1 my)
  have fy := r45 y (pz.mem_iff.1 my)
  refine V.seq (V.seq ?_)
  refine V.reg 17 [V.E (.int .i64 (j : Int)), V.E (.int .i64 0), V.E (.bool (decide (0 < (j : Int)))), V.E (.bool (decide (0 < (j : Int)))), (V.Gd (decide (0 < (j : Int))) (V.E (.func (.func 80) #[] #[]))), (V.Gd (decide (0 < (j : Int))) (V.E (.slice (some ⟨g, 0, none⟩) xs.length cap))), (V.Gd (decide (0 < (j : Int))) (V.E (.int .i64 (j : Int)))), (V.Gd (decide (0 < (j : Int))) (V.E (.pointer (some ((adr (some ⟨g, 0, none⟩)).add (j * 7 + 0)))))), (V.Gd (decide (0 < (j : Int))) (V.E (x.v))), (V.Gd (decide (0 < (j : Int))) (V.E (.slice (some ⟨g, 0, none⟩) xs.length cap))), (V.Gd (decide (0 < (j : Int))) (V.E (.int .i64 (j : Int)))), (V.Gd (decide (0 < (j : Int))) (V.E (.int .i64 ((j : Int) - 1)))), (V.Gd (decide (0 < (j : Int))) (V.E (.pointer (some ((adr (some ⟨g, 0, none⟩)).add ((j - 1) * 7 + 0)))))), (V.Gd (decide (0 < (j : Int))) (V.E (y.v))), (V.Gd (decide (0 < (j : Int))) (V.E (.int .i64 (cmpI x y)))), (V.Gd (decide (0 < (j : Int))) (V.E (.bool (decide ((cmpI x y) < 0))))), V.E (.bool ((decide (0 < (j : Int))) && (decide ((cmpI x y) < 0))))] [] (V.i r43 (V.i r44 (V.i r45 (V.i fx fy)))) ?_ ?_
  ·refine V.b8 ?_ ?_ ?_ ?_ ?_ ?_ ?_ ?_ (V.b8 ?_ ?_ ?_ ?_ ?_ ?_ ?_ ?_ (V.ac ?_ V.an))
   ·exact V.mo rfl 9 s9
   ·exact V.mo rfl 1 s1
   ·exact V.z1 rfl fun h => V.xb (V.ed h 0 18 rfl) (V.ed h 1 19 rfl)
   ·exact V.me rfl 2 20 rfl
   ·exact V.gt 3 21 rfl rfl fun hp f W h => V.v1 (V.xm (V.eo h 3 s3))
   ·exact V.gt 3 21 rfl rfl fun hp f W h => V.v1 (V.xm (V.eo h 0 s0))
   ·exact V.gt 3 21 rfl rfl fun hp f W h => V.v1 (V.xm (V.eo h 9 s9))
   ·exact V.gt 3 21 rfl rfl fun hp f W h => V.v1 (V.xi (i := j) (Own.lsn h.g.1.2.1 ⟨by simp [hl], hm⟩) ex_ (V.eg h 5 23 rfl hp) (V.eg h 6 24 rfl hp))
   ·exact V.gt 3 21 rfl rfl fun hp f W h => V.v1 (V.xl (V.eg h 7 25 rfl hp) (V.ld_lsE (i := j) (o := 0) (cs := [.int .i64 x.c.id, .bool (Q.neg x.c.w.q), Vs x.c.w.A (Q.m x.c.w.q) x.c.w.c, .bool false, Vs x.c.w.A' x.c.w.q.den x.c.w.c', .int .i64 x.c.cap, .int .i64 x.at_]) (Own.lsn h.g.1.2.1 ⟨by simp [hl], hm⟩) ex_ Tryz.underlying72))
   ·exact V.gt 3 21 rfl rfl fun hp f W h => V.v1 (V.xm (V.eo h 0 s0))
   ·exact V.gt 3 21 rfl rfl fun hp f W h => V.v1 (V.xm (V.eo h 9 s9))
   ·refine V.gt 3 21 rfl rfl fun hp f W h => ?_
    have hw47 : IntKind.i64.wrap ((j : Int) - 1) = (j : Int) - 1 := by exact IntWalk.i64_in _ (by omega)
    exact V.v2 (.int .i64 ((j : Int) - 1)) (V.xb (V.eg h 10 28 rfl hp) rfl ((by kernel_rfl : _ = Result.ok (.int .i64 (IntKind.i64.wrap ((j : Int) - 1))) _).trans (by rw [hw47]))) rfl
   ·exact V.gt 3 21 rfl rfl fun hp f W h => V.v1 (V.xi (i := (j - 1)) (Own.lsn h.g.1.2.1 ⟨by simp [hl], hm⟩) ey_ (V.eg h 9 27 rfl hp) ((V.eg h 11 29 rfl hp).trans (congrArg (Value.int .i64) (by have h0 := of_decide_eq_true hp; omega))))
   ·exact V.gt 3 21 rfl rfl fun hp f W h => V.v1 (V.xl (V.eg h 12 30 rfl hp) (V.ld_lsE (i := j - 1) (o := 0) (cs := [.int .i64 y.c.id, .bool (Q.neg y.c.w.q), Vs y.c.w.A (Q.m y.c.w.q) y.c.w.c, .bool false, Vs y.c.w.A' y.c.w.q.den y.c.w.c', .int .i64 y.c.cap, .int .i64 y.at_]) (Own.lsn h.g.1.2.1 ⟨by simp [hl], hm⟩) ey_ Tryz.underlying72))
   ·refine V.gt 3 21 rfl rfl fun hp f W h => ?_
    refine V.callv (V.eg h 4 22 rfl hp) en80 (V.args2 (V.eg h 8 26 rfl hp) (V.eg h 13 31 rfl hp)) (Calls.mono (items_cmp h.g.1.2.2.2.1 h.g.1.2.2.2.2 gx gy) ?_)
    rintro e W' ⟨rfl, hb⟩
    exact ⟨_, rfl, rfl, hb⟩
   ·exact V.gt 3 21 rfl rfl fun hp f W h => V.v1 (V.xb (V.eg h 14 32 rfl hp) rfl)
   ·refine V.s1 rfl fun f W h => ?_
    have d33 := V.dp h 15 33 (by kernel_rfl) rfl
    exact V.x_and (V.ed h 3 21 rfl) (fun e => V.ev_tmp rfl (V.gd_on d33 e)) rfl
  intro f48 W49 e50
  clear r43 r44 r45 fx fy
  obtain ⟨⟨r43, r44, r45, fx, fy⟩, z_⟩ := e50.g
  obtain ⟨s0, s1, s2, s3, s8, s9⟩ := V.e6 e50 s0 s1 s2 s3 s8 s9
  have s34 := V.es e50 16 34 rfl
  clear e50 z_
  refine V.t_done rfl (V.nx ?_)
  cases hc51 : ((decide (0 < (j : Int))) && (decide ((cmpI x y) < 0)))
  ·have s34_ : f48 34 = .bool false := s34.trans (by rw [hc51])
   refine V.cond_f (V.ev_tmp rfl s34_) ?_
   have hst : 0 < j → ∃ x y, zs[j]? = some x ∧ zs[j - 1]? = some y ∧ ltI x y = false := fun h0 => ⟨x, y, ex, ey, by
    have h1 := hc51
    rw [decide_eq_true (by omega : 0 < (j : Int)), Bool.true_and] at h1
    exact h1⟩
   refine V.exit (V.tx (V.tx (V.bx (V.bn (V.nx ?_)))))
   refine V.reg 3 [V.E (.int .i64 (i : Int)), V.E (.int .i64 ((i : Int) + 1)), V.E (.int .i64 ((i : Int) + 1))] [] (V.i r43 (V.i r44 (V.i r45 (V.i fx fy)))) ?_ ?_
   ·refine V.a3 ?_ ?_ ?_
    ·exact V.mo rfl 8 s8
    ·refine V.s1 rfl fun f W h => ?_
     have hw52 : IntKind.i64.wrap ((i : Int) + 1) = (i : Int) + 1 := by exact IntWalk.i64_in _ (by omega)
     exact V.xb (V.ed h 0 15 rfl) rfl ((by kernel_rfl : _ = Result.ok (.int .i64 (IntKind.i64.wrap ((i : Int) + 1))) _).trans (by rw [hw52]))
    ·exact V.se rfl 1 16 rfl
   intro f53 W54 e55
   clear r43 r44 r45 fx fy
   obtain ⟨⟨r43, r44, r45, fx, fy⟩, z_⟩ := e55.g
   obtain ⟨s0, s1, s2, s3⟩ := V.e4 e55 s0 s1 s2 s3
   have s8 := V.es e55 2 8 rfl
   clear e55 z_
   refine V.t_done rfl ?_
   refine V.handed (xs.length - (i + 1)) (by have := hk32; omega) ⟨(i + 1), zs, ⟨rfl, pz, Ins.mid_stop mz hji hst (htr pz), by omega⟩, ⟨s0, s1, s2, s3, (s8.trans (by simp))⟩, ⟨r43, r44, r45⟩⟩
  ·have s34_ : f48 34 = .bool true := s34.trans (by rw [hc51])
   refine V.cond_t (V.ev_tmp rfl s34_) ?_
   have hj0 : 0 < j := by have := of_decide_eq_true (V.and_l hc51); omega
   have hlt : ltI x y = true := V.and_r hc51
   refine V.skip ?_
   refine V.nx (V.seq (V.block ?_))
   refine V.regF 15 [V.E (.slice (some ⟨g, 0, none⟩) xs.length cap), V.E (.int .i64 (j : Int)), V.E (.slice (some ⟨g, 0, none⟩) xs.length cap), V.E (.int .i64 (j : Int)), V.E (.int .i64 ((j : Int) - 1)), V.E (.slice (some ⟨g, 0, none⟩) xs.length cap), V.E (.int .i64 (j : Int)), V.E (.int .i64 ((j : Int) - 1)), V.E (.pointer (some ((adr (some ⟨g, 0, none⟩)).add ((j - 1) * 7 + 0)))), V.E (y.v), V.E (.slice (some ⟨g, 0, none⟩) xs.length cap), V.E (.int .i64 (j : Int)), V.E (.pointer (some ((adr (some ⟨g, 0, none⟩)).add (j * 7 + 0)))), V.E (x.v), V.E (.pointer (some ((adr (some ⟨g, 0, none⟩)).add (j * 7 + 0))))] [] (V.i r43 (V.i r44 r45)) [2, 3, 4] (fun _ => True) (fun _ _ => trivial) ?_ ?_ ?_
   ·refine V.b8 ?_ ?_ ?_ ?_ ?_ ?_ ?_ ?_ (V.a7 ?_ ?_ ?_ ?_ ?_ ?_ ?_)
    ·exact V.mo rfl 0 s0
    ·exact V.mo rfl 9 s9
    ·exact V.mo rfl 0 s0
    ·exact V.mo rfl 9 s9
    ·refine V.s1 rfl fun f W h => ?_
     have hw56 : IntKind.i64.wrap ((j : Int) - 1) = (j : Int) - 1 := by exact IntWalk.i64_in _ (by omega)
     exact V.xb (V.ed h 3 40 rfl) rfl ((by kernel_rfl : _ = Result.ok (.int .i64 (IntKind.i64.wrap ((j : Int) - 1))) _).trans (by rw [hw56]))
    ·exact V.mo rfl 0 s0
    ·exact V.mo rfl 9 s9
    ·refine V.s1 rfl fun f W h => ?_
     have hw57 : IntKind.i64.wrap ((j : Int) - 1) = (j : Int) - 1 := by exact IntWalk.i64_in _ (by omega)
     exact V.xb (V.ed h 6 43 rfl) rfl ((by kernel_rfl : _ = Result.ok (.int .i64 (IntKind.i64.wrap ((j : Int) - 1))) _).trans (by rw [hw57]))
    ·exact V.z1 rfl fun h => V.xi (i := (j - 1)) (Own.lsn h.g.1.2.1 ⟨by simp [hl], hm⟩) ey_ (V.ed h 5 42 rfl) ((V.ed h 7 44 rfl).trans (congrArg (Value.int .i64) (by omega)))
    ·exact V.z1 rfl fun h => V.xl (V.ed h 8 45 rfl) (V.ld_lsE (i := j - 1) (o := 0) (cs := [.int .i64 y.c.id, .bool (Q.neg y.c.w.q), Vs y.c.w.A (Q.m y.c.w.q) y.c.w.c, .bool false, Vs y.c.w.A' y.c.w.q.den y.c.w.c', .int .i64 y.c.cap, .int .i64 y.at_]) (Own.lsn h.g.1.2.1 ⟨by simp [hl], hm⟩) ey_ Tryz.underlying72)
    ·exact V.mo rfl 0 s0
    ·exact V.mo rfl 9 s9
    ·exact V.z1 rfl fun h => V.xi (i := j) (Own.lsn h.g.1.2.1 ⟨by simp [hl], hm⟩) ex_ (V.ed h 10 47 rfl) (V.ed h 11 48 rfl)
    ·exact V.z1 rfl fun h => V.xl (V.ed h 12 49 rfl) (V.ld_lsE (i := j) (o := 0) (cs := [.int .i64 x.c.id, .bool (Q.neg x.c.w.q), Vs x.c.w.A (Q.m x.c.w.q) x.c.w.c, .bool false, Vs x.c.w.A' x.c.w.q.den x.c.w.c', .int .i64 x.c.cap, .int .i64 x.at_]) (Own.lsn h.g.1.2.1 ⟨by simp [hl], hm⟩) ex_ Tryz.underlying72)
    ·exact V.z1 rfl fun h => V.xi (i := j) (Own.lsn h.g.1.2.1 ⟨by simp [hl], hm⟩) ex_ (V.ed h 0 37 rfl) (V.ed h 1 38 rfl)
   ·refine V.fl3 (V.fl_step rfl rfl fun f W h => ?_) (V.fl_step rfl rfl fun f W h => ?_) (V.fl_step rfl rfl fun f W h => ?_)
    ·skip
     exact ⟨.slice (some ⟨g, 0, none⟩) xs.length cap, fun _ _ => V.xm (V.eo h 0 s0), rfl⟩
    ·skip
     exact ⟨.int .i64 (j : Int), fun _ _ => V.xm (V.eo h 9 s9), rfl⟩
    ·have hw56 : IntKind.i64.wrap ((j : Int) - 1) = (j : Int) - 1 := by exact IntWalk.i64_in _ (by omega)
     exact ⟨.int .i64 ((j : Int) - 1), fun _ _ => V.xb (V.ed h 3 40 rfl) rfl ((by kernel_rfl : _ = Result.ok (.int .i64 (IntKind.i64.wrap ((j : Int) - 1))) _).trans (by rw [hw56])), rfl⟩
   intro f58 W59 e60
   clear r43 r44 r45
   obtain ⟨⟨r43, r44, r45⟩, z_⟩ := e60.g
   obtain ⟨s0, s1, s2, s3, s8, s9⟩ := V.e6 e60 s0 s1 s2 s3 s8 s9
   have s39 := V.es e60 2 39 rfl
   have s41 := V.es e60 4 41 rfl
   have s46 := V.es e60 9 46 rfl
   have s50 := V.es e60 13 50 rfl
   have s51 := V.es e60 14 51 rfl
   clear e60 z_
   refine V.t_skip (k := 15) rfl rfl rfl (by kernel_rfl) trivial (V.x_store (V.ev_tmp rfl s51) (V.ev_tmp rfl s46) (V.st_own (i := j) (x := [.int .i64 y.c.id, .bool (Q.neg y.c.w.q), Vs y.c.w.A (Q.m y.c.w.q) y.c.w.c, .bool false, Vs y.c.w.A' y.c.w.q.den y.c.w.c', .int .i64 y.c.cap, .int .i64 y.at_]) r44 (by simp [hl]; omega) rfl (by kernel_rfl) (by kernel_rfl))) ?_
   replace r43 := grown_set r43 ((((zs.map It.cells).set j [.int .i64 y.c.id, .bool (Q.neg y.c.w.q), Vs y.c.w.A (Q.m y.c.w.q) y.c.w.c, .bool false, Vs y.c.w.A' y.c.w.q.den y.c.w.c', .int .i64 y.c.cap, .int .i64 y.at_]).flatten ++ rest).toArray)
   replace r45 := (fun x_0 hx_0 => Fr.ok.set (r45 x_0 hx_0) (hoff x_0 hx_0) ((((zs.map It.cells).set j [.int .i64 y.c.id, .bool (Q.neg y.c.w.q), Vs y.c.w.A (Q.m y.c.w.q) y.c.w.c, .bool false, Vs y.c.w.A' y.c.w.q.den y.c.w.c', .int .i64 y.c.cap, .int .i64 y.at_]).flatten ++ rest).toArray))
   replace r44 := Own.set (i := j) (x := [.int .i64 y.c.id, .bool (Q.neg y.c.w.q), Vs y.c.w.A (Q.m y.c.w.q) y.c.w.c, .bool false, Vs y.c.w.A' y.c.w.q.den y.c.w.c', .int .i64 y.c.cap, .int .i64 y.at_]) r44 rfl
   generalize W59.setRow g (((zs.map It.cells).set j [.int .i64 y.c.id, .bool (Q.neg y.c.w.q), Vs y.c.w.A (Q.m y.c.w.q) y.c.w.c, .bool false, Vs y.c.w.A' y.c.w.q.den y.c.w.c', .int .i64 y.c.cap, .int .i64 y.at_]).flatten ++ rest).toArray = W61 at *
   have r44_ : Own W61 g 72 7 ((zs.set j y).map It.cells) rest := by rw [List.map_set]; exact r44
   clear r44
   have r44 := r44_
   clear r44_
   have ey2_ : ((zs.set j y).map It.cells)[j - 1]? = some (It.cells y) := by rw [List.getElem?_map, List.getElem?_set_ne (by omega), ey]; rfl
   refine V.t_val (k := 16) (v := .pointer (some ((adr (some ⟨g, 0, none⟩)).add ((j - 1) * 7 + 0)))) (t := 52) rfl rfl rfl (by kernel_rfl) trivial (V.xi (i := (j - 1)) (Own.lsn r44 ⟨by simp [hl], hm⟩) ey2_ (V.ev_tmp rfl s39) ((V.ev_tmp rfl s41).trans (congrArg (Value.int .i64) (by omega))) rfl (by kernel_rfl)) ?_
   intro f62 e63 u64
   replace s0 : f62 0 = .slice (some ⟨g, 0, none⟩) xs.length cap := (u64 0 (by decide)).trans s0
   replace s1 : f62 1 = .int .i64 0 := (u64 1 (by decide)).trans s1
   replace s2 : f62 2 = .int .i64 (xs.length : Int) := (u64 2 (by decide)).trans s2
   replace s3 : f62 3 = .func (.func 80) #[] #[] := (u64 3 (by decide)).trans s3
   replace s8 : f62 8 = .int .i64 (i : Int) := (u64 8 (by decide)).trans s8
   replace s9 : f62 9 = .int .i64 (j : Int) := (u64 9 (by decide)).trans s9
   replace s39 : f62 39 = .slice (some ⟨g, 0, none⟩) xs.length cap := (u64 39 (by decide)).trans s39
   replace s41 : f62 41 = .int .i64 ((j : Int) - 1) := (u64 41 (by decide)).trans s41
   replace s46 : f62 46 = y.v := (u64 46 (by decide)).trans s46
   replace s50 : f62 50 = x.v := (u64 50 (by decide)).trans s50
   replace s51 : f62 51 = .pointer (some ((adr (some ⟨g, 0, none⟩)).add (j * 7 + 0))) := (u64 51 (by decide)).trans s51
   have s52 := e63
   clear u64
   refine V.t_skip (k := 17) rfl rfl rfl (by kernel_rfl) trivial (V.x_store (V.ev_tmp rfl s52) (V.ev_tmp rfl s50) (V.st_own (i := j - 1) (x := [.int .i64 x.c.id, .bool (Q.neg x.c.w.q), Vs x.c.w.A (Q.m x.c.w.q) x.c.w.c, .bool false, Vs x.c.w.A' x.c.w.q.den x.c.w.c', .int .i64 x.c.cap, .int .i64 x.at_]) r44 (by simp [hl]; omega) rfl (by kernel_rfl) (by kernel_rfl))) ?_
   replace r43 := grown_set r43 (((((zs.set j y).map It.cells).set (j - 1) [.int .i64 x.c.id, .bool (Q.neg x.c.w.q), Vs x.c.w.A (Q.m x.c.w.q) x.c.w.c, .bool false, Vs x.c.w.A' x.c.w.q.den x.c.w.c', .int .i64 x.c.cap, .int .i64 x.at_]).flatten ++ rest).toArray)
   replace r45 := (fun x_0 hx_0 => Fr.ok.set (r45 x_0 hx_0) (hoff x_0 hx_0) (((((zs.set j y).map It.cells).set (j - 1) [.int .i64 x.c.id, .bool (Q.neg x.c.w.q), Vs x.c.w.A (Q.m x.c.w.q) x.c.w.c, .bool false, Vs x.c.w.A' x.c.w.q.den x.c.w.c', .int .i64 x.c.cap, .int .i64 x.at_]).flatten ++ rest).toArray))
   replace r44 := Own.set (i := j - 1) (x := [.int .i64 x.c.id, .bool (Q.neg x.c.w.q), Vs x.c.w.A (Q.m x.c.w.q) x.c.w.c, .bool false, Vs x.c.w.A' x.c.w.q.den x.c.w.c', .int .i64 x.c.cap, .int .i64 x.at_]) r44 rfl
   generalize W61.setRow g ((((zs.set j y).map It.cells).set (j - 1) [.int .i64 x.c.id, .bool (Q.neg x.c.w.q), Vs x.c.w.A (Q.m x.c.w.q) x.c.w.c, .bool false, Vs x.c.w.A' x.c.w.q.den x.c.w.c', .int .i64 x.c.cap, .int .i64 x.at_]).flatten ++ rest).toArray = W65 at *
   have r44_ : Own W65 g 72 7 (((zs.set j y).set (j - 1) x).map It.cells) rest := by rw [List.map_set]; exact r44
   clear r44
   have r44 := r44_
   clear r44_
   refine V.t_done rfl (V.bn (V.nx ?_))
   refine V.reg 3 [V.E (.int .i64 (j : Int)), V.E (.int .i64 ((j : Int) - 1)), V.E (.int .i64 ((j : Int) - 1))] [] (V.i r43 (V.i r44 r45)) ?_ ?_
   ·refine V.a3 ?_ ?_ ?_
    ·exact V.mo rfl 9 s9
    ·refine V.s1 rfl fun f W h => ?_
     have hw66 : IntKind.i64.wrap ((j : Int) - 1) = (j : Int) - 1 := by exact IntWalk.i64_in _ (by omega)
     exact V.xb (V.ed h 0 35 rfl) rfl ((by kernel_rfl : _ = Result.ok (.int .i64 (IntKind.i64.wrap ((j : Int) - 1))) _).trans (by rw [hw66]))
    ·exact V.se rfl 1 36 rfl
   intro f67 W68 e69
   clear r43 r44 r45
   obtain ⟨⟨r43, r44, r45⟩, z_⟩ := e69.g
   obtain ⟨s0, s1, s2, s3, s8⟩ := V.e5 e69 s0 s1 s2 s3 s8
   have s9 := V.es e69 2 9 rfl
   clear e69 z_
   refine V.t_done rfl ?_
   refine V.handed ((j - 1)) (by have := hk46; omega) ⟨(j - 1), ((zs.set j y).set (j - 1) x), ⟨rfl, (Ins.swap_perm ex ey).trans pz, Ins.mid_swap mz hj0 hji ex ey (ltI_asym hlt), by omega⟩, ⟨s0, s1, s2, s3, s8, (s9.trans (by simp; omega))⟩, ⟨r43, r44, r45⟩⟩
end Go.Proofs.YtjbcalbbhomkjaaGreat
namespace Go.Proofs.YtjbcalbbhomkjaaGreat
open Go.RowKit
structure Acc (W : World) (B : Nat) (T : TypeId) (k : Nat) (A : Option Addr) (c : Nat) (xs : List (List Value)) : Prop where
 own : W.ownsRow B T k (.slice A xs.length c) xs.length xs.flatten
 sz : ∀ x ∈ xs, x.length = k
 le : B ≤ W.heap.size
theorem Acc.nil {W : World} {B : Nat} {T : TypeId} {k : Nat} (h : B ≤ W.heap.size) : Acc W B T k none 0 [] := ⟨⟨by simp, .inl ⟨rfl, rfl⟩⟩, by simp, h⟩
theorem V.Stb.acc {B : Nat} {T : TypeId} {k c : Nat} {A : Option Addr} {xs : List (List Value)} : V.Stb fun W => Acc W B T k A c xs := fun _ _ h hE => ⟨ownsRow_below h.own hE, h.sz, Nat.le_trans h.le hE.size⟩
instance {B : Nat} {T : TypeId} {k c : Nat} {A : Option Addr} {xs : List (List Value)} : V.StC (fun W => Acc W B T k A c xs) := ⟨V.Stb.acc⟩
instance {w : World} {B : Nat} {T : TypeId} {k c : Nat} {A : Option Addr} {xs : List (List Value)} : V.Ab w (Acc w B T k A c xs) (fun W => Acc W B T k A c xs) := .mk' V.Stb.acc
theorem Acc.forms {W : World} {B : Nat} {T : TypeId} {k c : Nat} {A : Option Addr} {xs : List (List Value)} (h : Acc W B T k A c xs) :
  (A = none ∧ c = 0 ∧ xs = []) ∨ ∃ g rest, A = some ⟨g, 0, none⟩ ∧ B ≤ g ∧ Own W g T k xs rest ∧ xs.length ≤ c ∧ c ≤ 9223372036854775807 := by
 rcases h.own.2 with ⟨h1, h2⟩ | ⟨g, cap, cur, h1, hB, hh, hn, hm, hs, ht⟩
 ·left
  injection h1 with a b c
  exact ⟨a, c, List.eq_nil_of_length_eq_zero h2⟩
 ·right
  injection h1 with a b c
  subst c
  refine ⟨g, cur.toList.drop (xs.length * k), a, hB, ⟨?_, h.sz⟩, hn, by simpa [maxLen] using hm⟩
  rw [← ht, List.take_append_drop]
  exact hh
theorem Acc.ls {W : World} {B : Nat} {T : TypeId} {k c : Nat} {A : Option Addr} {xs : List (List Value)} (h : Acc W B T k A c xs) : Ls W k A xs.length c xs := by
 rcases h.forms with ⟨rfl, rfl, rfl⟩ | ⟨g, rest, rfl, _, ho, h1, h2⟩
 ·exact Ls.nil (by omega)
 ·exact ho.ls h1 h2
theorem Below.le {B B' : Nat} {w w' : World} (h : Below B w w') (hb : B' ≤ B) : Below B' w w' := ⟨h.os, h.tape, h.output, h.size, fun k hk => h.block k (by omega)⟩
theorem Below.of_grown {B : Nat} {w w' : World} {r : Option Nat} (h : w.grownBy w' r) (hB : B ≤ w.heap.size) (hr : ∀ k, r = some k → B ≤ k) : Below B w w' :=
 ⟨h.os, h.tape, h.output, h.size, fun k hk => h.block k (by omega) (fun e => by have := hr k e.symm; omega)⟩
theorem acc_append {P : Program} {W : World} {B : Nat} {T t ty : TypeId} {k c g1 : Nat} {z : Value} {A : Option Addr} {xs : List (List Value)} {T' : TypeId} {x : List Value}
  (h : Acc W B T k A c xs) (hx : Blk W g1 T' x.toArray) (hxl : x.length = k) (hroom : xs.length ≤ 100000) (ht : P.underlying t = some (.slice T)) (hi0 : (P.info? T).map (fun i => (i.size, decide (i.bytes ≤ 1000), i.zero)) = some (k, true, some z)) (hzs : z.cells.size = k ∧ 0 < k) (h1 : x.all (·.oneCell') = true) :
  ∃ A' c' W', (Builtin.append_ #[t, t] ty #[.slice A xs.length c, .slice (some ⟨g1, 0, none⟩) 1 1]).run P W = .ok (.slice A' (xs.length + 1) c') W' ∧ Acc W' B T k A' c' (xs ++ [x]) ∧ Below B W W' := by
 obtain ⟨hzs, hk⟩ := hzs
 obtain ⟨i, hi, hi1⟩ := Option.map_eq_some_iff.1 hi0
 obtain ⟨hs, hb, hz⟩ : i.size = k ∧ i.bytes ≤ 1000 ∧ i.zero = some z := by simpa using hi1
 have hr : Rd W k (some ⟨g1, 0, none⟩) 1 1 x := ⟨by omega, Nat.le_refl _, by omega, fun _ => ⟨_, rfl, fun j u hu => by rw [Addr.add_mid, hx.cell]; simpa using hu⟩⟩
 have hbb : i.bytes * (xs.length + 1) ≤ 140737488355328 := Nat.le_trans (Nat.mul_le_mul hb (show xs.length + 1 ≤ 100001 by omega)) (by decide)
 obtain ⟨A', c', W', hrun, h2, h3, h4⟩ := run_app_rd (P := P) W B t ty T i z k i.bytes ht hi hz hs rfl hzs hk _ _ _ h.own _ 1 1 x hr (fun u hu => (List.all_eq_true.1 h1) u hu) (by omega) hbb h.le
 refine ⟨A', c', W', hrun, ⟨?_, fun y hy => ?_, Nat.le_trans h.le h3.size⟩, Below.of_grown h3 h.le fun b e => (h.own.lt b e).1⟩
 ·simpa using h2
 ·rcases List.mem_append.1 hy with hy | hy
  ·exact h.sz y hy
  ·have : y = x := by simpa using hy
   rw [this]; exact hxl
theorem Acc.far {W : World} {B : Nat} {T : TypeId} {k c g : Nat} {A : Option Addr} {xs : List (List Value)} {t : TypeId} {cs : Array Value} (h : Acc W B T k A c xs) (hb : Blk W g t cs) (hne : T ≠ t) (cs' : Array Value) : Acc (W.setRow g cs') B T k A c xs := by
 refine ⟨?_, h.sz, by rw [V.setRow_size]; exact h.le⟩
 have hb' := own_blk_ne h.own hb hne
 obtain ⟨h1, h2⟩ := h.own
 refine ⟨h1, ?_⟩
 rcases h2 with h2 | ⟨g', cap, cur, hv, hgb, hh, r⟩
 ·exact .inl h2
 ·refine .inr ⟨g', cap, cur, hv, hgb, ?_, r⟩
  rw [V.setRow_far (fun e => hb' (by rw [hv]; simp [Value.ownBlock, e]))]; exact hh
theorem V.Sd.acc {W W2 : World} {g : Nat} {t : TypeId} {cs cs' : Array Value} {B : Nat} {T : TypeId} {k c : Nat} {A : Option Addr} {xs : List (List Value)} (hs : V.Sd W W2 g t cs cs') (h : Acc W B T k A c xs) (hne : T ≠ t := by decide) : Acc W2 B T k A c xs := by rw [hs.eq]; exact h.far hs.old hne _
namespace V
variable {P : Program} {n : Nat} {ds : List Deferred} {Q : Exit → Act → World → Prop} {f : Nat → Value} {W W' : World} {ops : Array Oper} {dr : Bool} {k : Nat} {o : Oper} {S : World → Prop}
theorem fl4 {S : Nat → Prop} {k0 k1 k2 k3 : Nat} (h0 : S k0) (h1 : S k1) (h2 : S k2) (h3 : S k3) : ∀ i, [k0, k1, k2, k3].contains i = true → S i := fun i hi => by
 have : i = k0 ∨ i = k1 ∨ i = k2 ∨ i = k3 := by simpa using hi
 rcases this with rfl | rfl | rfl | rfl
 ·exact h0
 ·exact h1
 ·exact h2
 ·exact h3
theorem args4 {ev : Operand → Value} {x y z u : Operand} {a b c d : Value} (h : ev x = a) (h2 : ev y = b) (h3 : ev z = c) (h4 : ev u = d) : #[x, y, z, u].map ev = #[a, b, c, d] := by simp [h, h2, h3, h4]
theorem args5 {ev : Operand → Value} {x y z u v : Operand} {a b c d e : Value} (h : ev x = a) (h2 : ev y = b) (h3 : ev z = c) (h4 : ev u = d) (h5 : ev v = e) : #[x, y, z, u, v].map ev = #[a, b, c, d, e] := by simp [h, h2, h3, h4, h5]
theorem x_append {ρ : Operand → Value} {d : Option Tmp} {ty t : TypeId} {pos : String} {af : Array Edge} {gd : Option (Nat × Bool)} {x y : Operand} {a b v : Value} (hx : ρ x = a) (hy : ρ y = b) (h : (Builtin.append_ #[t, t] ty #[a, b]).run P W = .ok v W') :
  (execOp ρ ⟨d, .call { callee := .builtin .append, args := #[x, y], argTypes := #[t, t] }, ty, pos, af, gd⟩).run P W = .ok (.value v) W' := by
 simp only [execOp, resolve, invoke, builtin, Sem.run_bind, Sem.run_pure, Result.andThen_ok, List.map_toArray, List.map_cons, List.map_nil, hx, hy, h]
theorem t_call {xs : Array Operand} {ts : Array TypeId} {g : FuncId} {vs : Array Value} {d : Tmp} {ty : TypeId} {pos : String} {af : Array Edge}
  (ho : ops[k]? = some { dst := some d, op := .call { callee := .value (.func g), args := xs, argTypes := ts }, type := ty, pos := pos, after := af, guard := none }) (hr : (!dr || Region.ready .any ops (RI.doneTo ops.size k) == [k]) = true)
  (hen : ∀ args w, (callFunc g args).run P w = .ok (.enter g args) w) (hxs : xs.map (RI.act n ds f).eval = vs)
  (hc : Calls P g vs W fun e W' => ∃ v, e = .returned v ∧ S W' ∧ ∀ f', f' d = v → (∀ u, u ≠ d → f' u = f u) → RI.Tail S dr P ops Q n ds (k + 1) f' W') : RI.Tail S dr P ops Q n ds k f W := by
 refine RI.tail_op ho rfl (fun h => by simpa [h] using hr) ?_
 subst hxs
 unfold Oper.wp
 have e : (execOp (RI.act n ds f).eval { dst := some d, op := .call { callee := .value (.func g), args := xs, argTypes := ts }, type := ty, pos := pos, after := af, guard := none }).run P W = .ok (.enter g (xs.map (RI.act n ds f).eval)) W := by
  simp only [execOp, resolve, Sem.run_bind, Act.eval, invoke]
  simp [go_sem, hen]
 rw [e]
 refine Calls.mono hc ?_
 rintro e w'' ⟨v, rfl, hS, hv⟩
 refine ⟨hS, RI.upd f d v, ?_, hv _ (RI.upd_same _ _ _) fun u hu => RI.upd_ne _ _ hu⟩
 show ({ tmps := (RI.frame n f).setIfInBounds d v, defers := ds } : Act) = _
 rw [RI.frame_set]; rfl
end V
end Go.Proofs.YtjbcalbbhomkjaaGreat
namespace Go.Proofs.YtjbcalbbhomkjaaGreat
open Go.RowKit
attribute [local irreducible] RI.frame RI.act RI.Ob RI.Tail RI.out V.Wp V.Fn Oper.wp
theorem en119 : En 119 := en_ Tryz.func119
theorem en147 : En 147 := en_ Tryz.func147
theorem insertion_nil {w : World} : Calls Tryz.prog 147 #[.slice none 0 0, .int .i64 0, .int .i64 0, .func (.func 80) #[] #[]] w fun e w' => e = .returned (.tuple #[]) ∧ Below w.heap.size w w' := by
 refine V.nt Tryz.func147 rfl rfl fun f0 hf => ?_
 have s0 : f0 0 = .slice none 0 0 := hf 0 (by simp)
 have s1 : f0 1 = .int .i64 0 := hf 1 (by simp)
 have s2 : f0 2 = .int .i64 0 := hf 2 (by simp)
 have s3 : f0 3 = .func (.func 80) #[] #[] := hf 3 (by simp)
 clear hf
 have hb := Below.refl w.heap.size w
 refine V.seq ?_
 refine V.reg 3 [V.E (.int .i64 0), V.E (.int .i64 (0 + 1)), V.E (.int .i64 (0 + 1))] [] hb ?_ ?_
 ·refine V.a3 ?_ ?_ ?_
  ·exact V.mo rfl 1 s1
  ·refine V.s1 rfl fun f W h => ?_
   have hw1 : IntKind.i64.wrap (0 + 1) = 0 + 1 := by exact IntWalk.i64_in _ (by omega)
   exact V.xb (V.ed h 0 10 rfl) rfl ((by kernel_rfl : _ = Result.ok (.int .i64 (IntKind.i64.wrap (0 + 1))) _).trans (by rw [hw1]))
  ·exact V.se rfl 1 11 rfl
 intro f2 W3 e4
 clear hb
 obtain ⟨hb, z_⟩ := e4.g
 obtain ⟨s0, s1, s2, s3⟩ := V.e4 e4 s0 s1 s2 s3
 have s8 := V.es e4 2 8 rfl
 clear e4 z_
 refine V.t_done rfl (V.nx (V.block ?_))
 refine V.loop (fun k f W => ∃ i : Nat, (k = 0 ∧ (1 ≤ i)) ∧ (f 0 = .slice none 0 0 ∧ f 1 = .int .i64 0 ∧ f 2 = .int .i64 0 ∧ f 3 = .func (.func 80) #[] #[] ∧ f 8 = .int .i64 (i : Int)) ∧ (Below w.heap.size w W)) (0) ⟨1, ⟨rfl, by omega⟩, ⟨s0, s1, s2, s3, (s8.trans (by simp))⟩, hb⟩ ?_
 clear hb s0 s1 s2 s3 s8
 rintro k7 f5 W6 ⟨i, ⟨hk8, hi1⟩, ⟨s0, s1, s2, s3, s8⟩, hb⟩
 refine V.seq (V.seq ?_)
 refine V.reg 3 [V.E (.int .i64 (i : Int)), V.E (.int .i64 0), V.E (.bool (decide ((i : Int) < 0)))] [] hb ?_ ?_
 ·refine V.a3 ?_ ?_ ?_
  ·exact V.mo rfl 8 s8
  ·exact V.mo rfl 2 s2
  ·exact V.z1 rfl fun h => V.xb (V.ed h 0 12 rfl) (V.ed h 1 13 rfl)
 intro f9 W10 e11
 clear hb
 obtain ⟨hb, z_⟩ := e11.g
 obtain ⟨s0, s1, s2, s3, s8⟩ := V.e5 e11 s0 s1 s2 s3 s8
 have s14 := V.es e11 2 14 rfl
 clear e11 z_
 refine V.t_done rfl (V.nx ?_)
 have s14_ : f9 14 = .bool false := s14.trans (congrArg Value.bool (decide_eq_false (by omega)))
 refine V.cond_f (V.ev_tmp rfl s14_) ?_
 refine V.exit (V.tx (V.tx (V.bx ?_)))
 refine V.leave_any (.inr rfl) (V.res_none rfl) ?_
 exact ⟨rfl, hb⟩
theorem stable_nil {w : World} : Calls Tryz.prog 119 #[.slice none 0 0, .int .i64 0, .func (.func 80) #[] #[]] w fun e w' => e = .returned (.tuple #[]) ∧ Below w.heap.size w w' := by
 refine V.nt Tryz.func119 rfl rfl fun f0 hf => ?_
 have s0 : f0 0 = .slice none 0 0 := hf 0 (by simp)
 have s1 : f0 1 = .int .i64 0 := hf 1 (by simp)
 have s2 : f0 2 = .func (.func 80) #[] #[] := hf 2 (by simp)
 clear hf
 have hb := Below.refl w.heap.size w
 refine V.seq ?_
 refine V.reg 1 [V.E (.int .i64 20)] [] hb ?_ ?_
 ·refine V.ac ?_ V.an
  ·exact V.z1 rfl fun h => V.xs rfl
 intro f12 W13 e14
 clear hb
 obtain ⟨hb, z_⟩ := e14.g
 obtain ⟨s0, s1, s2⟩ := V.e3 e14 s0 s1 s2
 have s6 := V.es e14 0 6 rfl
 clear e14 z_
 refine V.t_done rfl (V.nx (V.seq ?_))
 refine V.reg 3 [V.E (.int .i64 20), V.E (.int .i64 0), V.E (.int .i64 20)] [] hb ?_ ?_
 ·refine V.a3 ?_ ?_ ?_
  ·exact V.mo rfl 6 s6
  ·exact V.z1 rfl fun h => V.xs rfl
  ·exact V.se rfl 0 10 rfl
 intro f15 W16 e17
 clear hb
 obtain ⟨hb, z_⟩ := e17.g
 obtain ⟨s0, s1, s2, s6⟩ := V.e4 e17 s0 s1 s2 s6
 have s7 := V.es e17 1 7 rfl
 have s8 := V.es e17 2 8 rfl
 clear e17 z_
 refine V.t_done rfl (V.nx (V.seq (V.block ?_)))
 refine V.loop (fun k f W => (k = 0) ∧ (f 0 = .slice none 0 0 ∧ f 1 = .int .i64 0 ∧ f 2 = .func (.func 80) #[] #[] ∧ f 6 = .int .i64 20 ∧ f 7 = .int .i64 0 ∧ f 8 = .int .i64 20) ∧ (Below w.heap.size w W)) (0) ⟨rfl, ⟨s0, s1, s2, s6, s7, s8⟩, hb⟩ ?_
 clear hb s0 s1 s2 s6 s7 s8
 rintro k20 f18 W19 ⟨hk21, ⟨s0, s1, s2, s6, s7, s8⟩, hb⟩
 refine V.seq (V.seq ?_)
 refine V.reg 3 [V.E (.int .i64 20), V.E (.int .i64 0), V.E (.bool (decide (20 ≤ 0)))] [] hb ?_ ?_
 ·refine V.a3 ?_ ?_ ?_
  ·exact V.mo rfl 8 s8
  ·exact V.mo rfl 1 s1
  ·exact V.z1 rfl fun h => V.xb (V.ed h 0 11 rfl) (V.ed h 1 12 rfl)
 intro f22 W23 e24
 clear hb
 obtain ⟨hb, z_⟩ := e24.g
 obtain ⟨s0, s1, s2, s6, s7, s8⟩ := V.e6 e24 s0 s1 s2 s6 s7 s8
 have s13 := V.es e24 2 13 rfl
 clear e24 z_
 refine V.t_done rfl (V.nx ?_)
 have s13_ : f22 13 = .bool false := s13.trans (congrArg Value.bool (by decide))
 refine V.cond_f (V.ev_tmp rfl s13_) ?_
 refine V.exit (V.tx (V.tx (V.bx (V.nx (V.seq ?_)))))
 refine V.reg 5 [V.E (.slice none 0 0), V.E (.int .i64 0), V.E (.int .i64 0), V.E (.func (.func 80) #[] #[]), V.E (.tuple #[])] [] hb ?_ ?_
 ·refine V.a5 ?_ ?_ ?_ ?_ ?_
  ·exact V.mo rfl 0 s0
  ·exact V.mo rfl 7 s7
  ·exact V.mo rfl 1 s1
  ·exact V.mo rfl 2 s2
  ·refine V.s2 rfl fun f W h => ?_
   refine V.call en147 (V.args4 (V.ed h 0 23 rfl) (V.ed h 1 24 rfl) (V.ed h 2 25 rfl) (V.ed h 3 26 rfl)) (Calls.mono (insertion_nil) ?_)
   rintro e W' ⟨rfl, hb⟩
   exact ⟨_, rfl, rfl, hb⟩
 intro f25 W26 e27
 clear hb
 obtain ⟨hb, z_⟩ := e27.g
 obtain ⟨s0, s1, s2, s6, s7, s8⟩ := V.e6 e27 s0 s1 s2 s6 s7 s8
 clear e27 z_
 refine V.t_done rfl (V.nx (V.block ?_))
 refine V.loop (fun k f W => (k = 0) ∧ (f 0 = .slice none 0 0 ∧ f 1 = .int .i64 0 ∧ f 2 = .func (.func 80) #[] #[] ∧ f 6 = .int .i64 20) ∧ (Below w.heap.size w W)) (0) ⟨rfl, ⟨s0, s1, s2, s6⟩, hb⟩ ?_
 clear hb s0 s1 s2 s6 s7 s8
 rintro k30 f28 W29 ⟨hk31, ⟨s0, s1, s2, s6⟩, hb⟩
 refine V.seq (V.seq ?_)
 refine V.reg 3 [V.E (.int .i64 20), V.E (.int .i64 0), V.E (.bool (decide (20 < 0)))] [] hb ?_ ?_
 ·refine V.a3 ?_ ?_ ?_
  ·exact V.mo rfl 6 s6
  ·exact V.mo rfl 1 s1
  ·exact V.z1 rfl fun h => V.xb (V.ed h 0 28 rfl) (V.ed h 1 29 rfl)
 intro f32 W33 e34
 clear hb
 obtain ⟨hb, z_⟩ := e34.g
 obtain ⟨s0, s1, s2, s6⟩ := V.e4 e34 s0 s1 s2 s6
 have s30 := V.es e34 2 30 rfl
 clear e34 z_
 refine V.t_done rfl (V.nx ?_)
 have s30_ : f32 30 = .bool false := s30.trans (congrArg Value.bool (by decide))
 refine V.cond_f (V.ev_tmp rfl s30_) ?_
 refine V.exit (V.tx (V.tx (V.bx ?_)))
 refine V.leave_any (.inr rfl) (V.res_none rfl) ?_
 exact ⟨rfl, hb⟩
theorem sort_nil {w : World} : Calls Tryz.prog 79 #[.slice none 0 0, .func (.func 80) #[] #[]] w fun e w' => e = .returned (.tuple #[]) ∧ Below w.heap.size w w' := by
 refine V.nt Tryz.func79 rfl rfl fun f0 hf => ?_
 have s0 : f0 0 = .slice none 0 0 := hf 0 (by simp)
 have s1 : f0 1 = .func (.func 80) #[] #[] := hf 1 (by simp)
 clear hf
 have hb := Below.refl w.heap.size w
 refine V.reg 5 [V.E (.slice none 0 0), V.E (.slice none 0 0), V.E (.int .i64 0), V.E (.func (.func 80) #[] #[]), V.E (.tuple #[])] [] hb ?_ ?_
 ·refine V.a5 ?_ ?_ ?_ ?_ ?_
  ·exact V.mo rfl 0 s0
  ·exact V.mo rfl 0 s0
  ·exact V.z1 rfl fun h => V.x_len (V.ed h 1 5 rfl)
  ·exact V.mo rfl 1 s1
  ·refine V.s2 rfl fun f W h => ?_
   refine V.call en119 (V.args3 (V.ed h 0 4 rfl) (V.ed h 2 6 rfl) (V.ed h 3 7 rfl)) (Calls.mono (stable_nil) ?_)
   rintro e W' ⟨rfl, hb⟩
   exact ⟨_, rfl, rfl, hb⟩
 intro f35 W36 e37
 clear hb
 obtain ⟨hb, z_⟩ := e37.g
 obtain ⟨s0, s1⟩ := V.e2 e37 s0 s1
 clear e37 z_
 refine V.t_done rfl ?_
 refine V.leave_any (.inr rfl) (V.res_none rfl) ?_
 exact ⟨rfl, hb⟩
theorem grown_trans {a b c : World} {r : Option Nat} (h : a.grownBy b r) (h' : b.grownBy c r) : a.grownBy c r :=
  ⟨h'.os.trans h.os, h'.tape.trans h.tape, h'.output.trans h.output, Nat.le_trans h.size h'.size, fun k hk hr => (h'.block k (Nat.lt_of_lt_of_le hk h.size) hr).trans (h.block k hk hr)⟩
theorem stable_it {g cap : Nat} {xs : List It} {rest : List Value} {w : World} (ho : Own w g 72 7 (xs.map It.cells) rest) (hfr : ∀ x ∈ xs, Fr.ok w x.c.w) (hoff : ∀ x ∈ xs, Fr.off g x.c.w) (hgood : ∀ x ∈ xs, x.good) (hcap : xs.length ≤ cap ∧ cap ≤ 9223372036854775807) (h20 : xs.length < 20) :
    Calls Tryz.prog 119 #[.slice (some ⟨g, 0, none⟩) xs.length cap, .int .i64 (xs.length : Int), .func (.func 80) #[] #[]] w fun e w' => ∃ ys : List It, e = .returned (.tuple #[]) ∧ ys.Perm xs ∧ Ins.Upto ltI ys xs.length ∧ Own w' g 72 7 (ys.map It.cells) rest ∧ w.grownBy w' (some g) := by
 refine V.nt Tryz.func119 rfl rfl fun f0 hf => ?_
 have s0 : f0 0 = .slice (some ⟨g, 0, none⟩) xs.length cap := hf 0 (by simp)
 have s1 : f0 1 = .int .i64 (xs.length : Int) := hf 1 (by simp)
 have s2 : f0 2 = .func (.func 80) #[] #[] := hf 2 (by simp)
 clear hf
 have hb : w.grownBy w (some g) := World.grownBy.refl w _
 refine V.seq ?_
 refine V.reg 1 [V.E (.int .i64 20)] [] (V.i ho (V.i hfr hb)) ?_ ?_
 ·refine V.ac ?_ V.an
  ·exact V.z1 rfl fun h => V.xs rfl
 intro f38 W39 e40
 clear ho hfr hb
 obtain ⟨⟨ho, hfr, hb⟩, z_⟩ := e40.g
 obtain ⟨s0, s1, s2⟩ := V.e3 e40 s0 s1 s2
 have s6 := V.es e40 0 6 rfl
 clear e40 z_
 refine V.t_done rfl (V.nx (V.seq ?_))
 refine V.reg 3 [V.E (.int .i64 20), V.E (.int .i64 0), V.E (.int .i64 20)] [] (V.i ho (V.i hfr hb)) ?_ ?_
 ·refine V.a3 ?_ ?_ ?_
  ·exact V.mo rfl 6 s6
  ·exact V.z1 rfl fun h => V.xs rfl
  ·exact V.se rfl 0 10 rfl
 intro f41 W42 e43
 clear ho hfr hb
 obtain ⟨⟨ho, hfr, hb⟩, z_⟩ := e43.g
 obtain ⟨s0, s1, s2, s6⟩ := V.e4 e43 s0 s1 s2 s6
 have s7 := V.es e43 1 7 rfl
 have s8 := V.es e43 2 8 rfl
 clear e43 z_
 refine V.t_done rfl (V.nx (V.seq (V.block ?_)))
 refine V.loop (fun k f W => (k = 0) ∧ (f 0 = .slice (some ⟨g, 0, none⟩) xs.length cap ∧ f 1 = .int .i64 (xs.length : Int) ∧ f 2 = .func (.func 80) #[] #[] ∧ f 6 = .int .i64 20 ∧ f 7 = .int .i64 0 ∧ f 8 = .int .i64 20) ∧ (Own W g 72 7 (xs.map It.cells) rest ∧ (∀ x ∈ xs, Fr.ok W x.c.w) ∧ w.grownBy W (some g))) (0) ⟨rfl, ⟨s0, s1, s2, s6, s7, s8⟩, ⟨ho, hfr, hb⟩⟩ ?_
 clear ho hfr hb s0 s1 s2 s6 s7 s8
 rintro k46 f44 W45 ⟨hk47, ⟨s0, s1, s2, s6, s7, s8⟩, ⟨ho, hfr, hb⟩⟩
 refine V.seq (V.seq ?_)
 refine V.reg 3 [V.E (.int .i64 20), V.E (.int .i64 (xs.length : Int)), V.E (.bool (decide (20 ≤ (xs.length : Int))))] [] (V.i ho (V.i hfr hb)) ?_ ?_
 ·refine V.a3 ?_ ?_ ?_
  ·exact V.mo rfl 8 s8
  ·exact V.mo rfl 1 s1
  ·exact V.z1 rfl fun h => V.xb (V.ed h 0 11 rfl) (V.ed h 1 12 rfl)
 intro f48 W49 e50
 clear ho hfr hb
 obtain ⟨⟨ho, hfr, hb⟩, z_⟩ := e50.g
 obtain ⟨s0, s1, s2, s6, s7, s8⟩ := V.e6 e50 s0 s1 s2 s6 s7 s8
 have s13 := V.es e50 2 13 rfl
 clear e50 z_
 refine V.t_done rfl (V.nx ?_)
 have s13_ : f48 13 = .bool false := s13.trans (congrArg Value.bool (decide_eq_false (by omega)))
 refine V.cond_f (V.ev_tmp rfl s13_) ?_
 refine V.exit (V.tx (V.tx (V.bx (V.nx (V.seq ?_)))))
 refine V.reg 4 [V.E (.slice (some ⟨g, 0, none⟩) xs.length cap), V.E (.int .i64 0), V.E (.int .i64 (xs.length : Int)), V.E (.func (.func 80) #[] #[])] [] (V.i ho (V.i hfr hb)) ?_ ?_
 ·refine V.a4 ?_ ?_ ?_ ?_
  ·exact V.mo rfl 0 s0
  ·exact V.mo rfl 7 s7
  ·exact V.mo rfl 1 s1
  ·exact V.mo rfl 2 s2
 intro f51 W52 e53
 clear ho hfr hb
 obtain ⟨⟨ho, hfr, hb⟩, z_⟩ := e53.g
 obtain ⟨s0, s1, s2, s6, s7, s8⟩ := V.e6 e53 s0 s1 s2 s6 s7 s8
 have s23 := V.es e53 0 23 rfl
 have s24 := V.es e53 1 24 rfl
 have s25 := V.es e53 2 25 rfl
 have s26 := V.es e53 3 26 rfl
 clear e53 z_
 refine V.t_call (k := 4) rfl (by kernel_rfl) en147 (V.args4 (V.ev_tmp rfl s23) (V.ev_tmp rfl s24) (V.ev_tmp rfl s25) (V.ev_tmp rfl s26)) (Calls.mono (insertion_it ho hfr hoff hgood hcap) ?_)
 rintro e W54 ⟨ys, rfl, py, uy, oy, gb⟩
 refine ⟨_, rfl, trivial, ?_⟩
 intro f55 e56 u57
 replace s0 : f55 0 = .slice (some ⟨g, 0, none⟩) xs.length cap := (u57 0 (by decide)).trans s0
 replace s1 : f55 1 = .int .i64 (xs.length : Int) := (u57 1 (by decide)).trans s1
 replace s2 : f55 2 = .func (.func 80) #[] #[] := (u57 2 (by decide)).trans s2
 replace s6 : f55 6 = .int .i64 20 := (u57 6 (by decide)).trans s6
 replace s7 : f55 7 = .int .i64 0 := (u57 7 (by decide)).trans s7
 replace s8 : f55 8 = .int .i64 20 := (u57 8 (by decide)).trans s8
 replace s23 : f55 23 = .slice (some ⟨g, 0, none⟩) xs.length cap := (u57 23 (by decide)).trans s23
 replace s24 : f55 24 = .int .i64 0 := (u57 24 (by decide)).trans s24
 replace s25 : f55 25 = .int .i64 (xs.length : Int) := (u57 25 (by decide)).trans s25
 replace s26 : f55 26 = .func (.func 80) #[] #[] := (u57 26 (by decide)).trans s26
 have s27 := e56
 clear u57
 replace hb : w.grownBy W54 (some g) := grown_trans hb gb
 clear ho hfr
 refine V.t_done rfl (V.nx (V.block ?_))
 refine V.loop (fun k f W => (k = 0) ∧ (f 0 = .slice (some ⟨g, 0, none⟩) xs.length cap ∧ f 1 = .int .i64 (xs.length : Int) ∧ f 2 = .func (.func 80) #[] #[] ∧ f 6 = .int .i64 20) ∧ (w.grownBy W (some g) ∧ Own W g 72 7 (ys.map It.cells) rest)) (0) ⟨rfl, ⟨s0, s1, s2, s6⟩, ⟨hb, oy⟩⟩ ?_
 clear hb oy s0 s1 s2 s6 s7 s8 s23 s24 s25 s26 s27
 rintro k60 f58 W59 ⟨hk61, ⟨s0, s1, s2, s6⟩, ⟨hb, oy⟩⟩
 refine V.seq (V.seq ?_)
 refine V.reg 3 [V.E (.int .i64 20), V.E (.int .i64 (xs.length : Int)), V.E (.bool (decide (20 < (xs.length : Int))))] [] (V.i hb oy) ?_ ?_
 ·refine V.a3 ?_ ?_ ?_
  ·exact V.mo rfl 6 s6
  ·exact V.mo rfl 1 s1
  ·exact V.z1 rfl fun h => V.xb (V.ed h 0 28 rfl) (V.ed h 1 29 rfl)
 intro f62 W63 e64
 clear hb oy
 obtain ⟨⟨hb, oy⟩, z_⟩ := e64.g
 obtain ⟨s0, s1, s2, s6⟩ := V.e4 e64 s0 s1 s2 s6
 have s30 := V.es e64 2 30 rfl
 clear e64 z_
 refine V.t_done rfl (V.nx ?_)
 have s30_ : f62 30 = .bool false := s30.trans (congrArg Value.bool (decide_eq_false (by omega)))
 refine V.cond_f (V.ev_tmp rfl s30_) ?_
 refine V.exit (V.tx (V.tx (V.bx ?_)))
 refine V.leave_any (.inr rfl) (V.res_none rfl) ?_
 exact ⟨ys, rfl, py, uy, oy, hb⟩
theorem sort_it {g cap : Nat} {xs : List It} {rest : List Value} {w : World} (ho : Own w g 72 7 (xs.map It.cells) rest) (hfr : ∀ x ∈ xs, Fr.ok w x.c.w) (hoff : ∀ x ∈ xs, Fr.off g x.c.w) (hgood : ∀ x ∈ xs, x.good) (hcap : xs.length ≤ cap ∧ cap ≤ 9223372036854775807) (h20 : xs.length < 20) :
    Calls Tryz.prog 79 #[.slice (some ⟨g, 0, none⟩) xs.length cap, .func (.func 80) #[] #[]] w fun e w' => ∃ ys : List It, e = .returned (.tuple #[]) ∧ ys.Perm xs ∧ Ins.Upto ltI ys xs.length ∧ Own w' g 72 7 (ys.map It.cells) rest ∧ w.grownBy w' (some g) := by
 refine V.nt Tryz.func79 rfl rfl fun f0 hf => ?_
 have s0 : f0 0 = .slice (some ⟨g, 0, none⟩) xs.length cap := hf 0 (by simp)
 have s1 : f0 1 = .func (.func 80) #[] #[] := hf 1 (by simp)
 clear hf
 have hb : w.grownBy w (some g) := World.grownBy.refl w _
 refine V.reg 4 [V.E (.slice (some ⟨g, 0, none⟩) xs.length cap), V.E (.slice (some ⟨g, 0, none⟩) xs.length cap), V.E (.int .i64 (xs.length : Int)), V.E (.func (.func 80) #[] #[])] [] (V.i ho (V.i hfr hb)) ?_ ?_
 ·refine V.a4 ?_ ?_ ?_ ?_
  ·exact V.mo rfl 0 s0
  ·exact V.mo rfl 0 s0
  ·exact V.z1 rfl fun h => V.x_len (V.ed h 1 5 rfl)
  ·exact V.mo rfl 1 s1
 intro f65 W66 e67
 clear ho hfr hb
 obtain ⟨⟨ho, hfr, hb⟩, z_⟩ := e67.g
 obtain ⟨s0, s1⟩ := V.e2 e67 s0 s1
 have s4 := V.es e67 0 4 rfl
 have s6 := V.es e67 2 6 rfl
 have s7 := V.es e67 3 7 rfl
 clear e67 z_
 refine V.t_call (k := 4) rfl (by kernel_rfl) en119 (V.args3 (V.ev_tmp rfl s4) (V.ev_tmp rfl s6) (V.ev_tmp rfl s7)) (Calls.mono (stable_it ho hfr hoff hgood hcap h20) ?_)
 rintro e W68 ⟨ys, rfl, py, uy, oy, gb⟩
 refine ⟨_, rfl, trivial, ?_⟩
 intro f69 e70 u71
 replace s0 : f69 0 = .slice (some ⟨g, 0, none⟩) xs.length cap := (u71 0 (by decide)).trans s0
 replace s1 : f69 1 = .func (.func 80) #[] #[] := (u71 1 (by decide)).trans s1
 replace s4 : f69 4 = .slice (some ⟨g, 0, none⟩) xs.length cap := (u71 4 (by decide)).trans s4
 replace s6 : f69 6 = .int .i64 (xs.length : Int) := (u71 6 (by decide)).trans s6
 replace s7 : f69 7 = .func (.func 80) #[] #[] := (u71 7 (by decide)).trans s7
 have s8 := e70
 clear u71
 replace hb : w.grownBy W68 (some g) := grown_trans hb gb
 clear ho hfr
 refine V.t_done rfl ?_
 refine V.leave_any (.inr rfl) (V.res_none rfl) ?_
 exact ⟨ys, rfl, py, uy, oy, hb⟩
theorem en79 : En 79 := en_ Tryz.func79
theorem sort_acc {B : Nat} {A : Option Addr} {c : Nat} {xs : List It} {w : World} (h : Acc w B 72 7 A c (xs.map It.cells)) (hfr : ∀ x ∈ xs, Fr.ok w x.c.w) (hoff : ∀ g, B ≤ g → ∀ x ∈ xs, Fr.off g x.c.w) (hgood : ∀ x ∈ xs, x.good) (h20 : xs.length < 20) :
    Calls Tryz.prog 79 #[.slice A (xs.map It.cells).length c, .func (.func 80) #[] #[]] w fun e w' => ∃ ys : List It, e = .returned (.tuple #[]) ∧ ys.Perm xs ∧ Ins.Upto ltI ys xs.length ∧ Ls w' 7 A (xs.map It.cells).length c (ys.map It.cells) ∧ (0 < (xs.map It.cells).length → B ≤ (adr A).block) ∧ Below B w w' := by
  rcases h.forms with ⟨rfl, rfl, hx⟩ | ⟨g, rest, rfl, hB, ho, h1, h2⟩
  · have hx' : xs = [] := by simpa using hx
    subst hx'
    exact Calls.mono sort_nil fun e w' hh => ⟨[], hh.1, List.Perm.refl _, fun p r _ _ a b => by simp at b, Ls.nil (by omega), by simp, Below.le hh.2 h.le⟩
  · rw [List.length_map] at h1 ⊢
    refine Calls.mono (sort_it ho hfr (hoff g hB) hgood ⟨h1, h2⟩ h20) ?_
    rintro e w' ⟨ys, rfl, p, u, o, gb⟩
    exact ⟨ys, rfl, p, u, o.lsn ⟨by rw [List.length_map]; exact p.length_eq, h1, h2⟩, fun _ => hB, Below.of_grown gb h.le fun k e => by cases e; exact hB⟩
def nz (x : Cl) : Bool := decide (x.w.q ≠ 0)
theorem nz_eq (x : Cl) : decide (0 < ((Lb.limbs (Q.m x.w.q)).length : Int)) = nz x := by
  rw [Q.limbs_pos_iff]; unfold nz; simp [Q.m_zero]
theorem take_filter {l : List Cl} {i : Nat} {x : Cl} (h : l[i]? = some x) (p : Cl → Bool) : (l.take (i + 1)).filter p = (l.take i).filter p ++ if p x then [x] else [] := by
  rw [List.take_add_one, h, List.filter_append]; cases hx : p x <;> simp [hx]
theorem good_it {z : It} (h : z.c.good) (hz : nz z.c = true) : z.good := ⟨h.b0, h.b1, h.s, by
  have : z.c.w.q ≠ 0 := by simpa [nz] using hz
  exact Rat.lt_of_le_of_ne h.p (Ne.symm this)⟩
theorem items_s {A : Option Addr} {c : Nat} {l : List Cl} {w : World} (hl : Ls w 6 A l.length c (l.map Cl.cells)) (hfr : ∀ x ∈ l, Fr.ok w x.w) (hgood : ∀ x ∈ l, x.good) (h20 : l.length < 20) :
    Calls Tryz.prog 41 #[.slice A l.length c] w fun e w' => ∃ (A' : Option Addr) (c' : Nat) (ys : List It), e = .returned (.slice A' ys.length c') ∧ (ys.map It.c).Perm (l.filter nz) ∧ Ins.Upto ltI ys ys.length ∧ Ls w' 7 A' ys.length c' (ys.map It.cells) ∧ (∀ y ∈ ys, Fr.ok w' y.c.w) ∧ (∀ y ∈ ys, y.good) ∧ (0 < ys.length → w.heap.size ≤ (adr A').block) ∧ Below w.heap.size w w' := by
 refine V.nt Tryz.func41 rfl rfl fun f0 hf => ?_
 have s0 : f0 0 = .slice A l.length c := hf 0 (by simp)
 clear hf
 have hb := Below.refl w.heap.size w
 have w_hl := hl
 have w_hfr := hfr
 refine V.seq ?_
 refine V.reg 1 [V.E (.slice none 0 0)] [] (V.i hl (V.i hfr hb)) ?_ ?_
 ·refine V.ac ?_ V.an
  ·exact V.z1 rfl fun h => V.xs rfl
 intro f1 W2 e3
 clear hl hfr hb
 obtain ⟨⟨hl, hfr, hb⟩, z_⟩ := e3.g
 replace s0 := V.e1 e3 s0
 have s2 := V.es e3 0 2 rfl
 clear e3 z_
 refine V.t_done rfl (V.nx (V.seq ?_))
 refine V.reg 1 [V.E (.slice none 0 0)] [] (V.i hl (V.i hfr hb)) ?_ ?_
 ·refine V.ac ?_ V.an
  ·exact V.z1 rfl fun h => V.xs rfl
 intro f4 W5 e6
 clear hl hfr hb
 obtain ⟨⟨hl, hfr, hb⟩, z_⟩ := e6.g
 obtain ⟨s0, s2⟩ := V.e2 e6 s0 s2
 have s3 := V.es e6 0 3 rfl
 clear e6 z_
 refine V.t_done rfl (V.nx (V.seq (V.seq ?_)))
 refine V.reg 3 [V.E (.slice A l.length c), V.E (.int .i64 (l.length : Int)), V.E (.int .i64 0)] [] (V.i hl (V.i hfr hb)) ?_ ?_
 ·refine V.a3 ?_ ?_ ?_
  ·exact V.mo rfl 0 s0
  ·exact V.z1 rfl fun h => V.x_len (V.ed h 0 6 rfl)
  ·exact V.z1 rfl fun h => V.xm rfl
 intro f7 W8 e9
 clear hl hfr hb
 obtain ⟨⟨hl, hfr, hb⟩, z_⟩ := e9.g
 obtain ⟨s0, s2, s3⟩ := V.e3 e9 s0 s2 s3
 have s6 := V.es e9 0 6 rfl
 have s7 := V.es e9 1 7 rfl
 have s8 := V.es e9 2 8 rfl
 clear e9 z_
 refine V.t_done rfl (V.nx (V.block ?_))
 have r10 : Acc W8 w.heap.size 72 7 none 0 (([] : List It).map It.cells) := Acc.nil hb.size
 refine V.loop (fun k f W => ∃ i : Nat, ∃ acc : List It, ∃ A1 : Option Addr, ∃ c1 : Nat, (k = l.length - i ∧ (i ≤ l.length) ∧ (acc.map It.c = (l.take i).filter nz)) ∧ (f 0 = .slice A l.length c ∧ f 2 = .slice none 0 0 ∧ f 3 = .slice A1 ((acc.map It.cells).length) c1 ∧ f 6 = .slice A l.length c ∧ f 7 = .int .i64 (l.length : Int) ∧ f 8 = .int .i64 (i : Int)) ∧ (Below w.heap.size w W ∧ Ls W 6 A l.length c (l.map Cl.cells) ∧ (∀ x ∈ l, Fr.ok W x.w) ∧ Acc W w.heap.size 72 7 A1 c1 (acc.map It.cells))) (l.length - 0) ⟨0, ([] : List It), none, 0, ⟨rfl, by omega, by simp⟩, ⟨s0, s2, (s3.trans (by simp)), s6, s7, (s8.trans (by simp))⟩, ⟨hb, hl, hfr, r10⟩⟩ ?_
 clear hl hfr hb r10 s0 s2 s3 s6 s7 s8
 rintro k13 f11 W12 ⟨i, acc, A1, c1, ⟨hk18, hil, ha⟩, ⟨s0, s2, s3, s6, s7, s8⟩, ⟨r14, r15, r16, r17⟩⟩
 refine V.seq ?_
 refine V.reg 1 [V.E (.bool (decide ((i : Int) < (l.length : Int))))] [] (V.i r14 (V.i r15 (V.i r16 r17))) ?_ ?_
 ·refine V.ac ?_ V.an
  ·exact V.z1 rfl fun h => V.xb (V.eo h 8 s8) (V.eo h 7 s7)
 intro f19 W20 e21
 clear r14 r15 r16 r17
 obtain ⟨⟨r14, r15, r16, r17⟩, z_⟩ := e21.g
 obtain ⟨s0, s2, s3, s6, s7, s8⟩ := V.e6 e21 s0 s2 s3 s6 s7 s8
 have s9 := V.es e21 0 9 rfl
 clear e21 z_
 refine V.t_done rfl (V.nx (V.seq ?_))
 cases hc22 : (decide ((i : Int) < (l.length : Int)))
 ·have s9_ : f19 9 = .bool false := s9.trans (by rw [hc22])
  refine V.cond_f (V.ev_tmp rfl s9_) ?_
  have hi : i = l.length := by have := of_decide_eq_false hc22; omega
  rw [hi, List.take_length] at ha
  have gacc : ∀ z ∈ acc, z.c ∈ l ∧ nz z.c = true := fun z hz => by
   have : z.c ∈ acc.map It.c := List.mem_map_of_mem hz
   rw [ha] at this
   exact List.mem_filter.1 this
  have lacc : acc.length ≤ l.length := by
   have := congrArg List.length ha
   rw [List.length_map] at this
   rw [this]; exact List.length_filter_le _ _
  refine V.exit (V.tx (V.tx (V.bx (V.nx (V.seq ?_)))))
  refine V.reg 1 [V.E (.slice A1 ((acc.map It.cells).length) c1)] [] (V.i r14 (V.i r15 (V.i r16 r17))) ?_ ?_
  ·refine V.ac ?_ V.an
   ·exact V.mo rfl 3 s3
  intro f23 W24 e25
  clear r14 r15 r16 r17
  obtain ⟨⟨r14, r15, r16, r17⟩, z_⟩ := e25.g
  obtain ⟨s0, s2, s3⟩ := V.e3 e25 s0 s2 s3
  have s26 := V.es e25 0 26 rfl
  clear e25 z_
  refine V.t_call (k := 1) rfl (by kernel_rfl) en79 (V.args2 (V.ev_tmp rfl s26) rfl) (Calls.mono (sort_acc r17 (fun z hz => r16 z.c (gacc z hz).1) (fun g hg z hz => Fr.ok.off (w_hfr z.c (gacc z hz).1) hg) (fun z hz => good_it (hgood z.c (gacc z hz).1) (gacc z hz).2) (by omega)) ?_)
  rintro e W26 ⟨ys, rfl, py, uy, ly, by_, bw⟩
  refine ⟨_, rfl, trivial, ?_⟩
  intro f27 e28 u29
  replace s0 : f27 0 = .slice A l.length c := (u29 0 (by decide)).trans s0
  replace s2 : f27 2 = .slice none 0 0 := (u29 2 (by decide)).trans s2
  replace s3 : f27 3 = .slice A1 ((acc.map It.cells).length) c1 := (u29 3 (by decide)).trans s3
  replace s26 : f27 26 = .slice A1 ((acc.map It.cells).length) c1 := (u29 26 (by decide)).trans s26
  have s27 := e28
  clear u29
  clear r17
  replace r14 : Below w.heap.size w W26 := r14.trans bw
  replace r15 : Ls W26 6 A l.length c (l.map Cl.cells) := (V.Stb.ls : V.Stb fun W => Ls W 6 A l.length c (l.map Cl.cells)) _ _ w_hl r14
  replace r16 : (∀ x ∈ l, Fr.ok W26 x.w) := ((V.Stb.all fun _ => V.Stb.fr) : V.Stb fun W => (∀ x ∈ l, Fr.ok W x.w)) _ _ w_hfr r14
  refine V.t_done rfl (V.nx (V.seq ?_))
  refine V.reg 2 [V.E (.slice A1 ((acc.map It.cells).length) c1), V.E (.slice A1 ((acc.map It.cells).length) c1)] [] (V.i r14 (V.i r15 (V.i r16 ly))) ?_ ?_
  ·refine V.a2 ?_ ?_
   ·exact V.mo rfl 3 s3
   ·exact V.se rfl 0 28 rfl
  intro f30 W31 e32
  clear r14 r15 r16 ly
  obtain ⟨⟨r14, r15, r16, ly⟩, z_⟩ := e32.g
  replace s0 := V.e1 e32 s0
  have s2 := V.es e32 1 2 rfl
  clear e32 z_
  refine V.t_done rfl (V.nx (V.ret ?_))
  refine V.leave_any (.inl rfl) (V.res_tmp rfl rfl s2) ?_
  have e1 : (acc.map It.cells).length = ys.length := by rw [List.length_map]; exact py.length_eq.symm
  rw [e1] at ly by_
  rw [show acc.length = ys.length from py.length_eq.symm] at uy
  exact ⟨A1, c1, ys, by rw [e1], by rw [← ha]; exact py.map _, uy, ly, fun z hz => r16 z.c (gacc z (py.mem_iff.1 hz)).1, fun z hz => good_it (hgood z.c (gacc z (py.mem_iff.1 hz)).1) (gacc z (py.mem_iff.1 hz)).2, by_, r14⟩
 ·have s9_ : f19 9 = .bool true := s9.trans (by rw [hc22])
  refine V.cond_t (V.ev_tmp rfl s9_) ?_
  have hi : i < l.length := by have := of_decide_eq_true hc22; omega
  obtain ⟨x, mx, ex, ex_⟩ := V.at_map Cl.cells (l := l) (i := i) hi
  have fx := r16 x mx
  refine V.skip ?_
  refine V.nx (V.seq (V.block (V.seq ?_)))
  refine V.reg 5 [V.E (.int .i64 (i : Int)), V.E (.pointer (some ((adr A).add (i * 6 + 0)))), V.E (x.v), V.Nb W20 50 #[.int .i64 0, .bool false, .slice none 0 0, .bool false, .slice none 0 0, .int .i64 0], V.E (.int .i64 (i : Int))] [3] (V.i r14 (V.i r15 (V.i r16 (V.i r17 fx)))) ?_ ?_
  ·refine V.a5 ?_ ?_ ?_ ?_ ?_
   ·exact V.mo rfl 8 s8
   ·exact V.z1 rfl fun h => V.xi (i := i) h.g.1.2.1 ex_ (V.eo h 6 s6) (V.eo h 8 s8)
   ·exact V.z1 rfl fun h => V.xl (V.ed h 1 11 rfl) (V.ld_lsE (i := i) (o := 0) (cs := [.int .i64 x.id, .bool (Q.neg x.w.q), Vs x.w.A (Q.m x.w.q) x.w.c, .bool false, Vs x.w.A' x.w.q.den x.w.c', .int .i64 x.cap]) h.g.1.2.1 ex_ Tryz.underlying50)
   ·exact V.sn rfl fun f W h => V.x_alloc
   ·exact V.se rfl 0 10 rfl
  have o_bel := r14.size
  have ob_r15 := r15.blt
  intro f34 W35 e36
  clear r14 r15 r16 r17 fx
  obtain ⟨⟨r14, r15, r16, r17, fx⟩, z_⟩ := e36.g
  obtain ⟨s0, s2, s3, s6, s7, s8⟩ := V.e6 e36 s0 s2 s3 s6 s7 s8
  have s12 := V.es e36 2 12 rfl
  obtain ⟨g33, s5, bg33, lg33⟩ := V.eq e36 3 5 rfl
  have mg33 := Nat.le_trans o_bel lg33
  have q_r15_g33 : 0 < l.length → (adr A).block ≠ g33 := fun h => Nat.ne_of_lt (Nat.lt_of_lt_of_le (ob_r15 h) lg33)
  have s4 := V.es e36 4 4 rfl
  clear e36 z_
  clear o_bel ob_r15
  refine V.tsr (k := 5) rfl s5 s12 bg33 fun W37 hs b' => ?_
  replace r14 := hs.bel r14 mg33
  replace r15 := hs.ls r15 q_r15_g33
  replace r16 := (fun x_0 hx_0 => hs.fr (r16 x_0 hx_0))
  replace r17 := hs.acc r17
  replace fx := hs.fr fx
  replace bg33 := b'
  clear hs b'
  refine V.t_done rfl (V.nx (V.seq ?_))
  refine V.reg 6 [V.E (Vp g33 1), V.E (Vp g33 1), V.E (Vp g33 2), V.E (Vs x.w.A (Q.m x.w.q) x.w.c), V.E (.int .i64 ((Lb.limbs (Q.m x.w.q)).length : Int)), V.E (.bool (decide (0 < ((Lb.limbs (Q.m x.w.q)).length : Int))))] [] (V.i r14 (V.i r15 (V.i r16 (V.i r17 (V.i fx bg33))))) ?_ ?_
  ·refine V.a6 ?_ ?_ ?_ ?_ ?_ ?_
   ·exact V.z1 rfl fun h => V.xa (V.eo h 5 s5)
   ·exact V.z1 rfl fun h => V.xa (V.ed h 0 13 rfl)
   ·exact V.z1 rfl fun h => V.xa (V.ed h 1 14 rfl)
   ·exact V.z1 rfl fun h => V.xl (V.ed h 2 15 rfl) (V.lo h.g.1.2.2.2.2.2 rfl)
   ·exact V.z1 rfl fun h => V.x_len (V.ed h 3 16 rfl)
   ·exact V.z1 rfl fun h => V.xb (V.ed h 4 17 rfl) rfl
  intro f38 W39 e40
  clear r14 r15 r16 r17 fx bg33
  obtain ⟨⟨r14, r15, r16, r17, fx, bg33⟩, z_⟩ := e40.g
  obtain ⟨s0, s2, s3, s6, s7, s8, s5, s4⟩ := V.e8 e40 s0 s2 s3 s6 s7 s8 s5 s4
  have s18 := V.es e40 5 18 rfl
  clear e40 z_
  refine V.t_done rfl (V.nx ?_)
  cases hc41 : (decide (0 < ((Lb.limbs (Q.m x.w.q)).length : Int)))
  ·have s18_ : f38 18 = .bool false := s18.trans (by rw [hc41])
   refine V.cond_f (V.ev_tmp rfl s18_) ?_
   have hz : nz x = false := (nz_eq x).symm.trans hc41
   refine V.skip ?_
   refine V.bn (V.nx ?_)
   clear bg33
   refine V.reg 2 [V.E (.int .i64 ((i : Int) + 1)), V.E (.int .i64 ((i : Int) + 1))] [] (V.i r14 (V.i r15 (V.i r16 (V.i r17 fx)))) ?_ ?_
   ·refine V.a2 ?_ ?_
    ·refine V.s1 rfl fun f W h => ?_
     have hw42 : IntKind.i64.wrap ((i : Int) + 1) = (i : Int) + 1 := by exact IntWalk.i64_in _ (by omega)
     exact V.xb (V.eo h 8 s8) rfl ((by kernel_rfl : _ = Result.ok (.int .i64 (IntKind.i64.wrap ((i : Int) + 1))) _).trans (by rw [hw42]))
    ·exact V.me rfl 0 25 rfl
   intro f43 W44 e45
   clear r14 r15 r16 r17 fx
   obtain ⟨⟨r14, r15, r16, r17, fx⟩, z_⟩ := e45.g
   obtain ⟨s0, s2, s3, s6, s7⟩ := V.e5 e45 s0 s2 s3 s6 s7
   have s8 := V.es e45 1 8 rfl
   clear e45 z_
   refine V.t_done rfl ?_
   have ha' : acc.map It.c = (l.take (i + 1)).filter nz := by rw [take_filter ex, ha, hz]; simp
   refine V.handed (l.length - (i + 1)) (by have := hk18; omega) ⟨(i + 1), acc, A1, c1, ⟨rfl, by omega, ha'⟩, ⟨s0, s2, s3, s6, s7, (s8.trans (by simp))⟩, ⟨r14, r15, r16, r17⟩⟩
  ·have s18_ : f38 18 = .bool true := s18.trans (by rw [hc41])
   refine V.cond_t (V.ev_tmp rfl s18_) ?_
   have hz : nz x = true := (nz_eq x).symm.trans hc41
   refine V.reg 5 [V.E (.slice A1 ((acc.map It.cells).length) c1), V.E (x.v), V.E (.int .i64 (i : Int)), V.E (.agg #[.int .i64 x.id, .bool (Q.neg x.w.q), Vs x.w.A (Q.m x.w.q) x.w.c, .bool false, Vs x.w.A' x.w.q.den x.w.c', .int .i64 x.cap, .int .i64 (i : Int)]), (fun v W => ∃ g46 : Nat, v = .slice (some ⟨g46, 0, none⟩) 1 1 ∧ Blk W g46 72 #[.int .i64 x.id, .bool (Q.neg x.w.q), Vs x.w.A (Q.m x.w.q) x.w.c, .bool false, Vs x.w.A' x.w.q.den x.w.c', .int .i64 x.cap, .int .i64 (i : Int)] ∧ (w.heap.size ≤ g46))] [] (V.i r14 (V.i r15 (V.i r16 (V.i r17 (V.i fx bg33))))) ?_ ?_
   ·refine V.a5 ?_ ?_ ?_ ?_ ?_
    ·exact V.mo rfl 3 s3
    ·exact V.z1 rfl fun h => V.xl (V.eo h 5 s5) (V.lr h.g.1.2.2.2.2.2 Tryz.underlying50)
    ·exact V.mo rfl 4 s4
    ·exact V.z1 rfl fun h => V.b2 (V.ed h 1 20 rfl) (V.ed h 2 21 rfl)
    ·refine V.s2 rfl fun f W h => ?_
     exact V.valv (.slice (some ⟨W.heap.size, 0, none⟩) 1 1) (V.c1 (V.ed h 3 22 rfl)) ⟨⟨W.heap.size, rfl, Blk.new W 72 #[.int .i64 x.id, .bool (Q.neg x.w.q), Vs x.w.A (Q.m x.w.q) x.w.c, .bool false, Vs x.w.A' x.w.q.den x.w.c', .int .i64 x.cap, .int .i64 (i : Int)], h.g.1.1.size⟩, (Below.refl _ _).alloc (Nat.le_refl _) _⟩
   intro f47 W48 e49
   clear r14 r15 r16 r17 fx bg33
   obtain ⟨⟨r14, r15, r16, r17, fx, bg33⟩, z_⟩ := e49.g
   obtain ⟨s0, s2, s3, s6, s7, s8⟩ := V.e6 e49 s0 s2 s3 s6 s7 s8
   have s19 := V.es e49 0 19 rfl
   obtain ⟨g46, s23, r50, n51⟩ := V.eq e49 4 23 rfl
   clear e49 z_
   obtain ⟨A53, c54, W55, hr56, acc57, hw58⟩ := acc_append (P := Tryz.prog) (t := 69) (ty := 69) (z := .agg #[.int .i64 0, .bool false, .slice none 0 0, .bool false, .slice none 0 0, .int .i64 0, .int .i64 0]) (x := [.int .i64 x.id, .bool (Q.neg x.w.q), Vs x.w.A (Q.m x.w.q) x.w.c, .bool false, Vs x.w.A' x.w.q.den x.w.c', .int .i64 x.cap, .int .i64 (i : Int)]) r17 r50 rfl (by have := congrArg List.length ha; have h2 := List.length_filter_le nz (l.take i); rw [List.length_map] at this; rw [List.length_take] at h2; simp; omega) rfl (by kernel_rfl) (by decide) (by kernel_rfl)
   refine V.t_val (k := 5) (v := .slice A53 (((acc.map It.cells).length) + 1) c54) (t := 24) rfl rfl rfl (by kernel_rfl) trivial (V.x_append (V.ev_tmp rfl s19) (V.ev_tmp rfl s23) hr56) ?_
   intro f61 e62 u63
   replace s0 : f61 0 = .slice A l.length c := (u63 0 (by decide)).trans s0
   replace s2 : f61 2 = .slice none 0 0 := (u63 2 (by decide)).trans s2
   replace s3 : f61 3 = .slice A1 ((acc.map It.cells).length) c1 := (u63 3 (by decide)).trans s3
   replace s6 : f61 6 = .slice A l.length c := (u63 6 (by decide)).trans s6
   replace s7 : f61 7 = .int .i64 (l.length : Int) := (u63 7 (by decide)).trans s7
   replace s8 : f61 8 = .int .i64 (i : Int) := (u63 8 (by decide)).trans s8
   replace s19 : f61 19 = .slice A1 ((acc.map It.cells).length) c1 := (u63 19 (by decide)).trans s19
   replace s23 : f61 23 = .slice (some ⟨g46, 0, none⟩) 1 1 := (u63 23 (by decide)).trans s23
   have s24 := e62
   clear u63
   replace r14 : Below w.heap.size w W55 := r14.trans hw58
   replace r15 : Ls W55 6 A l.length c (l.map Cl.cells) := (V.Stb.ls : V.Stb fun W => Ls W 6 A l.length c (l.map Cl.cells)) _ _ w_hl r14
   replace r16 : (∀ x ∈ l, Fr.ok W55 x.w) := ((V.Stb.all fun _ => V.Stb.fr) : V.Stb fun W => (∀ x ∈ l, Fr.ok W x.w)) _ _ w_hfr r14
   clear r17
   clear fx
   clear bg33
   clear r50
   refine V.t_val (k := 6) (v := .slice A53 (((acc.map It.cells).length) + 1) c54) (t := 3) rfl rfl rfl (by kernel_rfl) trivial (V.xs (V.ev_tmp rfl s24)) ?_
   intro f64 e65 u66
   replace s0 : f64 0 = .slice A l.length c := (u66 0 (by decide)).trans s0
   replace s2 : f64 2 = .slice none 0 0 := (u66 2 (by decide)).trans s2
   replace s6 : f64 6 = .slice A l.length c := (u66 6 (by decide)).trans s6
   replace s7 : f64 7 = .int .i64 (l.length : Int) := (u66 7 (by decide)).trans s7
   replace s8 : f64 8 = .int .i64 (i : Int) := (u66 8 (by decide)).trans s8
   replace s19 : f64 19 = .slice A1 ((acc.map It.cells).length) c1 := (u66 19 (by decide)).trans s19
   replace s23 : f64 23 = .slice (some ⟨g46, 0, none⟩) 1 1 := (u66 23 (by decide)).trans s23
   replace s24 : f64 24 = .slice A53 (((acc.map It.cells).length) + 1) c54 := (u66 24 (by decide)).trans s24
   have s3 := e65
   clear u66
   refine V.t_done rfl (V.bn (V.nx ?_))
   refine V.reg 2 [V.E (.int .i64 ((i : Int) + 1)), V.E (.int .i64 ((i : Int) + 1))] [] (V.i r14 (V.i r15 (V.i r16 acc57))) ?_ ?_
   ·refine V.a2 ?_ ?_
    ·refine V.s1 rfl fun f W h => ?_
     have hw67 : IntKind.i64.wrap ((i : Int) + 1) = (i : Int) + 1 := by exact IntWalk.i64_in _ (by omega)
     exact V.xb (V.eo h 8 s8) rfl ((by kernel_rfl : _ = Result.ok (.int .i64 (IntKind.i64.wrap ((i : Int) + 1))) _).trans (by rw [hw67]))
    ·exact V.me rfl 0 25 rfl
   intro f68 W69 e70
   clear r14 r15 r16 acc57
   obtain ⟨⟨r14, r15, r16, acc57⟩, z_⟩ := e70.g
   obtain ⟨s0, s2, s3, s6, s7⟩ := V.e5 e70 s0 s2 s3 s6 s7
   have s8 := V.es e70 1 8 rfl
   clear e70 z_
   refine V.t_done rfl ?_
   have ha' : (acc ++ [(⟨x, (i : Int)⟩ : It)]).map It.c = (l.take (i + 1)).filter nz := by rw [take_filter ex, List.map_append, ha, hz]; rfl
   have r71 : Acc W69 w.heap.size 72 7 A53 c54 ((acc ++ [(⟨x, (i : Int)⟩ : It)]).map It.cells) := by rw [List.map_append]; exact acc57
   refine V.handed (l.length - (i + 1)) (by have := hk18; omega) ⟨(i + 1), (acc ++ [(⟨x, (i : Int)⟩ : It)]), A53, c54, ⟨rfl, by omega, ha'⟩, ⟨s0, s2, (s3.trans (by simp)), s6, s7, (s8.trans (by simp))⟩, ⟨r14, r15, r16, r71⟩⟩
theorem Valid_nf {A A' : Option Addr} {c c' m d : Nat} {b : Bool} {w : World} (h1 : R16 w A (Lb.limbs m).length c (Lb.limbs m)) (h2 : R16 w A' (Lb.limbs d).length c' (Lb.limbs d)) (k1 : Nv b m) (k2 : Nv false d) (hf : (decide (((Lb.limbs m).length : Int) ≤ 256) && decide (((Lb.limbs d).length : Int) ≤ 256)) = true) (hd : ((((Lb.limbs d).length : Int)) == 0) = false) :
    Calls Tryz.prog 25 #[.agg #[.bool b, Vs A m c, .bool false, Vs A' d c']] w fun e w' => e = .returned (.bool (decide (Nat.gcd m d = 1))) ∧ Below w.heap.size w w' := by
 refine V.nt Tryz.func25 rfl rfl fun f0 hf => ?_
 have s0 : f0 0 = .agg #[.bool b, Vs A m c, .bool false, Vs A' d c'] := hf 0 (by simp)
 clear hf
 have hb := Below.refl w.heap.size w
 refine V.seq ?_
 refine V.reg 2 [V.Nb w 39 #[.bool b, Vs A m c, .bool false, Vs A' d c'], V.E (.bool false)] [0] (V.i h1 (V.i h2 hb)) ?_ ?_
 ·refine V.a2 ?_ ?_
  ·exact V.sn rfl fun f W h => V.x_box (V.eo h 0 s0)
  ·exact V.z1 rfl fun h => V.xs rfl
 have o_bel := hb.size
 intro f2 W3 e4
 clear h1 h2 hb
 obtain ⟨⟨h1, h2, hb⟩, z_⟩ := e4.g
 replace s0 := V.e1 e4 s0
 obtain ⟨g1, s1, bg1, lg1⟩ := V.eq e4 0 1 rfl
 have s2 := V.es e4 1 2 rfl
 clear e4 z_
 clear o_bel
 refine V.t_done rfl (V.nx (V.seq ?_))
 refine V.reg 3 [V.E (.agg #[.bool b, Vs A m c, .bool false, Vs A' d c']), V.E (.agg #[.bool b, Vs A m c, .bool false, Vs A' d c']), V.Nb W3 82 #[.bool false, .slice none 0 0, .bool false, .slice none 0 0]] [2] (V.i h1 (V.i h2 (V.i hb bg1))) ?_ ?_
 ·refine V.a3 ?_ ?_ ?_
  ·exact V.z1 rfl fun h => V.xl (V.eo h 1 s1) (V.lr h.g.1.2.2.2 Tryz.underlying39)
  ·exact V.z1 rfl fun h => V.b1 (V.ed h 0 4 rfl)
  ·exact V.sn rfl fun f W h => V.x_alloc
 have o_g1 := bg1.lt
 have o_bel := hb.size
 intro f6 W7 e8
 clear h1 h2 hb bg1
 obtain ⟨⟨h1, h2, hb, bg1⟩, z_⟩ := e8.g
 obtain ⟨s0, s2⟩ := V.e2 e8 s0 s2
 have s5 := V.es e8 1 5 rfl
 obtain ⟨g5, s3, bg5, lg5⟩ := V.eq e8 2 3 rfl
 have mg5 := Nat.le_trans o_bel lg5
 have q1_5 : g1 ≠ g5 := by omega
 clear e8 z_
 clear o_bel o_g1
 refine V.tsr (k := 3) rfl s3 s5 bg5 fun W9 hs b' => ?_
 replace h1 := hs.r16 h1
 replace h2 := hs.r16 h2
 replace hb := hs.bel hb mg5
 replace bg1 := hs.blk bg1 q1_5
 replace bg5 := b'
 clear hs b'
 refine V.t_done rfl (V.nx (V.seq (V.seq ?_)))
 clear bg1
 refine V.reg 31 [V.E (.agg #[.bool b, Vs A m c, .bool false, Vs A' d c']), V.E (.bool true), V.E (.bool false), V.E (.bool false), (V.Gd (!false) (V.E (Vp g5 0))), (V.Gd (!false) (V.E (Vp g5 0))), (V.Gd (!false) (V.E (.agg #[.bool b, Vs A m c]))), (V.Gd (!false) (V.E (.bool true))), (V.Gd (!false) (V.E (.bool false))), V.E (.bool false), V.E (.bool false), (V.Gd (!false) (V.E (Vp g5 0))), (V.Gd (!false) (V.E (Vp g5 2))), (V.Gd (!false) (V.E (.agg #[.bool false, Vs A' d c']))), (V.Gd (!false) (V.E (.bool true))), (V.Gd (!false) (V.E (.bool false))), V.E (.bool false), V.E (.bool false), (V.Gd (!false) (V.E (Vp g5 0))), (V.Gd (!false) (V.E (Vp g5 2))), (V.Gd (!false) (V.E (Vp g5 2))), (V.Gd (!false) (V.E (.bool false))), V.E (.bool false), V.E (.bool false), (V.Gd (!false) (V.E (Vp g5 0))), (V.Gd (!false) (V.E (Vp g5 2))), (V.Gd (!false) (V.E (Vp g5 3))), (V.Gd (!false) (V.E (Vs A' d c'))), (V.Gd (!false) (V.E (.int .i64 ((Lb.limbs d).length : Int)))), (V.Gd (!false) (V.E (.bool (((Lb.limbs d).length : Int) == (0 : Int))))), V.E (.bool (((Lb.limbs d).length : Int) == (0 : Int)))] [] (V.i h1 (V.i h2 (V.i hb bg5))) ?_ ?_
 ·refine V.b8 ?_ ?_ ?_ ?_ ?_ ?_ ?_ ?_ (V.b8 ?_ ?_ ?_ ?_ ?_ ?_ ?_ ?_ (V.b8 ?_ ?_ ?_ ?_ ?_ ?_ ?_ ?_ (V.a7 ?_ ?_ ?_ ?_ ?_ ?_ ?_)))
  ·exact V.z1 rfl fun h => V.xl (V.eo h 3 s3) (V.lr h.g.1.2.2.2 Tryz.underlying82)
  ·refine V.s2 rfl fun f W h => ?_
   refine V.call en61 (V.args1 (V.ed h 0 6 rfl)) (Calls.mono (fits_raw true hf) ?_)
   rintro e W' ⟨rfl, hb⟩
   exact ⟨_, rfl, rfl, hb⟩
  ·exact V.z1 rfl fun h => V.x_un (V.ed h 1 7 rfl)
  ·exact V.me rfl 2 8 rfl
  ·exact V.gf 3 9 rfl rfl fun hp f W h => V.v1 (V.xa (V.eo h 3 s3))
  ·exact V.gf 3 9 rfl rfl fun hp f W h => V.v1 (V.xa (V.eg h 4 10 rfl hp))
  ·exact V.gf 3 9 rfl rfl fun hp f W h => V.v1 (V.xl (V.eg h 5 11 rfl hp) (V.ld_mid (xs := [.bool b, Vs A m c]) h.g.1.2.2.2 (by intro j hj; match j, hj with | 0, _ => rfl | 1, _ => rfl) Tryz.underlying35))
  ·refine V.gf 3 9 rfl rfl fun hp f W h => ?_
   refine V.call en47 (V.args1 (V.eg h 6 12 rfl hp)) (Calls.mono ((WValid_nn h.g.1.1 k1)) ?_)
   rintro e W' ⟨rfl, hb⟩
   exact ⟨_, rfl, rfl, hb⟩
  ·exact V.gf 3 9 rfl rfl fun hp f W h => V.v1 (V.x_un (V.eg h 7 13 rfl hp))
  ·refine V.s1 rfl fun f W h => ?_
   have d14 := V.dp h 8 14 (by kernel_rfl) rfl
   exact V.x_pick_f (V.ed h 3 9 rfl) (V.ev_tmp rfl (V.gd_on d14 rfl))
  ·exact V.me rfl 9 15 rfl
  ·exact V.gf 10 16 rfl rfl fun hp f W h => V.v1 (V.xa (V.eo h 3 s3))
  ·exact V.gf 10 16 rfl rfl fun hp f W h => V.v1 (V.xa (V.eg h 11 17 rfl hp))
  ·exact V.gf 10 16 rfl rfl fun hp f W h => V.v1 (V.xl (V.eg h 12 18 rfl hp) (V.ld_mid (xs := [.bool false, Vs A' d c']) h.g.1.2.2.2 (by intro j hj; match j, hj with | 0, _ => rfl | 1, _ => rfl) Tryz.underlying35))
  ·refine V.gf 10 16 rfl rfl fun hp f W h => ?_
   refine V.call en47 (V.args1 (V.eg h 13 19 rfl hp)) (Calls.mono ((WValid_nn h.g.1.2.1 k2)) ?_)
   rintro e W' ⟨rfl, hb⟩
   exact ⟨_, rfl, rfl, hb⟩
  ·exact V.gf 10 16 rfl rfl fun hp f W h => V.v1 (V.x_un (V.eg h 14 20 rfl hp))
  ·refine V.s1 rfl fun f W h => ?_
   have d21 := V.dp h 15 21 (by kernel_rfl) rfl
   exact V.x_pick_f (V.ed h 10 16 rfl) (V.ev_tmp rfl (V.gd_on d21 rfl))
  ·exact V.me rfl 16 22 rfl
  ·exact V.gf 17 23 rfl rfl fun hp f W h => V.v1 (V.xa (V.eo h 3 s3))
  ·exact V.gf 17 23 rfl rfl fun hp f W h => V.v1 (V.xa (V.eg h 18 24 rfl hp))
  ·exact V.gf 17 23 rfl rfl fun hp f W h => V.v1 (V.xa (V.eg h 19 25 rfl hp))
  ·exact V.gf 17 23 rfl rfl fun hp f W h => V.v1 (V.xl (V.eg h 20 26 rfl hp) (V.lo h.g.1.2.2.2 rfl))
  ·refine V.s1 rfl fun f W h => ?_
   have d27 := V.dp h 21 27 (by kernel_rfl) rfl
   exact V.x_pick_f (V.ed h 17 23 rfl) (V.ev_tmp rfl (V.gd_on d27 rfl))
  ·exact V.me rfl 22 28 rfl
  ·exact V.gf 23 29 rfl rfl fun hp f W h => V.v1 (V.xa (V.eo h 3 s3))
  ·exact V.gf 23 29 rfl rfl fun hp f W h => V.v1 (V.xa (V.eg h 24 30 rfl hp))
  ·exact V.gf 23 29 rfl rfl fun hp f W h => V.v1 (V.xa (V.eg h 25 31 rfl hp))
  ·exact V.gf 23 29 rfl rfl fun hp f W h => V.v1 (V.xl (V.eg h 26 32 rfl hp) (V.lo h.g.1.2.2.2 rfl))
  ·exact V.gf 23 29 rfl rfl fun hp f W h => V.v1 (V.x_len (V.eg h 27 33 rfl hp))
  ·exact V.gf 23 29 rfl rfl fun hp f W h => V.v1 (V.xb (V.eg h 28 34 rfl hp) rfl)
  ·refine V.s1 rfl fun f W h => ?_
   have d35 := V.dp h 29 35 (by kernel_rfl) rfl
   exact V.x_pick_f (V.ed h 23 29 rfl) (V.ev_tmp rfl (V.gd_on d35 rfl))
 intro f10 W11 e12
 clear h1 h2 hb bg5
 obtain ⟨⟨h1, h2, hb, bg5⟩, z_⟩ := e12.g
 obtain ⟨s0, s2, s3⟩ := V.e3 e12 s0 s2 s3
 have s36 := V.es e12 30 36 rfl
 clear e12 z_
 refine V.t_done rfl (V.nx ?_)
 have s36_ : f10 36 = .bool false := s36.trans (congrArg Value.bool (by simp [hd]))
 refine V.cond_f (V.ev_tmp rfl s36_) ?_
 refine V.skip ?_
 refine V.nx (V.seq ?_)
 refine V.reg 9 [V.E (Vp g5 0), V.E (Vp g5 0), V.E (.agg #[.bool b, Vs A m c]), V.E (Vp g5 0), V.E (Vp g5 2), V.E (.agg #[.bool false, Vs A' d c']), (fun v W => ∃ A13 : Option Addr, ∃ c14 : Nat, v = .agg #[.bool false, Vs A13 (Nat.gcd m d) c14] ∧ R16 W A13 ((Lb.limbs (Nat.gcd m d)).length) c14 (Lb.limbs (Nat.gcd m d)) ∧ (∀ ad, A13 = some ad → w.heap.size ≤ ad.block)), V.E (.bool (!false && decide ((Nat.gcd m d) = 1))), V.E (.bool (!false && decide ((Nat.gcd m d) = 1)))] [] (V.i h1 (V.i h2 (V.i hb bg5))) ?_ ?_
 ·refine V.b8 ?_ ?_ ?_ ?_ ?_ ?_ ?_ ?_ (V.ac ?_ V.an)
  ·exact V.z1 rfl fun h => V.xa (V.eo h 3 s3)
  ·exact V.z1 rfl fun h => V.xa (V.ed h 0 37 rfl)
  ·exact V.z1 rfl fun h => V.xl (V.ed h 1 38 rfl) (V.ld_mid (xs := [.bool b, Vs A m c]) h.g.1.2.2.2 (by intro j hj; match j, hj with | 0, _ => rfl | 1, _ => rfl) Tryz.underlying35)
  ·exact V.z1 rfl fun h => V.xa (V.eo h 3 s3)
  ·exact V.z1 rfl fun h => V.xa (V.ed h 3 40 rfl)
  ·exact V.z1 rfl fun h => V.xl (V.ed h 4 41 rfl) (V.ld_mid (xs := [.bool false, Vs A' d c']) h.g.1.2.2.2 (by intro j hj; match j, hj with | 0, _ => rfl | 1, _ => rfl) Tryz.underlying35)
  ·refine V.s2 rfl fun f W h => ?_
   refine V.call en48 (V.args2 (V.ed h 2 39 rfl) (V.ed h 5 42 rfl)) (Calls.mono ((common_nn h.g.1.1 h.g.1.2.1 k1 k2)) ?_)
   rintro e W' ⟨A13, c14, rfl, k15, p16, hb⟩
   exact ⟨_, rfl, ⟨A13, c14, rfl, k15, (fun ad e => Nat.le_trans h.g.1.2.2.1.size (p16 ad e))⟩, hb⟩
  ·refine V.s2 rfl fun f W h => ?_
   obtain ⟨A13, c14, a43, k6_0, p6_0⟩ := V.dp h 6 43 (by kernel_rfl) rfl
   refine V.call en62 (V.args1 (V.ev_tmp rfl a43)) (Calls.mono (isOne_nn k6_0) ?_)
   rintro e W' ⟨rfl, hb⟩
   exact ⟨_, rfl, rfl, hb⟩
  ·exact V.se rfl 7 44 rfl
 intro f17 W18 e19
 clear h1 h2 hb bg5
 obtain ⟨⟨h1, h2, hb, bg5⟩, z_⟩ := e19.g
 replace s0 := V.e1 e19 s0
 have s2 := V.es e19 8 2 rfl
 clear e19 z_
 refine V.t_done rfl (V.nx (V.ret ?_))
 refine V.leave_any (.inl rfl) (V.res_tmp rfl rfl s2) ?_
 exact ⟨by simp, hb⟩
theorem Valid_rej {A A' : Option Addr} {c c' : Nat} {b b' : Bool} {x x' : List Nat} {w : World} (h1 : R16 w A x.length c x) (h2 : R16 w A' x'.length c' x') (hr : (((((!(decide ((x.length : Int) ≤ 256) && decide ((x'.length : Int) ≤ 256))) || (!(validB b x))) || (!(validB b' x'))) || b') || ((x'.length : Int) == (0 : Int))) = true) :
    Calls Tryz.prog 25 #[.agg #[.bool b, .slice A x.length c, .bool b', .slice A' x'.length c']] w fun e w' => e = .returned (.bool false) ∧ Below w.heap.size w w' := by
 refine V.nt Tryz.func25 rfl rfl fun f0 hf => ?_
 have s0 : f0 0 = .agg #[.bool b, .slice A x.length c, .bool b', .slice A' x'.length c'] := hf 0 (by simp)
 clear hf
 have hb := Below.refl w.heap.size w
 refine V.seq ?_
 refine V.reg 2 [V.Nb w 39 #[.bool b, .slice A x.length c, .bool b', .slice A' x'.length c'], V.E (.bool false)] [0] (V.i h1 (V.i h2 hb)) ?_ ?_
 ·refine V.a2 ?_ ?_
  ·exact V.sn rfl fun f W h => V.x_box (V.eo h 0 s0)
  ·exact V.z1 rfl fun h => V.xs rfl
 have o_bel := hb.size
 intro f21 W22 e23
 clear h1 h2 hb
 obtain ⟨⟨h1, h2, hb⟩, z_⟩ := e23.g
 replace s0 := V.e1 e23 s0
 obtain ⟨g20, s1, bg20, lg20⟩ := V.eq e23 0 1 rfl
 have s2 := V.es e23 1 2 rfl
 clear e23 z_
 clear o_bel
 refine V.t_done rfl (V.nx (V.seq ?_))
 refine V.reg 3 [V.E (.agg #[.bool b, .slice A x.length c, .bool b', .slice A' x'.length c']), V.E (.agg #[.bool b, .slice A x.length c, .bool b', .slice A' x'.length c']), V.Nb W22 82 #[.bool false, .slice none 0 0, .bool false, .slice none 0 0]] [2] (V.i h1 (V.i h2 (V.i hb bg20))) ?_ ?_
 ·refine V.a3 ?_ ?_ ?_
  ·exact V.z1 rfl fun h => V.xl (V.eo h 1 s1) (V.lr h.g.1.2.2.2 Tryz.underlying39)
  ·exact V.z1 rfl fun h => V.b1 (V.ed h 0 4 rfl)
  ·exact V.sn rfl fun f W h => V.x_alloc
 have o_g20 := bg20.lt
 have o_bel := hb.size
 intro f25 W26 e27
 clear h1 h2 hb bg20
 obtain ⟨⟨h1, h2, hb, bg20⟩, z_⟩ := e27.g
 obtain ⟨s0, s2⟩ := V.e2 e27 s0 s2
 have s5 := V.es e27 1 5 rfl
 obtain ⟨g24, s3, bg24, lg24⟩ := V.eq e27 2 3 rfl
 have mg24 := Nat.le_trans o_bel lg24
 have q20_24 : g20 ≠ g24 := by omega
 clear e27 z_
 clear o_bel o_g20
 refine V.tsr (k := 3) rfl s3 s5 bg24 fun W28 hs b' => ?_
 replace h1 := hs.r16 h1
 replace h2 := hs.r16 h2
 replace hb := hs.bel hb mg24
 replace bg20 := hs.blk bg20 q20_24
 replace bg24 := b'
 clear hs b'
 refine V.t_done rfl (V.nx (V.seq (V.seq ?_)))
 clear bg20
 refine V.reg 31 [V.E (.agg #[.bool b, .slice A x.length c, .bool b', .slice A' x'.length c']), V.E (.bool (decide ((x.length : Int) ≤ 256) && decide ((x'.length : Int) ≤ 256))), V.E (.bool (!(decide ((x.length : Int) ≤ 256) && decide ((x'.length : Int) ≤ 256)))), V.E (.bool (!(decide ((x.length : Int) ≤ 256) && decide ((x'.length : Int) ≤ 256)))), (V.Gd (!(!(decide ((x.length : Int) ≤ 256) && decide ((x'.length : Int) ≤ 256)))) (V.E (Vp g24 0))), (V.Gd (!(!(decide ((x.length : Int) ≤ 256) && decide ((x'.length : Int) ≤ 256)))) (V.E (Vp g24 0))), (V.Gd (!(!(decide ((x.length : Int) ≤ 256) && decide ((x'.length : Int) ≤ 256)))) (V.E (.agg #[.bool b, .slice A x.length c]))), (V.Gd (!(!(decide ((x.length : Int) ≤ 256) && decide ((x'.length : Int) ≤ 256)))) (V.E (.bool (validB b x)))), (V.Gd (!(!(decide ((x.length : Int) ≤ 256) && decide ((x'.length : Int) ≤ 256)))) (V.E (.bool (!(validB b x))))), V.E (.bool ((!(decide ((x.length : Int) ≤ 256) && decide ((x'.length : Int) ≤ 256))) || (!(validB b x)))), V.E (.bool ((!(decide ((x.length : Int) ≤ 256) && decide ((x'.length : Int) ≤ 256))) || (!(validB b x)))), (V.Gd (!((!(decide ((x.length : Int) ≤ 256) && decide ((x'.length : Int) ≤ 256))) || (!(validB b x)))) (V.E (Vp g24 0))), (V.Gd (!((!(decide ((x.length : Int) ≤ 256) && decide ((x'.length : Int) ≤ 256))) || (!(validB b x)))) (V.E (Vp g24 2))), (V.Gd (!((!(decide ((x.length : Int) ≤ 256) && decide ((x'.length : Int) ≤ 256))) || (!(validB b x)))) (V.E (.agg #[.bool b', .slice A' x'.length c']))), (V.Gd (!((!(decide ((x.length : Int) ≤ 256) && decide ((x'.length : Int) ≤ 256))) || (!(validB b x)))) (V.E (.bool (validB b' x')))), (V.Gd (!((!(decide ((x.length : Int) ≤ 256) && decide ((x'.length : Int) ≤ 256))) || (!(validB b x)))) (V.E (.bool (!(validB b' x'))))), V.E (.bool (((!(decide ((x.length : Int) ≤ 256) && decide ((x'.length : Int) ≤ 256))) || (!(validB b x))) || (!(validB b' x')))), V.E (.bool (((!(decide ((x.length : Int) ≤ 256) && decide ((x'.length : Int) ≤ 256))) || (!(validB b x))) || (!(validB b' x')))), (V.Gd (!(((!(decide ((x.length : Int) ≤ 256) && decide ((x'.length : Int) ≤ 256))) || (!(validB b x))) || (!(validB b' x')))) (V.E (Vp g24 0))), (V.Gd (!(((!(decide ((x.length : Int) ≤ 256) && decide ((x'.length : Int) ≤ 256))) || (!(validB b x))) || (!(validB b' x')))) (V.E (Vp g24 2))), (V.Gd (!(((!(decide ((x.length : Int) ≤ 256) && decide ((x'.length : Int) ≤ 256))) || (!(validB b x))) || (!(validB b' x')))) (V.E (Vp g24 2))), (V.Gd (!(((!(decide ((x.length : Int) ≤ 256) && decide ((x'.length : Int) ≤ 256))) || (!(validB b x))) || (!(validB b' x')))) (V.E (.bool b'))), V.E (.bool ((((!(decide ((x.length : Int) ≤ 256) && decide ((x'.length : Int) ≤ 256))) || (!(validB b x))) || (!(validB b' x'))) || b')), V.E (.bool ((((!(decide ((x.length : Int) ≤ 256) && decide ((x'.length : Int) ≤ 256))) || (!(validB b x))) || (!(validB b' x'))) || b')), (V.Gd (!((((!(decide ((x.length : Int) ≤ 256) && decide ((x'.length : Int) ≤ 256))) || (!(validB b x))) || (!(validB b' x'))) || b')) (V.E (Vp g24 0))), (V.Gd (!((((!(decide ((x.length : Int) ≤ 256) && decide ((x'.length : Int) ≤ 256))) || (!(validB b x))) || (!(validB b' x'))) || b')) (V.E (Vp g24 2))), (V.Gd (!((((!(decide ((x.length : Int) ≤ 256) && decide ((x'.length : Int) ≤ 256))) || (!(validB b x))) || (!(validB b' x'))) || b')) (V.E (Vp g24 3))), (V.Gd (!((((!(decide ((x.length : Int) ≤ 256) && decide ((x'.length : Int) ≤ 256))) || (!(validB b x))) || (!(validB b' x'))) || b')) (V.E (.slice A' x'.length c'))), (V.Gd (!((((!(decide ((x.length : Int) ≤ 256) && decide ((x'.length : Int) ≤ 256))) || (!(validB b x))) || (!(validB b' x'))) || b')) (V.E (.int .i64 (x'.length : Int)))), (V.Gd (!((((!(decide ((x.length : Int) ≤ 256) && decide ((x'.length : Int) ≤ 256))) || (!(validB b x))) || (!(validB b' x'))) || b')) (V.E (.bool ((x'.length : Int) == (0 : Int))))), V.E (.bool (((((!(decide ((x.length : Int) ≤ 256) && decide ((x'.length : Int) ≤ 256))) || (!(validB b x))) || (!(validB b' x'))) || b') || ((x'.length : Int) == (0 : Int))))] [] (V.i h1 (V.i h2 (V.i hb bg24))) ?_ ?_
 ·refine V.b8 ?_ ?_ ?_ ?_ ?_ ?_ ?_ ?_ (V.b8 ?_ ?_ ?_ ?_ ?_ ?_ ?_ ?_ (V.b8 ?_ ?_ ?_ ?_ ?_ ?_ ?_ ?_ (V.a7 ?_ ?_ ?_ ?_ ?_ ?_ ?_)))
  ·exact V.z1 rfl fun h => V.xl (V.eo h 3 s3) (V.lr h.g.1.2.2.2 Tryz.underlying82)
  ·refine V.s2 rfl fun f W h => ?_
   refine V.call en61 (V.args1 (V.ed h 0 6 rfl)) (Calls.mono (fits_raw (decide ((x.length : Int) ≤ 256) && decide ((x'.length : Int) ≤ 256)) rfl) ?_)
   rintro e W' ⟨rfl, hb⟩
   exact ⟨_, rfl, rfl, hb⟩
  ·exact V.z1 rfl fun h => V.x_un (V.ed h 1 7 rfl)
  ·exact V.me rfl 2 8 rfl
  ·exact V.gf 3 9 rfl rfl fun hp f W h => V.v1 (V.xa (V.eo h 3 s3))
  ·exact V.gf 3 9 rfl rfl fun hp f W h => V.v1 (V.xa (V.eg h 4 10 rfl hp))
  ·exact V.gf 3 9 rfl rfl fun hp f W h => V.v1 (V.xl (V.eg h 5 11 rfl hp) (V.ld_mid (xs := [.bool b, .slice A x.length c]) h.g.1.2.2.2 (by intro j hj; match j, hj with | 0, _ => rfl | 1, _ => rfl) Tryz.underlying35))
  ·refine V.gf 3 9 rfl rfl fun hp f W h => ?_
   refine V.call en47 (V.args1 (V.eg h 6 12 rfl hp)) (Calls.mono (Valid_any b A x.length c x _ h.g.1.1) ?_)
   rintro e W' ⟨rfl, hb⟩
   exact ⟨_, rfl, rfl, hb⟩
  ·exact V.gf 3 9 rfl rfl fun hp f W h => V.v1 (V.x_un (V.eg h 7 13 rfl hp))
  ·refine V.s1 rfl fun f W h => ?_
   have d14 := V.dp h 8 14 (by kernel_rfl) rfl
   exact V.x_or (V.ed h 3 9 rfl) rfl (fun e => V.ev_tmp rfl (V.gd_on d14 (V.not_t e)))
  ·exact V.me rfl 9 15 rfl
  ·exact V.gf 10 16 rfl rfl fun hp f W h => V.v1 (V.xa (V.eo h 3 s3))
  ·exact V.gf 10 16 rfl rfl fun hp f W h => V.v1 (V.xa (V.eg h 11 17 rfl hp))
  ·exact V.gf 10 16 rfl rfl fun hp f W h => V.v1 (V.xl (V.eg h 12 18 rfl hp) (V.ld_mid (xs := [.bool b', .slice A' x'.length c']) h.g.1.2.2.2 (by intro j hj; match j, hj with | 0, _ => rfl | 1, _ => rfl) Tryz.underlying35))
  ·refine V.gf 10 16 rfl rfl fun hp f W h => ?_
   refine V.call en47 (V.args1 (V.eg h 13 19 rfl hp)) (Calls.mono (Valid_any b' A' x'.length c' x' _ h.g.1.2.1) ?_)
   rintro e W' ⟨rfl, hb⟩
   exact ⟨_, rfl, rfl, hb⟩
  ·exact V.gf 10 16 rfl rfl fun hp f W h => V.v1 (V.x_un (V.eg h 14 20 rfl hp))
  ·refine V.s1 rfl fun f W h => ?_
   have d21 := V.dp h 15 21 (by kernel_rfl) rfl
   exact V.x_or (V.ed h 10 16 rfl) rfl (fun e => V.ev_tmp rfl (V.gd_on d21 (V.not_t e)))
  ·exact V.me rfl 16 22 rfl
  ·exact V.gf 17 23 rfl rfl fun hp f W h => V.v1 (V.xa (V.eo h 3 s3))
  ·exact V.gf 17 23 rfl rfl fun hp f W h => V.v1 (V.xa (V.eg h 18 24 rfl hp))
  ·exact V.gf 17 23 rfl rfl fun hp f W h => V.v1 (V.xa (V.eg h 19 25 rfl hp))
  ·exact V.gf 17 23 rfl rfl fun hp f W h => V.v1 (V.xl (V.eg h 20 26 rfl hp) (V.lo h.g.1.2.2.2 rfl))
  ·refine V.s1 rfl fun f W h => ?_
   have d27 := V.dp h 21 27 (by kernel_rfl) rfl
   exact V.x_or (V.ed h 17 23 rfl) rfl (fun e => V.ev_tmp rfl (V.gd_on d27 (V.not_t e)))
  ·exact V.me rfl 22 28 rfl
  ·exact V.gf 23 29 rfl rfl fun hp f W h => V.v1 (V.xa (V.eo h 3 s3))
  ·exact V.gf 23 29 rfl rfl fun hp f W h => V.v1 (V.xa (V.eg h 24 30 rfl hp))
  ·exact V.gf 23 29 rfl rfl fun hp f W h => V.v1 (V.xa (V.eg h 25 31 rfl hp))
  ·exact V.gf 23 29 rfl rfl fun hp f W h => V.v1 (V.xl (V.eg h 26 32 rfl hp) (V.lo h.g.1.2.2.2 rfl))
  ·exact V.gf 23 29 rfl rfl fun hp f W h => V.v1 (V.x_len (V.eg h 27 33 rfl hp))
  ·exact V.gf 23 29 rfl rfl fun hp f W h => V.v1 (V.xb (V.eg h 28 34 rfl hp) rfl)
  ·refine V.s1 rfl fun f W h => ?_
   have d35 := V.dp h 29 35 (by kernel_rfl) rfl
   exact V.x_or (V.ed h 23 29 rfl) rfl (fun e => V.ev_tmp rfl (V.gd_on d35 (V.not_t e)))
 intro f29 W30 e31
 clear h1 h2 hb bg24
 obtain ⟨⟨h1, h2, hb, bg24⟩, z_⟩ := e31.g
 obtain ⟨s0, s2, s3⟩ := V.e3 e31 s0 s2 s3
 have s36 := V.es e31 30 36 rfl
 clear e31 z_
 refine V.t_done rfl (V.nx ?_)
 have s36_ : f29 36 = .bool true := s36.trans (congrArg Value.bool hr)
 refine V.cond_t (V.ev_tmp rfl s36_) ?_
 refine V.seq ?_
 refine V.reg 1 [V.E (.bool false)] [] (V.i h1 (V.i h2 (V.i hb bg24))) ?_ ?_
 ·refine V.ac ?_ V.an
  ·exact V.z1 rfl fun h => V.xs rfl
 intro f32 W33 e34
 clear h1 h2 hb bg24
 obtain ⟨⟨h1, h2, hb, bg24⟩, z_⟩ := e34.g
 obtain ⟨s0, s3⟩ := V.e2 e34 s0 s3
 have s2 := V.es e34 0 2 rfl
 clear e34 z_
 refine V.t_done rfl (V.nx (V.ret (V.tr ?_)))
 refine V.leave_any (.inl rfl) (V.res_tmp rfl rfl s2) ?_
 exact ⟨rfl, hb⟩
def rejF (b : Bool) (x : List Nat) (b' : Bool) (x' : List Nat) : Bool := (((((!(decide ((x.length : Int) ≤ 256) && decide ((x'.length : Int) ≤ 256))) || (!(validB b x))) || (!(validB b' x'))) || b') || ((x'.length : Int) == (0 : Int)))
def validF (b : Bool) (x : List Nat) (b' : Bool) (x' : List Nat) : Bool := !rejF b x b' x' && decide (Nat.gcd (Lb.val x) (Lb.val x') = 1)
theorem Valid_raw {A A' : Option Addr} {c c' : Nat} {b b' : Bool} {x x' : List Nat} {w : World} (h1 : R16 w A x.length c x) (h2 : R16 w A' x'.length c' x') :
    Calls Tryz.prog 25 #[.agg #[.bool b, .slice A x.length c, .bool b', .slice A' x'.length c']] w fun e w' => e = .returned (.bool (validF b x b' x')) ∧ Below w.heap.size w w' := by
  unfold validF
  cases hr : rejF b x b' x'
  · unfold rejF at hr
    simp only [Bool.or_eq_false_iff, Bool.not_eq_false'] at hr
    obtain ⟨⟨⟨⟨hf, v1⟩, v2⟩, rfl⟩, hd⟩ := hr
    obtain ⟨e1, l1, z1⟩ := valid_limbs h1.ok v1
    obtain ⟨e2, l2, z2⟩ := valid_limbs h2.ok v2
    generalize Lb.val x = m at *
    generalize Lb.val x' = d at *
    subst e1; subst e2
    simpa using Valid_nf h1 h2 ⟨z1, l1⟩ ⟨z2, l2⟩ hf hd
  · simpa using Valid_rej h1 h2 hr
theorem validF_q {b b' : Bool} {x x' : List Nat} (o1 : Lb.Ok x) (o2 : Lb.Ok x') (h : validF b x b' x' = true) : ∃ q : Rat, b = Q.neg q ∧ x = Lb.limbs (Q.m q) ∧ b' = false ∧ x' = Lb.limbs q.den := by
  unfold validF rejF at h
  simp only [Bool.and_eq_true, Bool.not_eq_true', Bool.or_eq_false_iff, Bool.not_eq_false', decide_eq_true_eq] at h
  obtain ⟨⟨⟨⟨⟨hf, v1⟩, v2⟩, hb⟩, hd⟩, hg⟩ := h
  obtain ⟨e1, l1, z1⟩ := valid_limbs o1 v1
  obtain ⟨e2, l2, z2⟩ := valid_limbs o2 v2
  have hd0 : Lb.val x' ≠ 0 := fun e => by
    rw [e2, e] at hd; simp at hd
  refine ⟨⟨sgn b (Lb.val x), Lb.val x', hd0, by cases b <;> simp [sgn, Nat.Coprime, hg]⟩, ?_, ?_, hb, e2⟩
  · cases b
    · simp [Q.neg, sgn]
    · have : Lb.val x ≠ 0 := fun e => by have := z1 e; cases this
      simp [Q.neg, sgn]; omega
  · have : Q.m (⟨sgn b (Lb.val x), Lb.val x', hd0, by cases b <;> simp [sgn, Nat.Coprime, hg]⟩ : Rat) = Lb.val x := by cases b <;> simp [Q.m, sgn]
    rw [this]; exact e1
theorem q_validF {q : Rat} (h : Q.Sz 256 q) : validF (Q.neg q) (Lb.limbs (Q.m q)) false (Lb.limbs q.den) = true := by
  have k1 : Nv (Q.neg q) (Q.m q) := nv_mk h.n (by omega) Q.neg_zero
  have k2 : Nv false q.den := nv_mk h.d (by omega) (fun _ => rfl)
  unfold validF rejF
  rw [validB_nv k1, validB_nv k2, h.fits, Q.den_len, Lb.val_limbs, Lb.val_limbs]
  simp [Q.gcd_one]
theorem en30 : En 30 := en_ Tryz.func30
theorem en66 : En 66 := en_ Tryz.func66
structure Rc where
  id : Int
  b : Bool
  A : Option Addr
  c : Nat
  x : List Nat
  b' : Bool
  A' : Option Addr
  c' : Nat
  x' : List Nat
  cap : Int
instance : Inhabited Rc := ⟨⟨0, false, none, 0, [], false, none, 0, [], 0⟩⟩
abbrev Rc.cells (r : Rc) : List Value := [.int .i64 r.id, .bool r.b, .slice r.A r.x.length r.c, .bool r.b', .slice r.A' r.x'.length r.c', .int .i64 r.cap]
structure Rc.ok (W : World) (r : Rc) : Prop where
  n : R16 W r.A r.x.length r.c r.x
  d : R16 W r.A' r.x'.length r.c' r.x'
theorem V.Stb.rc {x : Rc} : V.Stb fun W => Rc.ok W x := fun _ _ h hE => ⟨h.n.below hE (Nat.le_refl _), h.d.below hE (Nat.le_refl _)⟩
instance {x : Rc} : V.StC (fun W => Rc.ok W x) := ⟨V.Stb.rc⟩
instance {w : World} {x : Rc} : V.Ab w (Rc.ok w x) (fun W => Rc.ok W x) := .mk' V.Stb.rc
theorem Rc.ok.far {W : World} {x : Rc} {g : Nat} {t : TypeId} {cs cs' : Array Value} (h : Rc.ok W x) (hb : Blk W g t cs) (hc : cs.all noLimb = true) : Rc.ok (W.setRow g cs') x := ⟨V.r16_far h.n hb hc, V.r16_far h.d hb hc⟩
def rightB (r : Rc) : Bool := ((((((decide (0 ≤ r.cap)) && (decide (r.cap ≤ 1099511627776))) && (decide ((r.x.length : Int) ≤ 4))) && (decide ((r.x'.length : Int) ≤ 4))) && (!r.b)) && (validF r.b r.x r.b' r.x'))
theorem right_s {r : Rc} {w : World} (h1 : R16 w r.A r.x.length r.c r.x) (h2 : R16 w r.A' r.x'.length r.c' r.x') :
    Calls Tryz.prog 66 #[.agg #[.int .i64 r.id, .bool r.b, .slice r.A r.x.length r.c, .bool r.b', .slice r.A' r.x'.length r.c', .int .i64 r.cap]] w fun e w' => e = .returned (.bool (rightB r)) ∧ Below w.heap.size w w' := by
 refine V.nt Tryz.func66 rfl rfl fun f0 hf => ?_
 have s0 : f0 0 = .agg #[.int .i64 r.id, .bool r.b, .slice r.A r.x.length r.c, .bool r.b', .slice r.A' r.x'.length r.c', .int .i64 r.cap] := hf 0 (by simp)
 clear hf
 have hb := Below.refl w.heap.size w
 refine V.seq ?_
 refine V.reg 2 [V.Nb w 50 #[.int .i64 r.id, .bool r.b, .slice r.A r.x.length r.c, .bool r.b', .slice r.A' r.x'.length r.c', .int .i64 r.cap], V.E (.bool false)] [0] (V.i h1 (V.i h2 hb)) ?_ ?_
 ·refine V.a2 ?_ ?_
  ·exact V.sn rfl fun f W h => V.x_box (V.eo h 0 s0)
  ·exact V.z1 rfl fun h => V.xs rfl
 have o_bel := hb.size
 intro f2 W3 e4
 clear h1 h2 hb
 obtain ⟨⟨h1, h2, hb⟩, z_⟩ := e4.g
 replace s0 := V.e1 e4 s0
 obtain ⟨g1, s1, bg1, lg1⟩ := V.eq e4 0 1 rfl
 have s2 := V.es e4 1 2 rfl
 clear e4 z_
 clear o_bel
 refine V.t_done rfl (V.nx (V.seq ?_))
 refine V.reg 3 [V.E (Vp g1 1), V.E (.agg #[.bool r.b, .slice r.A r.x.length r.c, .bool r.b', .slice r.A' r.x'.length r.c']), V.Nb W3 39 #[.bool false, .slice none 0 0, .bool false, .slice none 0 0]] [2] (V.i h1 (V.i h2 (V.i hb bg1))) ?_ ?_
 ·refine V.a3 ?_ ?_ ?_
  ·exact V.z1 rfl fun h => V.xa (V.eo h 1 s1)
  ·exact V.z1 rfl fun h => V.xl (V.ed h 0 4 rfl) (V.ld_mid (xs := [.bool r.b, .slice r.A r.x.length r.c, .bool r.b', .slice r.A' r.x'.length r.c']) h.g.1.2.2.2 (by intro j hj; match j, hj with | 0, _ => rfl | 1, _ => rfl | 2, _ => rfl | 3, _ => rfl) Tryz.underlying39)
  ·exact V.sn rfl fun f W h => V.x_alloc
 have o_g1 := bg1.lt
 have o_bel := hb.size
 intro f6 W7 e8
 clear h1 h2 hb bg1
 obtain ⟨⟨h1, h2, hb, bg1⟩, z_⟩ := e8.g
 obtain ⟨s0, s1, s2⟩ := V.e3 e8 s0 s1 s2
 have s5 := V.es e8 1 5 rfl
 obtain ⟨g5, s3, bg5, lg5⟩ := V.eq e8 2 3 rfl
 have mg5 := Nat.le_trans o_bel lg5
 have q1_5 : g1 ≠ g5 := by omega
 clear e8 z_
 clear o_bel o_g1
 refine V.tsr (k := 3) rfl s3 s5 bg5 fun W9 hs b' => ?_
 replace h1 := hs.r16 h1
 replace h2 := hs.r16 h2
 replace hb := hs.bel hb mg5
 replace bg1 := hs.blk bg1 q1_5
 replace bg5 := b'
 clear hs b'
 refine V.t_done rfl (V.nx (V.seq ?_))
 refine V.reg 33 [V.E (Vp g1 5), V.E (.int .i64 r.cap), V.E (.bool (decide (0 ≤ r.cap))), V.E (.bool (decide (0 ≤ r.cap))), (V.Gd (decide (0 ≤ r.cap)) (V.E (Vp g1 5))), (V.Gd (decide (0 ≤ r.cap)) (V.E (.int .i64 r.cap))), (V.Gd (decide (0 ≤ r.cap)) (V.E (.bool (decide (r.cap ≤ 1099511627776))))), V.E (.bool ((decide (0 ≤ r.cap)) && (decide (r.cap ≤ 1099511627776)))), V.E (.bool ((decide (0 ≤ r.cap)) && (decide (r.cap ≤ 1099511627776)))), (V.Gd ((decide (0 ≤ r.cap)) && (decide (r.cap ≤ 1099511627776))) (V.E (Vp g5 0))), (V.Gd ((decide (0 ≤ r.cap)) && (decide (r.cap ≤ 1099511627776))) (V.E (Vp g5 1))), (V.Gd ((decide (0 ≤ r.cap)) && (decide (r.cap ≤ 1099511627776))) (V.E (.slice r.A r.x.length r.c))), (V.Gd ((decide (0 ≤ r.cap)) && (decide (r.cap ≤ 1099511627776))) (V.E (.int .i64 (r.x.length : Int)))), (V.Gd ((decide (0 ≤ r.cap)) && (decide (r.cap ≤ 1099511627776))) (V.E (.bool (decide ((r.x.length : Int) ≤ 4))))), V.E (.bool (((decide (0 ≤ r.cap)) && (decide (r.cap ≤ 1099511627776))) && (decide ((r.x.length : Int) ≤ 4)))), V.E (.bool (((decide (0 ≤ r.cap)) && (decide (r.cap ≤ 1099511627776))) && (decide ((r.x.length : Int) ≤ 4)))), (V.Gd (((decide (0 ≤ r.cap)) && (decide (r.cap ≤ 1099511627776))) && (decide ((r.x.length : Int) ≤ 4))) (V.E (Vp g5 2))), (V.Gd (((decide (0 ≤ r.cap)) && (decide (r.cap ≤ 1099511627776))) && (decide ((r.x.length : Int) ≤ 4))) (V.E (Vp g5 3))), (V.Gd (((decide (0 ≤ r.cap)) && (decide (r.cap ≤ 1099511627776))) && (decide ((r.x.length : Int) ≤ 4))) (V.E (.slice r.A' r.x'.length r.c'))), (V.Gd (((decide (0 ≤ r.cap)) && (decide (r.cap ≤ 1099511627776))) && (decide ((r.x.length : Int) ≤ 4))) (V.E (.int .i64 (r.x'.length : Int)))), (V.Gd (((decide (0 ≤ r.cap)) && (decide (r.cap ≤ 1099511627776))) && (decide ((r.x.length : Int) ≤ 4))) (V.E (.bool (decide ((r.x'.length : Int) ≤ 4))))), V.E (.bool ((((decide (0 ≤ r.cap)) && (decide (r.cap ≤ 1099511627776))) && (decide ((r.x.length : Int) ≤ 4))) && (decide ((r.x'.length : Int) ≤ 4)))), V.E (.bool ((((decide (0 ≤ r.cap)) && (decide (r.cap ≤ 1099511627776))) && (decide ((r.x.length : Int) ≤ 4))) && (decide ((r.x'.length : Int) ≤ 4)))), (V.Gd ((((decide (0 ≤ r.cap)) && (decide (r.cap ≤ 1099511627776))) && (decide ((r.x.length : Int) ≤ 4))) && (decide ((r.x'.length : Int) ≤ 4))) (V.E (Vp g5 0))), (V.Gd ((((decide (0 ≤ r.cap)) && (decide (r.cap ≤ 1099511627776))) && (decide ((r.x.length : Int) ≤ 4))) && (decide ((r.x'.length : Int) ≤ 4))) (V.E (Vp g5 0))), (V.Gd ((((decide (0 ≤ r.cap)) && (decide (r.cap ≤ 1099511627776))) && (decide ((r.x.length : Int) ≤ 4))) && (decide ((r.x'.length : Int) ≤ 4))) (V.E (.bool r.b))), (V.Gd ((((decide (0 ≤ r.cap)) && (decide (r.cap ≤ 1099511627776))) && (decide ((r.x.length : Int) ≤ 4))) && (decide ((r.x'.length : Int) ≤ 4))) (V.E (.bool (!r.b)))), V.E (.bool (((((decide (0 ≤ r.cap)) && (decide (r.cap ≤ 1099511627776))) && (decide ((r.x.length : Int) ≤ 4))) && (decide ((r.x'.length : Int) ≤ 4))) && (!r.b))), V.E (.bool (((((decide (0 ≤ r.cap)) && (decide (r.cap ≤ 1099511627776))) && (decide ((r.x.length : Int) ≤ 4))) && (decide ((r.x'.length : Int) ≤ 4))) && (!r.b))), (V.Gd (((((decide (0 ≤ r.cap)) && (decide (r.cap ≤ 1099511627776))) && (decide ((r.x.length : Int) ≤ 4))) && (decide ((r.x'.length : Int) ≤ 4))) && (!r.b)) (V.E (.agg #[.bool r.b, .slice r.A r.x.length r.c, .bool r.b', .slice r.A' r.x'.length r.c']))), (V.Gd (((((decide (0 ≤ r.cap)) && (decide (r.cap ≤ 1099511627776))) && (decide ((r.x.length : Int) ≤ 4))) && (decide ((r.x'.length : Int) ≤ 4))) && (!r.b)) (V.E (.bool (validF r.b r.x r.b' r.x')))), V.E (.bool ((((((decide (0 ≤ r.cap)) && (decide (r.cap ≤ 1099511627776))) && (decide ((r.x.length : Int) ≤ 4))) && (decide ((r.x'.length : Int) ≤ 4))) && (!r.b)) && (validF r.b r.x r.b' r.x'))), V.E (.bool ((((((decide (0 ≤ r.cap)) && (decide (r.cap ≤ 1099511627776))) && (decide ((r.x.length : Int) ≤ 4))) && (decide ((r.x'.length : Int) ≤ 4))) && (!r.b)) && (validF r.b r.x r.b' r.x')))] [] (V.i h1 (V.i h2 (V.i hb (V.i bg1 bg5)))) ?_ ?_
 ·refine V.b8 ?_ ?_ ?_ ?_ ?_ ?_ ?_ ?_ (V.b8 ?_ ?_ ?_ ?_ ?_ ?_ ?_ ?_ (V.b8 ?_ ?_ ?_ ?_ ?_ ?_ ?_ ?_ (V.b8 ?_ ?_ ?_ ?_ ?_ ?_ ?_ ?_ (V.ac ?_ V.an))))
  ·exact V.z1 rfl fun h => V.xa (V.eo h 1 s1)
  ·exact V.z1 rfl fun h => V.xl (V.ed h 0 6 rfl) (V.lo h.g.1.2.2.2.1 rfl)
  ·exact V.z1 rfl fun h => V.xb (V.ed h 1 7 rfl) rfl
  ·exact V.me rfl 2 8 rfl
  ·exact V.gt 3 9 rfl rfl fun hp f W h => V.v1 (V.xa (V.eo h 1 s1))
  ·exact V.gt 3 9 rfl rfl fun hp f W h => V.v1 (V.xl (V.eg h 4 10 rfl hp) (V.lo h.g.1.2.2.2.1 rfl))
  ·exact V.gt 3 9 rfl rfl fun hp f W h => V.v1 (V.xb (V.eg h 5 11 rfl hp) rfl)
  ·refine V.s1 rfl fun f W h => ?_
   have d12 := V.dp h 6 12 (by kernel_rfl) rfl
   exact V.x_and (V.ed h 3 9 rfl) (fun e => V.ev_tmp rfl (V.gd_on d12 e)) rfl
  ·exact V.me rfl 7 13 rfl
  ·exact V.gt 8 14 rfl rfl fun hp f W h => V.v1 (V.xa (V.eo h 3 s3))
  ·exact V.gt 8 14 rfl rfl fun hp f W h => V.v1 (V.xa (V.eg h 9 15 rfl hp))
  ·exact V.gt 8 14 rfl rfl fun hp f W h => V.v1 (V.xl (V.eg h 10 16 rfl hp) (V.lo h.g.1.2.2.2.2 rfl))
  ·exact V.gt 8 14 rfl rfl fun hp f W h => V.v1 (V.x_len (V.eg h 11 17 rfl hp))
  ·exact V.gt 8 14 rfl rfl fun hp f W h => V.v1 (V.xb (V.eg h 12 18 rfl hp) rfl)
  ·refine V.s1 rfl fun f W h => ?_
   have d19 := V.dp h 13 19 (by kernel_rfl) rfl
   exact V.x_and (V.ed h 8 14 rfl) (fun e => V.ev_tmp rfl (V.gd_on d19 e)) rfl
  ·exact V.me rfl 14 20 rfl
  ·exact V.gt 15 21 rfl rfl fun hp f W h => V.v1 (V.xa (V.eo h 3 s3))
  ·exact V.gt 15 21 rfl rfl fun hp f W h => V.v1 (V.xa (V.eg h 16 22 rfl hp))
  ·exact V.gt 15 21 rfl rfl fun hp f W h => V.v1 (V.xl (V.eg h 17 23 rfl hp) (V.lo h.g.1.2.2.2.2 rfl))
  ·exact V.gt 15 21 rfl rfl fun hp f W h => V.v1 (V.x_len (V.eg h 18 24 rfl hp))
  ·exact V.gt 15 21 rfl rfl fun hp f W h => V.v1 (V.xb (V.eg h 19 25 rfl hp) rfl)
  ·refine V.s1 rfl fun f W h => ?_
   have d26 := V.dp h 20 26 (by kernel_rfl) rfl
   exact V.x_and (V.ed h 15 21 rfl) (fun e => V.ev_tmp rfl (V.gd_on d26 e)) rfl
  ·exact V.me rfl 21 27 rfl
  ·exact V.gt 22 28 rfl rfl fun hp f W h => V.v1 (V.xa (V.eo h 3 s3))
  ·exact V.gt 22 28 rfl rfl fun hp f W h => V.v1 (V.xa (V.eg h 23 29 rfl hp))
  ·exact V.gt 22 28 rfl rfl fun hp f W h => V.v1 (V.xl (V.eg h 24 30 rfl hp) (V.lo h.g.1.2.2.2.2 rfl))
  ·exact V.gt 22 28 rfl rfl fun hp f W h => V.v1 (V.x_un (V.eg h 25 31 rfl hp))
  ·refine V.s1 rfl fun f W h => ?_
   have d32 := V.dp h 26 32 (by kernel_rfl) rfl
   exact V.x_and (V.ed h 22 28 rfl) (fun e => V.ev_tmp rfl (V.gd_on d32 e)) rfl
  ·exact V.me rfl 27 33 rfl
  ·exact V.gt 28 34 rfl rfl fun hp f W h => V.v1 (V.xl (V.eo h 3 s3) (V.lr h.g.1.2.2.2.2 Tryz.underlying39))
  ·refine V.gt 28 34 rfl rfl fun hp f W h => ?_
   refine V.call en25 (V.args1 (V.eg h 29 35 rfl hp)) (Calls.mono (Valid_raw h.g.1.1 h.g.1.2.1) ?_)
   rintro e W' ⟨rfl, hb⟩
   exact ⟨_, rfl, rfl, hb⟩
  ·refine V.s1 rfl fun f W h => ?_
   have d36 := V.dp h 30 36 (by kernel_rfl) rfl
   exact V.x_and (V.ed h 28 34 rfl) (fun e => V.ev_tmp rfl (V.gd_on d36 e)) rfl
  ·exact V.se rfl 31 37 rfl
 intro f10 W11 e12
 clear h1 h2 hb bg1 bg5
 obtain ⟨⟨h1, h2, hb, bg1, bg5⟩, z_⟩ := e12.g
 replace s0 := V.e1 e12 s0
 have s2 := V.es e12 32 2 rfl
 clear e12 z_
 refine V.t_done rfl (V.nx (V.ret ?_))
 refine V.leave_any (.inl rfl) (V.res_tmp rfl rfl s2) ?_
 exact ⟨rfl, hb⟩
structure ValidL (l : List Rc) : Prop where
  n : l.length ≤ 32
  r : ∀ r ∈ l, rightB r = true
  s : ∀ j a b, l[j]? = some a → l[j + 1]? = some b → a.id < b.id
open Classical in
noncomputable def validL (l : List Rc) : Bool := decide (ValidL l)
theorem validL_iff (l : List Rc) : validL l = true ↔ ValidL l := by unfold validL; simp
structure VUp (l : List Rc) (i : Nat) : Prop where
  n : i ≤ 32
  r : ∀ j r, j < i → l[j]? = some r → rightB r = true
  s : ∀ j a b, j + 1 < i → l[j]? = some a → l[j + 1]? = some b → a.id < b.id
theorem vup_zero (l : List Rc) : VUp l 0 := ⟨by omega, fun _ _ h => by omega, fun _ _ _ h => by omega⟩
theorem vup_step {l : List Rc} {i : Nat} {r r0 : Rc} (h : VUp l i) (hi : l[i]? = some r) (hp : l[i - 1]? = some r0) (hT : ((decide (32 ≤ (i : Int)) || (!(rightB r))) || (decide (0 < (i : Int)) && decide (r.id ≤ r0.id))) = false) : VUp l (i + 1) := by
  simp only [Bool.or_eq_false_iff, Bool.and_eq_false_iff, decide_eq_false_iff_not, Bool.not_eq_false'] at hT
  obtain ⟨⟨h1, h2⟩, h3⟩ := hT
  refine ⟨by omega, fun j x hj hx => ?_, fun j a b hj ha hb => ?_⟩
  · by_cases e : j = i
    · subst e; rw [hi] at hx; cases hx; exact h2
    · exact h.r j x (by omega) hx
  · by_cases e : j + 1 = i
    · subst e
      rw [hi] at hb; cases hb
      rw [Nat.add_sub_cancel, ha] at hp; cases hp
      omega
    · exact h.s j a b (by omega) ha hb
theorem vup_bad {l : List Rc} {i : Nat} {r r0 : Rc} (hi : l[i]? = some r) (hp : l[i - 1]? = some r0) (hT : ((decide (32 ≤ (i : Int)) || (!(rightB r))) || (decide (0 < (i : Int)) && decide (r.id ≤ r0.id))) = true) : validL l = false := by
  rw [← Bool.not_eq_true, validL_iff]
  intro h
  have hl := (List.getElem?_eq_some_iff.1 hi).1
  have h1 := h.r r (List.mem_of_getElem? hi)
  have h2 := h.n
  simp only [Bool.or_eq_true, Bool.and_eq_true, decide_eq_true_eq, Bool.not_eq_true'] at hT
  rcases hT with (hT | hT) | hT
  · omega
  · rw [h1] at hT; cases hT
  · have := h.s (i - 1) r0 r hp (by rw [show i - 1 + 1 = i by omega]; exact hi)
    omega
theorem vup_end {l : List Rc} (h : VUp l l.length) : validL l = true := by
  rw [validL_iff]
  refine ⟨h.n, fun r hr => ?_, fun j a b ha hb => ?_⟩
  · obtain ⟨j, hj⟩ := List.getElem?_of_mem hr
    exact h.r j r (List.getElem?_eq_some_iff.1 hj).1 hj
  · exact h.s j a b (List.getElem?_eq_some_iff.1 hb).1 ha hb
theorem Valid_s {A : Option Addr} {c : Nat} {l : List Rc} {w : World} (hl : Ls w 6 A l.length c (l.map Rc.cells)) (hfr : ∀ x ∈ l, Rc.ok w x) :
    Calls Tryz.prog 30 #[.slice A l.length c] w fun e w' => e = .returned (.bool (validL l)) ∧ Below w.heap.size w w' := by
 have hlen : l.length ≤ 9223372036854775807 := Nat.le_trans hl.cap hl.max
 refine V.nt Tryz.func30 rfl rfl fun f0 hf => ?_
 have s0 : f0 0 = .slice A l.length c := hf 0 (by simp)
 clear hf
 have hb := Below.refl w.heap.size w
 refine V.seq ?_
 refine V.reg 1 [V.E (.bool false)] [] (V.i hl (V.i hfr hb)) ?_ ?_
 ·refine V.ac ?_ V.an
  ·exact V.z1 rfl fun h => V.xs rfl
 intro f13 W14 e15
 clear hl hfr hb
 obtain ⟨⟨hl, hfr, hb⟩, z_⟩ := e15.g
 replace s0 := V.e1 e15 s0
 have s2 := V.es e15 0 2 rfl
 clear e15 z_
 refine V.t_done rfl (V.nx (V.seq (V.seq ?_)))
 refine V.reg 3 [V.E (.slice A l.length c), V.E (.int .i64 (l.length : Int)), V.E (.int .i64 0)] [] (V.i hl (V.i hfr hb)) ?_ ?_
 ·refine V.a3 ?_ ?_ ?_
  ·exact V.mo rfl 0 s0
  ·exact V.z1 rfl fun h => V.x_len (V.ed h 0 5 rfl)
  ·exact V.z1 rfl fun h => V.xm rfl
 intro f16 W17 e18
 clear hl hfr hb
 obtain ⟨⟨hl, hfr, hb⟩, z_⟩ := e18.g
 obtain ⟨s0, s2⟩ := V.e2 e18 s0 s2
 have s5 := V.es e18 0 5 rfl
 have s6 := V.es e18 1 6 rfl
 have s7 := V.es e18 2 7 rfl
 clear e18 z_
 refine V.t_done rfl (V.nx (V.block ?_))
 refine V.loop (fun k f W => ∃ i : Nat, (k = l.length - i ∧ (i ≤ l.length) ∧ (VUp l i)) ∧ (f 0 = .slice A l.length c ∧ f 5 = .slice A l.length c ∧ f 6 = .int .i64 (l.length : Int) ∧ f 7 = .int .i64 (i : Int)) ∧ (Below w.heap.size w W ∧ Ls W 6 A l.length c (l.map Rc.cells) ∧ (∀ x ∈ l, Rc.ok W x))) (l.length - 0) ⟨0, ⟨rfl, by omega, vup_zero l⟩, ⟨s0, s5, s6, (s7.trans (by simp))⟩, ⟨hb, hl, hfr⟩⟩ ?_
 clear hl hfr hb s0 s2 s5 s6 s7
 rintro k21 f19 W20 ⟨i, ⟨hk25, hil, hv⟩, ⟨s0, s5, s6, s7⟩, ⟨r22, r23, r24⟩⟩
 refine V.seq ?_
 refine V.reg 1 [V.E (.bool (decide ((i : Int) < (l.length : Int))))] [] (V.i r22 (V.i r23 r24)) ?_ ?_
 ·refine V.ac ?_ V.an
  ·exact V.z1 rfl fun h => V.xb (V.eo h 7 s7) (V.eo h 6 s6)
 intro f26 W27 e28
 clear r22 r23 r24
 obtain ⟨⟨r22, r23, r24⟩, z_⟩ := e28.g
 obtain ⟨s0, s5, s6, s7⟩ := V.e4 e28 s0 s5 s6 s7
 have s8 := V.es e28 0 8 rfl
 clear e28 z_
 refine V.t_done rfl (V.nx (V.seq ?_))
 cases hc29 : (decide ((i : Int) < (l.length : Int)))
 ·have s8_ : f26 8 = .bool false := s8.trans (by rw [hc29])
  refine V.cond_f (V.ev_tmp rfl s8_) ?_
  have hi : i = l.length := by have := of_decide_eq_false hc29; omega
  rw [hi] at hv
  refine V.exit (V.tx (V.tx (V.bx (V.nx (V.seq ?_)))))
  refine V.reg 1 [V.E (.bool true)] [] (V.i r22 (V.i r23 r24)) ?_ ?_
  ·refine V.ac ?_ V.an
   ·exact V.z1 rfl fun h => V.xs rfl
  intro f30 W31 e32
  clear r22 r23 r24
  obtain ⟨⟨r22, r23, r24⟩, z_⟩ := e32.g
  replace s0 := V.e1 e32 s0
  have s2 := V.es e32 0 2 rfl
  clear e32 z_
  refine V.t_done rfl (V.nx (V.ret ?_))
  refine V.leave_any (.inl rfl) (V.res_tmp rfl rfl s2) ?_
  exact ⟨by rw [vup_end hv], r22⟩
 ·have s8_ : f26 8 = .bool true := s8.trans (by rw [hc29])
  refine V.cond_t (V.ev_tmp rfl s8_) ?_
  have hi : i < l.length := by have := of_decide_eq_true hc29; omega
  obtain ⟨r, mr, er, er_⟩ := V.at_map Rc.cells (l := l) (i := i) (by omega)
  obtain ⟨r0, mr0, er0, er0_⟩ := V.at_map Rc.cells (l := l) (i := i - 1) (by omega)
  have n1 := (r24 r mr).n
  have n2 := (r24 r mr).d
  refine V.skip ?_
  refine V.nx (V.seq (V.block (V.seq ?_)))
  refine V.reg 5 [V.E (.int .i64 (i : Int)), V.E (.pointer (some ((adr A).add (i * 6 + 0)))), V.E (.agg #[.int .i64 r.id, .bool r.b, .slice r.A r.x.length r.c, .bool r.b', .slice r.A' r.x'.length r.c', .int .i64 r.cap]), V.Nb W27 50 #[.int .i64 0, .bool false, .slice none 0 0, .bool false, .slice none 0 0, .int .i64 0], V.E (.int .i64 (i : Int))] [3] (V.i r22 (V.i r23 (V.i r24 (V.i n1 n2)))) ?_ ?_
  ·refine V.a5 ?_ ?_ ?_ ?_ ?_
   ·exact V.mo rfl 7 s7
   ·exact V.z1 rfl fun h => V.xi (i := i) h.g.1.2.1 er_ (V.eo h 5 s5) (V.eo h 7 s7)
   ·exact V.z1 rfl fun h => V.xl (V.ed h 1 10 rfl) (V.ld_lsE (i := i) (o := 0) (cs := [.int .i64 r.id, .bool r.b, .slice r.A r.x.length r.c, .bool r.b', .slice r.A' r.x'.length r.c', .int .i64 r.cap]) h.g.1.2.1 er_ Tryz.underlying50)
   ·exact V.sn rfl fun f W h => V.x_alloc
   ·exact V.se rfl 0 9 rfl
  have o_bel := r22.size
  have ob_r23 := r23.blt
  intro f34 W35 e36
  clear r22 r23 r24 n1 n2
  obtain ⟨⟨r22, r23, r24, n1, n2⟩, z_⟩ := e36.g
  obtain ⟨s0, s5, s6, s7⟩ := V.e4 e36 s0 s5 s6 s7
  have s11 := V.es e36 2 11 rfl
  obtain ⟨g33, s4, bg33, lg33⟩ := V.eq e36 3 4 rfl
  have mg33 := Nat.le_trans o_bel lg33
  have q_r23_g33 : 0 < l.length → (adr A).block ≠ g33 := fun h => Nat.ne_of_lt (Nat.lt_of_lt_of_le (ob_r23 h) lg33)
  have s3 := V.es e36 4 3 rfl
  clear e36 z_
  clear o_bel ob_r23
  refine V.t_skip (k := 5) rfl rfl rfl (by kernel_rfl) trivial (V.x_store (V.ev_tmp rfl s4) (V.ev_tmp rfl s11) (V.st_row (cs' := #[.int .i64 r.id, .bool r.b, .slice r.A r.x.length r.c, .bool r.b', .slice r.A' r.x'.length r.c', .int .i64 r.cap]) bg33 (by kernel_rfl) rfl (by kernel_rfl))) ?_
  replace r22 := V.bel_far (cs := #[.int .i64 r.id, .bool r.b, .slice r.A r.x.length r.c, .bool r.b', .slice r.A' r.x'.length r.c', .int .i64 r.cap]) r22 mg33
  replace r23 := Ls.far r23 q_r23_g33 (#[.int .i64 r.id, .bool r.b, .slice r.A r.x.length r.c, .bool r.b', .slice r.A' r.x'.length r.c', .int .i64 r.cap])
  replace r24 := (fun x_0 hx_0 => Rc.ok.far (cs' := #[.int .i64 r.id, .bool r.b, .slice r.A r.x.length r.c, .bool r.b', .slice r.A' r.x'.length r.c', .int .i64 r.cap]) (r24 x_0 hx_0) bg33 (by simp [noLimb]))
  replace n1 := V.r16_far (cs' := #[.int .i64 r.id, .bool r.b, .slice r.A r.x.length r.c, .bool r.b', .slice r.A' r.x'.length r.c', .int .i64 r.cap]) n1 bg33 (by simp [noLimb])
  replace n2 := V.r16_far (cs' := #[.int .i64 r.id, .bool r.b, .slice r.A r.x.length r.c, .bool r.b', .slice r.A' r.x'.length r.c', .int .i64 r.cap]) n2 bg33 (by simp [noLimb])
  replace bg33 := V.blk_same (cs' := #[.int .i64 r.id, .bool r.b, .slice r.A r.x.length r.c, .bool r.b', .slice r.A' r.x'.length r.c', .int .i64 r.cap]) bg33
  generalize W35.setRow g33 #[.int .i64 r.id, .bool r.b, .slice r.A r.x.length r.c, .bool r.b', .slice r.A' r.x'.length r.c', .int .i64 r.cap] = W37 at *
  refine V.t_done rfl (V.nx (V.seq ?_))
  refine V.reg 22 [V.E (.int .i64 (i : Int)), V.E (.bool (decide (32 ≤ (i : Int)))), V.E (.bool (decide (32 ≤ (i : Int)))), (V.Gd (!(decide (32 ≤ (i : Int)))) (V.E (.agg #[.int .i64 r.id, .bool r.b, .slice r.A r.x.length r.c, .bool r.b', .slice r.A' r.x'.length r.c', .int .i64 r.cap]))), (V.Gd (!(decide (32 ≤ (i : Int)))) (V.E (.bool (rightB r)))), (V.Gd (!(decide (32 ≤ (i : Int)))) (V.E (.bool (!(rightB r))))), V.E (.bool ((decide (32 ≤ (i : Int))) || (!(rightB r)))), V.E (.bool ((decide (32 ≤ (i : Int))) || (!(rightB r)))), (V.Gd (!((decide (32 ≤ (i : Int))) || (!(rightB r)))) (V.E (.int .i64 (i : Int)))), (V.Gd (!((decide (32 ≤ (i : Int))) || (!(rightB r)))) (V.E (.bool (decide (0 < (i : Int)))))), (V.Gd (!((decide (32 ≤ (i : Int))) || (!(rightB r)))) (V.E (.bool (decide (0 < (i : Int)))))), (V.Gd ((!((decide (32 ≤ (i : Int))) || (!(rightB r)))) && (decide (0 < (i : Int)))) (V.E (Vp g33 0))), (V.Gd ((!((decide (32 ≤ (i : Int))) || (!(rightB r)))) && (decide (0 < (i : Int)))) (V.E (.int .i64 r.id))), (V.Gd ((!((decide (32 ≤ (i : Int))) || (!(rightB r)))) && (decide (0 < (i : Int)))) (V.E (.slice A l.length c))), (V.Gd ((!((decide (32 ≤ (i : Int))) || (!(rightB r)))) && (decide (0 < (i : Int)))) (V.E (.int .i64 (i : Int)))), (V.Gd ((!((decide (32 ≤ (i : Int))) || (!(rightB r)))) && (decide (0 < (i : Int)))) (V.E (.int .i64 ((i : Int) - 1)))), (V.Gd ((!((decide (32 ≤ (i : Int))) || (!(rightB r)))) && (decide (0 < (i : Int)))) (V.E (.pointer (some ((adr A).add ((i - 1) * 6 + 0)))))), (V.Gd ((!((decide (32 ≤ (i : Int))) || (!(rightB r)))) && (decide (0 < (i : Int)))) (V.E (.pointer (some ((adr A).add ((i - 1) * 6 + 0)))))), (V.Gd ((!((decide (32 ≤ (i : Int))) || (!(rightB r)))) && (decide (0 < (i : Int)))) (V.E (.int .i64 r0.id))), (V.Gd ((!((decide (32 ≤ (i : Int))) || (!(rightB r)))) && (decide (0 < (i : Int)))) (V.E (.bool (decide (r.id ≤ r0.id))))), (V.Gd (!((decide (32 ≤ (i : Int))) || (!(rightB r)))) (V.E (.bool ((decide (0 < (i : Int))) && (decide (r.id ≤ r0.id)))))), V.E (.bool (((decide (32 ≤ (i : Int))) || (!(rightB r))) || ((decide (0 < (i : Int))) && (decide (r.id ≤ r0.id)))))] [] (V.i r22 (V.i r23 (V.i r24 (V.i n1 (V.i n2 bg33))))) ?_ ?_
  ·refine V.b8 ?_ ?_ ?_ ?_ ?_ ?_ ?_ ?_ (V.b8 ?_ ?_ ?_ ?_ ?_ ?_ ?_ ?_ (V.a6 ?_ ?_ ?_ ?_ ?_ ?_))
   ·exact V.mo rfl 3 s3
   ·exact V.z1 rfl fun h => V.xb (V.ed h 0 12 rfl) rfl
   ·exact V.me rfl 1 13 rfl
   ·exact V.gf 2 14 rfl rfl fun hp f W h => V.v1 (V.xl (V.eo h 4 s4) (V.lr h.g.1.2.2.2.2.2 Tryz.underlying50))
   ·refine V.gf 2 14 rfl rfl fun hp f W h => ?_
    refine V.call en66 (V.args1 (V.eg h 3 15 rfl hp)) (Calls.mono (right_s h.g.1.2.2.2.1 h.g.1.2.2.2.2.1) ?_)
    rintro e W' ⟨rfl, hb⟩
    exact ⟨_, rfl, rfl, hb⟩
   ·exact V.gf 2 14 rfl rfl fun hp f W h => V.v1 (V.x_un (V.eg h 4 16 rfl hp))
   ·refine V.s1 rfl fun f W h => ?_
    have d17 := V.dp h 5 17 (by kernel_rfl) rfl
    exact V.x_or (V.ed h 2 14 rfl) rfl (fun e => V.ev_tmp rfl (V.gd_on d17 (V.not_t e)))
   ·exact V.me rfl 6 18 rfl
   ·exact V.gf 7 19 rfl rfl fun hp f W h => V.v1 (V.xm (V.eo h 3 s3))
   ·exact V.gf 7 19 rfl rfl fun hp f W h => V.v1 (V.xb (V.eg h 8 20 rfl hp) rfl)
   ·exact V.gf 7 19 rfl rfl fun hp f W h => V.v1 (V.xm (V.eg h 9 21 rfl hp))
   ·exact V.g2t 10 22 rfl rfl fun hp f W h => V.v1 (V.xa (V.eo h 4 s4))
   ·exact V.g2t 10 22 rfl rfl fun hp f W h => V.v1 (V.xl (V.eg h 11 23 rfl hp) (V.lo h.g.1.2.2.2.2.2 rfl))
   ·exact V.g2t 10 22 rfl rfl fun hp f W h => V.v1 (V.xm (V.eo h 0 s0))
   ·exact V.g2t 10 22 rfl rfl fun hp f W h => V.v1 (V.xm (V.eo h 3 s3))
   ·refine V.g2t 10 22 rfl rfl fun hp f W h => ?_
    have hw38 : IntKind.i64.wrap ((i : Int) - 1) = (i : Int) - 1 := by exact IntWalk.i64_in _ (by omega)
    exact V.v2 (.int .i64 ((i : Int) - 1)) (V.xb (V.eg h 14 26 rfl hp) rfl ((by kernel_rfl : _ = Result.ok (.int .i64 (IntKind.i64.wrap ((i : Int) - 1))) _).trans (by rw [hw38]))) rfl
   ·exact V.g2t 10 22 rfl rfl fun hp f W h => V.v1 (V.xi (i := (i - 1)) h.g.1.2.1 er0_ (V.eg h 13 25 rfl hp) ((V.eg h 15 27 rfl hp).trans (congrArg (Value.int .i64) (by have h0 := of_decide_eq_true (V.and_r hp); omega))))
   ·exact V.g2t 10 22 rfl rfl fun hp f W h => V.v1 (V.x_fieldP (j := (i - 1) * 6 + 0) (k := 0) (V.eg h 16 28 rfl hp) (fun _ => by kernel_rfl))
   ·exact V.g2t 10 22 rfl rfl fun hp f W h => V.v1 (V.xl (V.eg h 17 29 rfl hp) (V.ld_ls1 (i := i - 1) (o := 0) h.g.1.2.1 er0_ rfl))
   ·exact V.g2t 10 22 rfl rfl fun hp f W h => V.v1 (V.xb (V.eg h 12 24 rfl hp) (V.eg h 18 30 rfl hp))
   ·refine V.gf 7 19 rfl rfl fun hp f W h => ?_
    have d31 := V.dp h 19 31 (by kernel_rfl) rfl
    exact V.v2 (.bool ((decide (0 < (i : Int))) && (decide (r.id ≤ r0.id)))) (V.x_and (V.eg h 10 22 rfl hp) (fun e => V.ev_tmp rfl (V.gd_on d31 (V.and_i hp e))) rfl) rfl
   ·refine V.s1 rfl fun f W h => ?_
    have d32 := V.dp h 20 32 (by kernel_rfl) rfl
    exact V.x_or (V.ed h 7 19 rfl) rfl (fun e => V.ev_tmp rfl (V.gd_on d32 (V.not_t e)))
  intro f39 W40 e41
  clear r22 r23 r24 n1 n2 bg33
  obtain ⟨⟨r22, r23, r24, n1, n2, bg33⟩, z_⟩ := e41.g
  obtain ⟨s0, s5, s6, s7⟩ := V.e4 e41 s0 s5 s6 s7
  have s33 := V.es e41 21 33 rfl
  clear e41 z_
  refine V.t_done rfl (V.nx ?_)
  cases hc42 : (((decide (32 ≤ (i : Int))) || (!(rightB r))) || ((decide (0 < (i : Int))) && (decide (r.id ≤ r0.id))))
  ·have s33_ : f39 33 = .bool false := s33.trans (by rw [hc42])
   refine V.cond_f (V.ev_tmp rfl s33_) ?_
   refine V.skip ?_
   refine V.bn (V.nx ?_)
   clear bg33
   refine V.reg 2 [V.E (.int .i64 ((i : Int) + 1)), V.E (.int .i64 ((i : Int) + 1))] [] (V.i r22 (V.i r23 (V.i r24 (V.i n1 n2)))) ?_ ?_
   ·refine V.a2 ?_ ?_
    ·refine V.s1 rfl fun f W h => ?_
     have hw43 : IntKind.i64.wrap ((i : Int) + 1) = (i : Int) + 1 := by exact IntWalk.i64_in _ (by omega)
     exact V.xb (V.eo h 7 s7) rfl ((by kernel_rfl : _ = Result.ok (.int .i64 (IntKind.i64.wrap ((i : Int) + 1))) _).trans (by rw [hw43]))
    ·exact V.me rfl 0 34 rfl
   intro f44 W45 e46
   clear r22 r23 r24 n1 n2
   obtain ⟨⟨r22, r23, r24, n1, n2⟩, z_⟩ := e46.g
   obtain ⟨s0, s5, s6⟩ := V.e3 e46 s0 s5 s6
   have s7 := V.es e46 1 7 rfl
   clear e46 z_
   refine V.t_done rfl ?_
   refine V.handed (l.length - (i + 1)) (by have := hk25; omega) ⟨(i + 1), ⟨rfl, by omega, vup_step hv er er0 hc42⟩, ⟨s0, s5, s6, (s7.trans (by simp))⟩, ⟨r22, r23, r24⟩⟩
  ·have s33_ : f39 33 = .bool true := s33.trans (by rw [hc42])
   refine V.cond_t (V.ev_tmp rfl s33_) ?_
   refine V.seq ?_
   clear bg33
   refine V.reg 1 [V.E (.bool false)] [] (V.i r22 (V.i r23 (V.i r24 (V.i n1 n2)))) ?_ ?_
   ·refine V.ac ?_ V.an
    ·exact V.z1 rfl fun h => V.xs rfl
   intro f47 W48 e49
   clear r22 r23 r24 n1 n2
   obtain ⟨⟨r22, r23, r24, n1, n2⟩, z_⟩ := e49.g
   obtain ⟨s0, s5, s6, s7⟩ := V.e4 e49 s0 s5 s6 s7
   have s2 := V.es e49 0 2 rfl
   clear e49 z_
   refine V.t_done rfl (V.nx (V.ret (V.br (V.tr (V.tr (V.br (V.tr ?_)))))))
   refine V.leave_any (.inl rfl) (V.res_tmp rfl rfl s2) ?_
   exact ⟨by rw [vup_bad er er0 hc42], r22⟩
noncomputable def allowedB (a : Int) (l : List Rc) : Bool := (((decide (0 ≤ a)) && (decide (a ≤ 1099511627776))) && (validL l))
theorem allowed_s {a : Int} {A : Option Addr} {c : Nat} {l : List Rc} {w : World} (hl : Ls w 6 A l.length c (l.map Rc.cells)) (hfr : ∀ x ∈ l, Rc.ok w x) :
    Calls Tryz.prog 40 #[.int .i64 a, .slice A l.length c] w fun e w' => e = .returned (.bool (allowedB a l)) ∧ Below w.heap.size w w' := by
 refine V.nt Tryz.func40 rfl rfl fun f0 hf => ?_
 have s0 : f0 0 = .int .i64 a := hf 0 (by simp)
 have s1 : f0 1 = .slice A l.length c := hf 1 (by simp)
 clear hf
 have hb := Below.refl w.heap.size w
 refine V.seq ?_
 refine V.reg 1 [V.E (.bool false)] [] (V.i hl (V.i hfr hb)) ?_ ?_
 ·refine V.ac ?_ V.an
  ·exact V.z1 rfl fun h => V.xs rfl
 intro f50 W51 e52
 clear hl hfr hb
 obtain ⟨⟨hl, hfr, hb⟩, z_⟩ := e52.g
 obtain ⟨s0, s1⟩ := V.e2 e52 s0 s1
 have s4 := V.es e52 0 4 rfl
 clear e52 z_
 refine V.t_done rfl (V.nx (V.seq ?_))
 refine V.reg 11 [V.E (.int .i64 a), V.E (.bool (decide (0 ≤ a))), V.E (.bool (decide (0 ≤ a))), (V.Gd (decide (0 ≤ a)) (V.E (.int .i64 a))), (V.Gd (decide (0 ≤ a)) (V.E (.bool (decide (a ≤ 1099511627776))))), V.E (.bool ((decide (0 ≤ a)) && (decide (a ≤ 1099511627776)))), V.E (.bool ((decide (0 ≤ a)) && (decide (a ≤ 1099511627776)))), (V.Gd ((decide (0 ≤ a)) && (decide (a ≤ 1099511627776))) (V.E (.slice A l.length c))), (V.Gd ((decide (0 ≤ a)) && (decide (a ≤ 1099511627776))) (V.E (.bool (validL l)))), V.E (.bool (((decide (0 ≤ a)) && (decide (a ≤ 1099511627776))) && (validL l))), V.E (.bool (((decide (0 ≤ a)) && (decide (a ≤ 1099511627776))) && (validL l)))] [] (V.i hl (V.i hfr hb)) ?_ ?_
 ·refine V.b8 ?_ ?_ ?_ ?_ ?_ ?_ ?_ ?_ (V.a3 ?_ ?_ ?_)
  ·exact V.mo rfl 0 s0
  ·exact V.z1 rfl fun h => V.xb (V.ed h 0 5 rfl) rfl
  ·exact V.me rfl 1 6 rfl
  ·exact V.gt 2 7 rfl rfl fun hp f W h => V.v1 (V.xm (V.eo h 0 s0))
  ·exact V.gt 2 7 rfl rfl fun hp f W h => V.v1 (V.xb (V.eg h 3 8 rfl hp) rfl)
  ·refine V.s1 rfl fun f W h => ?_
   have d9 := V.dp h 4 9 (by kernel_rfl) rfl
   exact V.x_and (V.ed h 2 7 rfl) (fun e => V.ev_tmp rfl (V.gd_on d9 e)) rfl
  ·exact V.me rfl 5 10 rfl
  ·exact V.gt 6 11 rfl rfl fun hp f W h => V.v1 (V.xm (V.eo h 1 s1))
  ·refine V.gt 6 11 rfl rfl fun hp f W h => ?_
   refine V.call en30 (V.args1 (V.eg h 7 12 rfl hp)) (Calls.mono (Valid_s h.g.1.1 h.g.1.2.1) ?_)
   rintro e W' ⟨rfl, hb⟩
   exact ⟨_, rfl, rfl, hb⟩
  ·refine V.s1 rfl fun f W h => ?_
   have d13 := V.dp h 8 13 (by kernel_rfl) rfl
   exact V.x_and (V.ed h 6 11 rfl) (fun e => V.ev_tmp rfl (V.gd_on d13 e)) rfl
  ·exact V.se rfl 9 14 rfl
 intro f53 W54 e55
 clear hl hfr hb
 obtain ⟨⟨hl, hfr, hb⟩, z_⟩ := e55.g
 obtain ⟨s0, s1⟩ := V.e2 e55 s0 s1
 have s4 := V.es e55 10 4 rfl
 clear e55 z_
 refine V.t_done rfl (V.nx (V.ret ?_))
 refine V.leave_any (.inl rfl) (V.res_tmp rfl rfl s4) ?_
 exact ⟨rfl, hb⟩
noncomputable def usableB (a : Int) (l : List Rc) : Bool := ((((decide ((l.length : Int) ≤ 10)) && (decide (0 ≤ a))) && (decide (a ≤ 1099511627776))) && (validL l))
theorem usable_s {a : Int} {A : Option Addr} {c : Nat} {l : List Rc} {w : World} (hl : Ls w 6 A l.length c (l.map Rc.cells)) (hfr : ∀ x ∈ l, Rc.ok w x) :
    Calls Tryz.prog 12 #[.int .i64 a, .slice A l.length c] w fun e w' => e = .returned (.bool (usableB a l)) ∧ Below w.heap.size w w' := by
 refine V.nt Tryz.func12 rfl rfl fun f0 hf => ?_
 have s0 : f0 0 = .int .i64 a := hf 0 (by simp)
 have s1 : f0 1 = .slice A l.length c := hf 1 (by simp)
 clear hf
 have hb := Below.refl w.heap.size w
 refine V.seq ?_
 refine V.reg 1 [V.E (.bool false)] [] (V.i hl (V.i hfr hb)) ?_ ?_
 ·refine V.ac ?_ V.an
  ·exact V.z1 rfl fun h => V.xs rfl
 intro f56 W57 e58
 clear hl hfr hb
 obtain ⟨⟨hl, hfr, hb⟩, z_⟩ := e58.g
 obtain ⟨s0, s1⟩ := V.e2 e58 s0 s1
 have s4 := V.es e58 0 4 rfl
 clear e58 z_
 refine V.t_done rfl (V.nx (V.seq ?_))
 refine V.reg 16 [V.E (.slice A l.length c), V.E (.int .i64 (l.length : Int)), V.E (.bool (decide ((l.length : Int) ≤ 10))), V.E (.bool (decide ((l.length : Int) ≤ 10))), (V.Gd (decide ((l.length : Int) ≤ 10)) (V.E (.int .i64 a))), (V.Gd (decide ((l.length : Int) ≤ 10)) (V.E (.bool (decide (0 ≤ a))))), V.E (.bool ((decide ((l.length : Int) ≤ 10)) && (decide (0 ≤ a)))), V.E (.bool ((decide ((l.length : Int) ≤ 10)) && (decide (0 ≤ a)))), (V.Gd ((decide ((l.length : Int) ≤ 10)) && (decide (0 ≤ a))) (V.E (.int .i64 a))), (V.Gd ((decide ((l.length : Int) ≤ 10)) && (decide (0 ≤ a))) (V.E (.bool (decide (a ≤ 1099511627776))))), V.E (.bool (((decide ((l.length : Int) ≤ 10)) && (decide (0 ≤ a))) && (decide (a ≤ 1099511627776)))), V.E (.bool (((decide ((l.length : Int) ≤ 10)) && (decide (0 ≤ a))) && (decide (a ≤ 1099511627776)))), (V.Gd (((decide ((l.length : Int) ≤ 10)) && (decide (0 ≤ a))) && (decide (a ≤ 1099511627776))) (V.E (.slice A l.length c))), (V.Gd (((decide ((l.length : Int) ≤ 10)) && (decide (0 ≤ a))) && (decide (a ≤ 1099511627776))) (V.E (.bool (validL l)))), V.E (.bool ((((decide ((l.length : Int) ≤ 10)) && (decide (0 ≤ a))) && (decide (a ≤ 1099511627776))) && (validL l))), V.E (.bool ((((decide ((l.length : Int) ≤ 10)) && (decide (0 ≤ a))) && (decide (a ≤ 1099511627776))) && (validL l)))] [] (V.i hl (V.i hfr hb)) ?_ ?_
 ·refine V.b8 ?_ ?_ ?_ ?_ ?_ ?_ ?_ ?_ (V.a8 ?_ ?_ ?_ ?_ ?_ ?_ ?_ ?_)
  ·exact V.mo rfl 1 s1
  ·exact V.z1 rfl fun h => V.x_len (V.ed h 0 5 rfl)
  ·exact V.z1 rfl fun h => V.xb (V.ed h 1 6 rfl) rfl
  ·exact V.me rfl 2 7 rfl
  ·exact V.gt 3 8 rfl rfl fun hp f W h => V.v1 (V.xm (V.eo h 0 s0))
  ·exact V.gt 3 8 rfl rfl fun hp f W h => V.v1 (V.xb (V.eg h 4 9 rfl hp) rfl)
  ·refine V.s1 rfl fun f W h => ?_
   have d10 := V.dp h 5 10 (by kernel_rfl) rfl
   exact V.x_and (V.ed h 3 8 rfl) (fun e => V.ev_tmp rfl (V.gd_on d10 e)) rfl
  ·exact V.me rfl 6 11 rfl
  ·exact V.gt 7 12 rfl rfl fun hp f W h => V.v1 (V.xm (V.eo h 0 s0))
  ·exact V.gt 7 12 rfl rfl fun hp f W h => V.v1 (V.xb (V.eg h 8 13 rfl hp) rfl)
  ·refine V.s1 rfl fun f W h => ?_
   have d14 := V.dp h 9 14 (by kernel_rfl) rfl
   exact V.x_and (V.ed h 7 12 rfl) (fun e => V.ev_tmp rfl (V.gd_on d14 e)) rfl
  ·exact V.me rfl 10 15 rfl
  ·exact V.gt 11 16 rfl rfl fun hp f W h => V.v1 (V.xm (V.eo h 1 s1))
  ·refine V.gt 11 16 rfl rfl fun hp f W h => ?_
   refine V.call en30 (V.args1 (V.eg h 12 17 rfl hp)) (Calls.mono (Valid_s h.g.1.1 h.g.1.2.1) ?_)
   rintro e W' ⟨rfl, hb⟩
   exact ⟨_, rfl, rfl, hb⟩
  ·refine V.s1 rfl fun f W h => ?_
   have d18 := V.dp h 13 18 (by kernel_rfl) rfl
   exact V.x_and (V.ed h 11 16 rfl) (fun e => V.ev_tmp rfl (V.gd_on d18 e)) rfl
  ·exact V.se rfl 14 19 rfl
 intro f59 W60 e61
 clear hl hfr hb
 obtain ⟨⟨hl, hfr, hb⟩, z_⟩ := e61.g
 obtain ⟨s0, s1⟩ := V.e2 e61 s0 s1
 have s4 := V.es e61 15 4 rfl
 clear e61 z_
 refine V.t_done rfl (V.nx (V.ret ?_))
 refine V.leave_any (.inl rfl) (V.res_tmp rfl rfl s4) ?_
 exact ⟨rfl, hb⟩
end Go.Proofs.YtjbcalbbhomkjaaGreat
