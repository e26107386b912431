namespace Go.Proofs.YtjbcalbbhomkjaaGreat
namespace Lb
def val : List Nat → Nat
 | [] => 0
 | x :: xs => x + 65536 * val xs
def Ok (xs : List Nat) : Prop := ∀ x ∈ xs, x < 65536
def limbsF : Nat → Nat → List Nat
 | 0, _ => []
 | f + 1, n => if n = 0 then [] else n % 65536 :: limbsF f (n / 65536)
def limbs (n : Nat) : List Nat := limbsF (n.log2 + 1) n
def trim : List Nat → List Nat
 | [] => []
 | x :: xs => match trim xs with
  | [] => if x = 0 then [] else [x]
  | y :: ys => x :: y :: ys
@[simp] theorem val_nil : val [] = 0 := rfl
@[simp] theorem val_cons (x : Nat) (xs : List Nat) : val (x :: xs) = x + 65536 * val xs := rfl
theorem ok_nil : Ok [] := by intro x h; cases h
theorem ok_cons {x : Nat} {xs : List Nat} : Ok (x :: xs) ↔ x < 65536 ∧ Ok xs := by
 unfold Ok; simp
theorem ok_append {xs ys : List Nat} : Ok (xs ++ ys) ↔ Ok xs ∧ Ok ys := by
 unfold Ok; simp only [List.mem_append]
 exact ⟨fun h => ⟨fun x hx => h x (.inl hx), fun x hx => h x (.inr hx)⟩, fun h x hx => hx.elim (h.1 x) (h.2 x)⟩
theorem limbsF_eq (f : Nat) : ∀ n, n < 65536 ^ f → val (limbsF f n) = n ∧ Ok (limbsF f n) := by
 induction f with
 | zero => intro n h; simp at h; subst h; exact ⟨rfl, ok_nil⟩
 | succ f ih =>
  intro n h
  unfold limbsF
  by_cases h0 : n = 0
  ·rw [if_pos h0]; exact ⟨h0.symm, ok_nil⟩
  ·rw [if_neg h0]
   have h1 : n / 65536 < 65536 ^ f := by
    rw [Nat.div_lt_iff_lt_mul (by omega), ← Nat.pow_succ]; exact h
   obtain ⟨h2, h3⟩ := ih _ h1
   refine ⟨?_, ok_cons.2 ⟨Nat.mod_lt _ (by omega), h3⟩⟩
   rw [val_cons, h2]; omega
theorem lt_pow_log2 (n : Nat) : n < 65536 ^ (n.log2 + 1) := by
 have h1 : n < 2 ^ (n.log2 + 1) := Nat.lt_log2_self
 have h2 : (2 : Nat) ^ (n.log2 + 1) ≤ 65536 ^ (n.log2 + 1) := Nat.pow_le_pow_left (by omega) _
 omega
@[simp] theorem val_limbs (n : Nat) : val (limbs n) = n := (limbsF_eq _ n (lt_pow_log2 n)).1
theorem ok_limbs (n : Nat) : Ok (limbs n) := (limbsF_eq _ n (lt_pow_log2 n)).2
theorem limbsF_same (f : Nat) : ∀ g n, n < 65536 ^ f → n < 65536 ^ g → limbsF f n = limbsF g n := by
 induction f with
 | zero =>
  intro g n h _
  simp at h; subst h
  cases g <;> simp [limbsF]
 | succ f ih =>
  intro g n h hg
  cases g with
  | zero => simp at hg; subst hg; simp [limbsF]
  | succ g =>
   unfold limbsF
   by_cases h0 : n = 0
   ·simp [h0]
   ·rw [if_neg h0, if_neg h0, ih g]
    ·rw [Nat.div_lt_iff_lt_mul (by omega), ← Nat.pow_succ]; exact h
    ·rw [Nat.div_lt_iff_lt_mul (by omega), ← Nat.pow_succ]; exact hg
@[simp] theorem limbs_zero : limbs 0 = [] := rfl
theorem limbs_cons (x n : Nat) (hx : x < 65536) (h : x + 65536 * n ≠ 0) : limbs (x + 65536 * n) = x :: limbs n := by
 have h1 := lt_pow_log2 (x + 65536 * n)
 have h2 : x + 65536 * n < 65536 ^ (n.log2 + 1 + 1) := by
  have := lt_pow_log2 n
  rw [Nat.pow_succ]; omega
 unfold limbs
 rw [limbsF_same _ _ _ h1 h2]
 rw [show limbsF (n.log2 + 1 + 1) (x + 65536 * n) = if x + 65536 * n = 0 then [] else (x + 65536 * n) % 65536 :: limbsF (n.log2 + 1) ((x + 65536 * n) / 65536) from rfl]
 rw [if_neg h, show (x + 65536 * n) % 65536 = x from by omega, show (x + 65536 * n) / 65536 = n from by omega]
theorem limbs_eq_nil {n : Nat} : limbs n = [] ↔ n = 0 := by
 constructor
 ·intro h; have := val_limbs n; rw [h] at this; exact this.symm
 ·rintro rfl; rfl
theorem trim_limbs : ∀ xs, Ok xs → trim xs = limbs (val xs) := by
 intro xs
 induction xs with
 | nil => intro _; rfl
 | cons x xs ih =>
  intro h
  obtain ⟨hx, hxs⟩ := ok_cons.1 h
  have ih := ih hxs
  rw [val_cons]
  by_cases h0 : val xs = 0
  ·rw [h0] at ih ⊢
   simp only [trim, ih, limbs_zero]
   by_cases hx0 : x = 0
   ·simp [hx0]
   ·have := limbs_cons x 0 hx (by omega)
    simp [hx0] at this ⊢; exact this.symm
  ·have h1 := limbs_cons x (val xs) hx (by omega)
   rw [h1]
   simp only [trim, ih]
   split
   ·rename_i h2; exact absurd (limbs_eq_nil.1 h2) h0
   ·rename_i h2; rw [h2]
def Norm (xs : List Nat) : Prop := trim xs = xs
theorem norm_limbs (n : Nat) : Norm (limbs n) := by
 unfold Norm; rw [trim_limbs _ (ok_limbs n), val_limbs]
theorem eq_limbs {xs : List Nat} (h : Ok xs) (hn : Norm xs) : xs = limbs (val xs) := by
 rw [← trim_limbs xs h]; exact hn.symm
theorem limbs_inj {a b : Nat} (h : limbs a = limbs b) : a = b := by
 rw [← val_limbs a, ← val_limbs b, h]
theorem norm_iff : ∀ xs : List Nat, Norm xs ↔ (xs = [] ∨ xs[xs.length - 1]?.getD 0 ≠ 0) := by
 intro xs
 unfold Norm
 induction xs with
 | nil => simp [trim]
 | cons x xs ih =>
  cases xs with
  | nil => by_cases hx : x = 0 <;> simp [trim, hx]
  | cons y ys =>
   have e : (x :: y :: ys)[(x :: y :: ys).length - 1]?.getD 0 = (y :: ys)[(y :: ys).length - 1]?.getD 0 := by simp
   rw [e]
   simp only [reduceCtorEq, false_or] at ih ⊢
   rw [← ih]
   conv => lhs; unfold trim
   split
   ·rename_i h; rw [h]
    by_cases hx : x = 0 <;> simp [hx]
   ·rename_i h; rw [h]; simp
theorem val_append (xs ys : List Nat) : val (xs ++ ys) = val xs + 65536 ^ xs.length * val ys := by
 induction xs with
 | nil => simp
 | cons x xs ih =>
  simp only [List.cons_append, val_cons, ih, List.length_cons, Nat.pow_succ]
  grind
theorem val_lt {xs : List Nat} (h : Ok xs) : val xs < 65536 ^ xs.length := by
 induction xs with
 | nil => simp
 | cons x xs ih =>
  obtain ⟨hx, hxs⟩ := ok_cons.1 h
  have := ih hxs
  simp only [val_cons, List.length_cons, Nat.pow_succ]; omega
theorem limbs_length_le {n k : Nat} : (limbs n).length ≤ k ↔ n < 65536 ^ k := by
 constructor
 ·intro h
  have h1 := val_lt (ok_limbs n)
  rw [val_limbs] at h1
  exact Nat.lt_of_lt_of_le h1 (Nat.pow_le_pow_right (by omega) h)
 ·induction k generalizing n with
  | zero => intro h; simp at h; subst h; simp
  | succ k ih =>
   intro h
   by_cases h0 : n = 0
   ·subst h0; simp
   ·have e : n = n % 65536 + 65536 * (n / 65536) := by omega
    rw [e, limbs_cons _ _ (by omega) (by omega), List.length_cons]
    have := @ih (n / 65536) (by rw [Nat.div_lt_iff_lt_mul (by omega), ← Nat.pow_succ]; exact h)
    omega
theorem le_of_limbs_length {n : Nat} (h : n ≠ 0) : 65536 ^ ((limbs n).length - 1) ≤ n := by
 rcases Nat.lt_or_ge n (65536 ^ ((limbs n).length - 1)) with h1 | h1
 ·have h2 := limbs_length_le.2 h1
  have h3 : (limbs n).length ≠ 0 := by
   intro h4; exact h (limbs_eq_nil.1 (List.eq_nil_of_length_eq_zero h4))
  omega
 ·exact h1
theorem limbs_length_mono {a b : Nat} (h : a ≤ b) : (limbs a).length ≤ (limbs b).length :=
 limbs_length_le.2 (Nat.lt_of_le_of_lt h (limbs_length_le.1 (Nat.le_refl _)))
theorem trim_length_le (xs : List Nat) : (trim xs).length ≤ xs.length := by
 induction xs with
 | nil => simp [trim]
 | cons x xs ih =>
  simp only [trim]
  split
  ·split <;> simp
  ·rename_i h; rw [h] at ih; simp at ih ⊢; omega
theorem trim_prefix (xs : List Nat) : trim xs = xs.take (trim xs).length := by
 induction xs with
 | nil => simp [trim]
 | cons x xs ih =>
  simp only [trim]
  split
  ·split <;> simp
  ·rename_i h; rw [h] at ih; simp only [List.length_cons, List.take_succ_cons, List.cons.injEq, true_and] at ih ⊢
   exact ih
theorem trim_snoc_zero (xs : List Nat) : trim (xs ++ [0]) = trim xs := by
 induction xs with
 | nil => simp [trim]
 | cons x xs ih => simp only [List.cons_append, trim, ih]
theorem norm_snoc {xs : List Nat} {x : Nat} (hx : x ≠ 0) : Norm (xs ++ [x]) := by
 rw [norm_iff]; right; simpa using hx
theorem take_succ_getD (xs : List Nat) (k : Nat) (h : k < xs.length) : xs.take (k + 1) = xs.take k ++ [xs[k]?.getD 0] := by
 rw [List.take_succ_eq_append_getElem h]
 simp [h]
theorem ok_take {xs : List Nat} (h : Ok xs) (k : Nat) : Ok (xs.take k) := fun x hx => h x (List.mem_of_mem_take hx)
theorem ok_drop {xs : List Nat} (h : Ok xs) (k : Nat) : Ok (xs.drop k) := fun x hx => h x (List.mem_of_mem_drop hx)
theorem getD_lt {xs : List Nat} (h : Ok xs) (k : Nat) : xs[k]?.getD 0 < 65536 := by
 by_cases hk : k < xs.length
 ·rw [List.getElem?_eq_getElem hk]; exact h _ (List.getElem_mem hk)
 ·rw [List.getElem?_eq_none (by omega)]; decide
theorem val_take_succ (xs : List Nat) (k : Nat) : val (xs.take (k + 1)) = val (xs.take k) + 65536 ^ k * xs[k]?.getD 0 := by
 by_cases hk : k < xs.length
 ·rw [take_succ_getD xs k hk, val_append]
  simp [Nat.min_eq_left (Nat.le_of_lt hk)]
 ·rw [List.take_of_length_le (by omega), List.take_of_length_le (by omega), List.getElem?_eq_none (by omega)]; simp
theorem val_drop (xs : List Nat) (k : Nat) : val (xs.drop k) = xs[k]?.getD 0 + 65536 * val (xs.drop (k + 1)) := by
 by_cases hk : k < xs.length
 ·rw [List.drop_eq_getElem_cons hk, val_cons, List.getElem?_eq_getElem hk]; rfl
 ·rw [List.drop_eq_nil_of_le (by omega), List.drop_eq_nil_of_le (by omega), List.getElem?_eq_none (by omega)]; simp
theorem val_take_drop (xs : List Nat) (k : Nat) (h : k ≤ xs.length) : val xs = val (xs.take k) + 65536 ^ k * val (xs.drop k) := by
 conv => lhs; rw [← List.take_append_drop k xs]
 rw [val_append, List.length_take, Nat.min_eq_left h]
theorem ok_snoc {xs : List Nat} {x : Nat} (h : Ok xs) (hx : x < 65536) : Ok (xs ++ [x]) :=
 ok_append.2 ⟨h, fun y hy => by simp at hy; omega⟩
theorem val_snoc (xs : List Nat) (x : Nat) : val (xs ++ [x]) = val xs + 65536 ^ xs.length * x := by
 rw [val_append]; simp
theorem ok_replicate (n : Nat) : Ok (List.replicate n 0) := fun x hx => by
 have := (List.mem_replicate.1 hx).2; omega
theorem val_replicate (n : Nat) : val (List.replicate n 0) = 0 := by
 induction n with
 | zero => rfl
 | succ n ih => simp [List.replicate_succ, ih]
theorem ok_set {xs : List Nat} (h : Ok xs) (k x : Nat) (hx : x < 65536) : Ok (xs.set k x) := fun y hy => by
 rcases List.mem_or_eq_of_mem_set hy with h1 | h1
 ·exact h y h1
 ·omega
theorem val_set {xs : List Nat} {k x : Nat} (hk : k < xs.length) : val (xs.set k x) + 65536 ^ k * xs[k]?.getD 0 = val xs + 65536 ^ k * x := by
 induction xs generalizing k with
 | nil => simp at hk
 | cons y ys ih =>
  cases k with
  | zero => simp; omega
  | succ k =>
   simp only [List.length_cons] at hk
   have := @ih k (by omega)
   simp only [List.set_cons_succ, val_cons, List.getElem?_cons_succ, Nat.pow_succ]
   grind
theorem limbs_top_ne {n : Nat} (h : n ≠ 0) : (limbs n)[(limbs n).length - 1]?.getD 0 ≠ 0 := by
 rcases (norm_iff (limbs n)).1 (norm_limbs n) with h1 | h1
 ·exact absurd (limbs_eq_nil.1 h1) h
 ·exact h1
theorem eq_limbs_of_top {xs : List Nat} (h : Ok xs) (ht : xs = [] ∨ 65536 ^ (xs.length - 1) ≤ val xs) : xs = limbs (val xs) := by
 rcases ht with rfl | ht
 ·rfl
 ·have h1 := trim_limbs xs h
  have h2 := trim_length_le xs
  have h3 : xs.length ≤ (trim xs).length := by
   rw [h1]
   rcases Nat.lt_or_ge (limbs (val xs)).length xs.length with h4 | h4
   ·have h5 := limbs_length_le.1 (show (limbs (val xs)).length ≤ xs.length - 1 by omega)
    omega
   ·exact h4
  have h4 := trim_prefix xs
  rw [List.take_of_length_le h3] at h4
  rw [← h1]; exact h4.symm
theorem val_split (xs : List Nat) (j : Nat) (hj : j < xs.length) : val xs = val (xs.take j) + 65536 ^ j * (xs[j]?.getD 0 + 65536 * val (xs.drop (j + 1))) := by
 rw [val_take_drop xs j (by omega), val_drop xs j]
end Lb
end Go.Proofs.YtjbcalbbhomkjaaGreat
