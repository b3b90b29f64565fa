/- Naturals as lists of limbs of 32 bits, the lowest first: plain Lean, no program in sight. -/
namespace Go.Proofs.YtekcpapkicmckaaGreatDoor

/-- an element of a list, nought behind its end -/
def nth (xs : List Nat) (j : Nat) : Nat := xs.getD j 0

/-- the natural that limbs say -/
def val : List Nat → Nat
  | [] => 0
  | x :: r => x + 4294967296 * val r

/-- every limb is one -/
def Lim (xs : List Nat) : Prop := ∀ x, x ∈ xs → x < 4294967296

/-- the length without the highest noughts -/
def topOf : List Nat → Nat → Nat
  | _, 0 => 0
  | xs, n + 1 => if nth xs n = 0 then topOf xs n else n + 1

/-- the limbs of a natural, no needless ones -/
def limbs (n : Nat) : List Nat := if h : n = 0 then [] else (n % 4294967296) :: limbs (n / 4294967296)
termination_by n
decreasing_by exact Nat.div_lt_self (by omega) (by omega)

theorem nth_lt {xs : List Nat} (h : Lim xs) (j : Nat) : nth xs j < 4294967296 := by
  unfold nth
  rw [List.getD_eq_getElem?_getD]
  cases hj : xs[j]? with
  | none => simp
  | some x => simpa using h x (List.mem_of_getElem? hj)

theorem nth_cons_zero (x : Nat) (r : List Nat) : nth (x :: r) 0 = x := rfl
theorem nth_cons_succ (x : Nat) (r : List Nat) (j : Nat) : nth (x :: r) (j + 1) = nth r j := rfl
theorem nth_nil (j : Nat) : nth [] j = 0 := by simp [nth]
theorem nth_over {xs : List Nat} {j : Nat} (h : xs.length ≤ j) : nth xs j = 0 := by
  unfold nth; rw [List.getD_eq_getElem?_getD, List.getElem?_eq_none h]; rfl
theorem nth_set_eq {xs : List Nat} {j : Nat} (h : j < xs.length) (x : Nat) : nth (xs.set j x) j = x := by
  unfold nth; rw [List.getD_eq_getElem?_getD, List.getElem?_set_self h]; rfl
theorem nth_set_ne {xs : List Nat} {j k : Nat} (h : j ≠ k) (x : Nat) : nth (xs.set j x) k = nth xs k := by
  unfold nth; rw [List.getD_eq_getElem?_getD, List.getD_eq_getElem?_getD, List.getElem?_set_ne h]
theorem Lim.nil : Lim [] := fun _ h => by cases h
theorem Lim.cons {x : Nat} {r : List Nat} (hx : x < 4294967296) (h : Lim r) : Lim (x :: r) := by
  intro y hy
  rcases List.mem_cons.1 hy with rfl | hy
  · exact hx
  · exact h y hy
theorem Lim.append {xs ys : List Nat} (h : Lim xs) (k : Lim ys) : Lim (xs ++ ys) := by
  intro y hy
  rcases List.mem_append.1 hy with hy | hy
  · exact h y hy
  · exact k y hy
theorem Lim.snoc {xs : List Nat} {x : Nat} (h : Lim xs) (hx : x < 4294967296) : Lim (xs ++ [x]) := h.append (Lim.cons hx Lim.nil)
theorem Lim.take {xs : List Nat} (h : Lim xs) (k : Nat) : Lim (xs.take k) := fun y hy => h y (List.mem_of_mem_take hy)
theorem Lim.drop {xs : List Nat} (h : Lim xs) (k : Nat) : Lim (xs.drop k) := fun y hy => h y (List.mem_of_mem_drop hy)
theorem Lim.set {xs : List Nat} (h : Lim xs) (k : Nat) {x : Nat} (hx : x < 4294967296) : Lim (xs.set k x) := by
  intro y hy
  rcases List.mem_or_eq_of_mem_set hy with hy | rfl
  · exact h y hy
  · exact hx
theorem Lim.replicate (n : Nat) : Lim (List.replicate n 0) := by
  intro y hy
  have := List.eq_of_mem_replicate hy
  omega
/-! ### the value -/
theorem val_append (xs ys : List Nat) : val (xs ++ ys) = val xs + 4294967296 ^ xs.length * val ys := by
  induction xs with
  | nil => simp [val]
  | cons x r ih =>
    simp only [List.cons_append, val, List.length_cons, ih, Nat.pow_succ]
    rw [Nat.mul_add, ← Nat.mul_assoc, Nat.mul_comm 4294967296 (4294967296 ^ r.length)]
    omega
theorem val_snoc (xs : List Nat) (x : Nat) : val (xs ++ [x]) = val xs + 4294967296 ^ xs.length * x := by
  rw [val_append]; simp [val]
theorem take_succ_nth {xs : List Nat} {k : Nat} (h : k < xs.length) : xs.take (k + 1) = xs.take k ++ [nth xs k] := by
  rw [List.take_succ_eq_append_getElem h]
  congr 2
  unfold nth
  rw [List.getD_eq_getElem?_getD, List.getElem?_eq_getElem h]; rfl
theorem val_take_succ {xs : List Nat} {k : Nat} (h : k < xs.length) : val (xs.take (k + 1)) = val (xs.take k) + 4294967296 ^ k * nth xs k := by
  rw [take_succ_nth h, val_snoc, List.length_take, Nat.min_eq_left (by omega)]
theorem val_take_over {xs : List Nat} {k : Nat} (h : xs.length ≤ k) : val (xs.take k) = val xs := by rw [List.take_of_length_le h]
theorem val_take_succ' (xs : List Nat) (k : Nat) : val (xs.take (k + 1)) = val (xs.take k) + 4294967296 ^ k * nth xs k := by
  by_cases h : k < xs.length
  · exact val_take_succ h
  · rw [val_take_over (by omega), val_take_over (by omega), nth_over (by omega)]; simp
theorem val_lt {xs : List Nat} (h : Lim xs) : val xs < 4294967296 ^ xs.length := by
  induction xs with
  | nil => simp [val]
  | cons x r ih =>
    have hx := h x (List.mem_cons_self ..)
    have hr := ih (fun y hy => h y (List.mem_cons_of_mem _ hy))
    simp only [val, List.length_cons, Nat.pow_succ]
    omega
theorem val_cons (x : Nat) (r : List Nat) : val (x :: r) = x + 4294967296 * val r := rfl
theorem val_zero_nth {xs : List Nat} (h : val xs = 0) : ∀ j, nth xs j = 0 := by
  induction xs with
  | nil => intro j; exact nth_nil j
  | cons x r ih =>
    simp only [val] at h
    intro j
    cases j with
    | zero => rw [nth_cons_zero]; omega
    | succ j => rw [nth_cons_succ]; exact ih (by omega) j
/-! ### the top -/
theorem topOf_le (xs : List Nat) (n : Nat) : topOf xs n ≤ n := by
  induction n with
  | zero => simp [topOf]
  | succ n ih => unfold topOf; split <;> omega
theorem topOf_nonzero {xs : List Nat} {n : Nat} (h : 0 < topOf xs n) : nth xs (topOf xs n - 1) ≠ 0 := by
  induction n with
  | zero => simp [topOf] at h
  | succ n ih =>
    unfold topOf at h ⊢
    by_cases e : nth xs n = 0
    · rw [if_pos e] at h ⊢; exact ih h
    · rw [if_neg e]; simpa using e
theorem val_topOf (xs : List Nat) (n : Nat) : val (xs.take (topOf xs n)) = val (xs.take n) := by
  induction n with
  | zero => simp [topOf]
  | succ n ih =>
    unfold topOf
    by_cases h : nth xs n = 0
    · rw [if_pos h, ih, val_take_succ', h]; simp
    · rw [if_neg h]

/-! ### limbs -/
theorem limbs_zero : limbs 0 = [] := by rw [limbs]; simp
theorem limbs_pos {n : Nat} (h : n ≠ 0) : limbs n = (n % 4294967296) :: limbs (n / 4294967296) := by rw [limbs]; simp [h]
theorem limbs_lim (n : Nat) : Lim (limbs n) := by
  induction n using Nat.strongRecOn with
  | ind n ih =>
    by_cases h : n = 0
    · subst h; rw [limbs_zero]; exact Lim.nil
    · rw [limbs_pos h]; exact Lim.cons (Nat.mod_lt _ (by omega)) (ih _ (Nat.div_lt_self (by omega) (by omega)))
theorem val_limbs (n : Nat) : val (limbs n) = n := by
  induction n using Nat.strongRecOn with
  | ind n ih =>
    by_cases h : n = 0
    · subst h; rw [limbs_zero]; rfl
    · rw [limbs_pos h, val, ih _ (Nat.div_lt_self (by omega) (by omega))]; omega
theorem limbs_val_top : ∀ (xs : List Nat), Lim xs → limbs (val xs) = xs.take (topOf xs xs.length) := by
  intro xs
  induction xs with
  | nil => intro _; simp [val, limbs_zero, topOf]
  | cons x r ih =>
    intro h
    have hx := h x (List.mem_cons_self ..)
    have hr : Lim r := fun y hy => h y (List.mem_cons_of_mem _ hy)
    have key : ∀ n, topOf (x :: r) (n + 1) = if topOf r n = 0 then (if x = 0 then 0 else 1) else topOf r n + 1 := by
      intro n
      induction n with
      | zero => simp only [topOf, nth_cons_zero]; rfl
      | succ n ih2 =>
        rw [topOf, nth_cons_succ]
        by_cases e : nth r n = 0
        · rw [if_pos e, ih2]; simp only [topOf, if_pos e]
        · rw [if_neg e]; simp only [topOf, if_neg e]; simp
    rw [List.length_cons, key]
    by_cases e : topOf r r.length = 0
    · rw [if_pos e]
      have hv : val r = 0 := by
        have := val_topOf r r.length
        rw [e, List.take_of_length_le (Nat.le_refl _)] at this
        simpa [val] using this.symm
      by_cases hx0 : x = 0
      · rw [if_pos hx0]; simp [val, hv, hx0, limbs_zero]
      · rw [if_neg hx0]
        have hne : val (x :: r) ≠ 0 := by rw [val]; omega
        rw [limbs_pos hne]
        simp only [val, hv, Nat.mul_zero, Nat.add_zero, Nat.mod_eq_of_lt hx, Nat.div_eq_of_lt hx, limbs_zero, List.take_succ_cons, List.take_zero]
    · rw [if_neg e]
      have hv : val r ≠ 0 := by
        intro h0
        have h1 := val_zero_nth h0
        exact topOf_nonzero (xs := r) (n := r.length) (by omega) (h1 _)
      have hne : val (x :: r) ≠ 0 := by rw [val]; omega
      rw [limbs_pos hne, List.take_succ_cons]
      have e1 : val (x :: r) % 4294967296 = x := by rw [val]; omega
      have e2 : val (x :: r) / 4294967296 = val r := by rw [val]; omega
      rw [e1, e2, ih hr]
theorem limbs_length_le {n k : Nat} (h : n < 4294967296 ^ k) : (limbs n).length ≤ k := by
  induction k generalizing n with
  | zero => have : n = 0 := by simpa using h
            subst this; simp [limbs_zero]
  | succ k ih =>
    by_cases e : n = 0
    · subst e; simp [limbs_zero]
    · rw [limbs_pos e, List.length_cons]
      have : n / 4294967296 < 4294967296 ^ k := by
        rw [Nat.pow_succ] at h
        exact Nat.div_lt_of_lt_mul (by rw [Nat.mul_comm]; exact h)
      have := ih this
      omega
theorem limbs_lt_pow (n : Nat) : n < 4294967296 ^ (limbs n).length := by
  have := val_lt (limbs_lim n); rwa [val_limbs] at this
theorem limbs_length_zero {n : Nat} : (limbs n).length = 0 ↔ n = 0 := by
  constructor
  · intro h
    have := limbs_lt_pow n
    rw [h] at this
    simpa using this
  · rintro rfl; simp [limbs_zero]
theorem limbs_length_val {xs : List Nat} (h : Lim xs) : (limbs (val xs)).length ≤ xs.length := limbs_length_le (val_lt h)
theorem topOf_limbs {xs : List Nat} (h : Lim xs) : topOf xs xs.length = (limbs (val xs)).length := by
  rw [limbs_val_top xs h, List.length_take]
  have := topOf_le xs xs.length
  omega
theorem limbs_take {xs : List Nat} (h : Lim xs) : limbs (val xs) = xs.take (limbs (val xs)).length := by
  have h1 := limbs_val_top xs h
  rw [topOf_limbs h] at h1
  exact h1
end Go.Proofs.YtekcpapkicmckaaGreatDoor
