/- The long division, on lists of limbs: the estimate, what is taken off, what is put back. Plain Lean. -/
import Derived.Test.YtbcpfdeklglknaaGreatDoorNat
namespace Go.Proofs.YtbcpfdeklglknaaGreatDoor

/-- so many limbs from a place on, as a natural -/
def win (U : List Nat) (j k : Nat) : Nat := val ((U.drop j).take k)

theorem win_zero (U : List Nat) (j : Nat) : win U j 0 = 0 := by simp [win, val]
theorem win_succ (U : List Nat) (j k : Nat) : win U j (k + 1) = win U j k + 4294967296 ^ k * nth U (j + k) := by
  unfold win; rw [val_take_succ', nth_drop]
theorem win_lt {U : List Nat} (h : Lim U) (j k : Nat) : win U j k < 4294967296 ^ k := val_take_lt (h.drop j) k
theorem win_congr {U U' : List Nat} {j k : Nat} (h : ∀ i, i < k → nth U (j + i) = nth U' (j + i)) : win U j k = win U' j k := by
  induction k with
  | zero => rw [win_zero, win_zero]
  | succ k ih => rw [win_succ, win_succ, ih (fun i hi => h i (by omega)), h k (by omega)]
theorem win_over {U : List Nat} {j k : Nat} (h : U.length ≤ j + k) : win U j k = val (U.drop j) := by
  unfold win; rw [List.take_of_length_le (by rw [List.length_drop]; omega)]
theorem win_add (U : List Nat) (j k l : Nat) : win U j (k + l) = win U j k + 4294967296 ^ k * win U (j + k) l := by
  induction l with
  | zero => rw [win_zero]; simp
  | succ l ih =>
    rw [← Nat.add_assoc, win_succ, ih, win_succ, Nat.mul_add, ← Nat.mul_assoc, ← Nat.pow_add, Nat.add_assoc, Nat.add_assoc j k l]
theorem win_full (U : List Nat) : win U 0 U.length = val U := by unfold win; simp
theorem win_one (U : List Nat) (j : Nat) : win U j 1 = nth U j := by rw [win_succ, win_zero]; simp
theorem win_val_take (V : List Nat) (k : Nat) : win V 0 k = val (V.take k) := by unfold win; simp

/-- the estimate: the quotient of the two highest limbs by the divisor's highest one, made smaller while it is seen to be too great -/
structure Est (W V head u2 top next P : Nat) (g r : Nat) : Prop where
  eq : g * top + r = head
  ge : W / V ≤ g

section
variable {W V top next v' P head u2 w' : Nat}

theorem est_start (hV : V = top * (4294967296 * P) + next * P + v') (hW : W = head * (4294967296 * P) + u2 * P + w') (hw : w' < P) (hu : u2 < 4294967296) (htop : 0 < top) (hP : 0 < P) :
    Est W V head u2 top next P (head / top) (head % top) := by
  refine ⟨by rw [Nat.mul_comm]; exact Nat.div_add_mod head top, ?_⟩
  have hVpos : 0 < V := by
    have : 0 < top * (4294967296 * P) := Nat.mul_pos htop (by omega)
    omega
  refine Nat.le_of_lt_succ ((Nat.div_lt_iff_lt_mul hVpos).2 ?_)
  have h1 : head < (head / top + 1) * top := by
    have := Nat.div_add_mod head top
    have h2 := Nat.mod_lt head htop
    rw [Nat.add_mul, Nat.one_mul, Nat.mul_comm]
    omega
  have h3 : (head + 1) * (4294967296 * P) ≤ (head / top + 1) * top * (4294967296 * P) := Nat.mul_le_mul_right _ h1
  have h4 : u2 * P + w' < 4294967296 * P := by
    have : (u2 + 1) * P ≤ 4294967296 * P := Nat.mul_le_mul_right _ hu
    rw [Nat.add_mul, Nat.one_mul] at this
    omega
  have h5 : (head / top + 1) * top * (4294967296 * P) ≤ (head / top + 1) * V := by
    rw [Nat.mul_assoc]
    exact Nat.mul_le_mul_left _ (by omega)
  rw [Nat.add_mul, Nat.one_mul] at h3
  rw [Nat.succ_eq_add_one]
  omega

theorem est_step (hV : V = top * (4294967296 * P) + next * P + v') (hW : W = head * (4294967296 * P) + u2 * P + w') (hw : w' < P) (htop : 0 < top) (hP : 0 < P) (hq : W / V < 4294967296)
    {g r : Nat} (h : Est W V head u2 top next P g r) (hc : 4294967296 ≤ g ∨ r * 4294967296 + u2 < g * next) : 0 < g ∧ Est W V head u2 top next P (g - 1) (r + top) := by
  have hVpos : 0 < V := by
    have : 0 < top * (4294967296 * P) := Nat.mul_pos htop (by omega)
    omega
  have hg : 0 < g := by
    rcases hc with hc | hc
    · omega
    · apply Nat.pos_of_ne_zero
      intro e
      subst e
      omega
  obtain ⟨k, rfl⟩ : ∃ k, g = k + 1 := ⟨g - 1, by omega⟩
  refine ⟨hg, ⟨?_, ?_⟩⟩
  · have := h.eq
    rw [Nat.add_mul, Nat.one_mul] at this
    simp only [Nat.add_sub_cancel]
    omega
  · simp only [Nat.add_sub_cancel]
    rcases hc with hc | hc
    · omega
    · refine Nat.le_of_lt_succ ((Nat.div_lt_iff_lt_mul hVpos).2 ?_)
      rw [Nat.succ_eq_add_one]
      have h1 : (k + 1) * V = (k + 1) * top * (4294967296 * P) + (k + 1) * next * P + (k + 1) * v' := by
        rw [hV, Nat.mul_add, Nat.mul_add, ← Nat.mul_assoc, ← Nat.mul_assoc (k + 1) next P]
      have h2 : (r * 4294967296 + u2 + 1) * P ≤ (k + 1) * next * P := Nat.mul_le_mul_right _ hc
      have h3 : head * (4294967296 * P) = (k + 1) * top * (4294967296 * P) + r * (4294967296 * P) := by
        rw [← h.eq, Nat.add_mul]
      rw [Nat.add_mul, Nat.add_mul, Nat.one_mul, Nat.mul_assoc r] at h2
      omega

/-- when the estimate is no longer made smaller, it is the quotient or one more -/
theorem est_end (hV : V = top * (4294967296 * P) + next * P + v') (hW : W = head * (4294967296 * P) + u2 * P + w') (hv : v' < P) (htop : 2147483648 ≤ top) (hP : 0 < P) (hhead : head < top * 4294967296 + 4294967296) (hnext : next < 4294967296)
    {g r : Nat} (h : Est W V head u2 top next P g r) (hc : 4294967296 ≤ r ∨ g < 4294967296 ∧ g * next ≤ r * 4294967296 + u2) : g < 4294967296 ∧ g ≤ W / V + 1 := by
  have hVpos : 0 < V := by
    have : 0 < top * (4294967296 * P) := Nat.mul_pos (by omega) (by omega)
    omega
  have heq := h.eq
  have hg : g < 4294967296 := by
    rcases hc with hc | ⟨hc, _⟩
    · have h1 : g * top < 4294967296 * top := by rw [Nat.mul_comm 4294967296 top]; omega
      exact Nat.lt_of_mul_lt_mul_right h1
    · exact hc
  refine ⟨hg, ?_⟩
  have hgn : g * next ≤ r * 4294967296 + u2 := by
    rcases hc with hc | ⟨_, hc⟩
    · have h1 : g * next ≤ 4294967296 * 4294967296 := Nat.mul_le_mul (by omega) (by omega)
      have h2 : 4294967296 * 4294967296 ≤ r * 4294967296 := Nat.mul_le_mul_right _ hc
      omega
    · exact hc
  rcases Nat.eq_zero_or_pos g with h0 | h0
  · rw [h0]; exact Nat.zero_le _
  · obtain ⟨k, rfl⟩ : ∃ k, g = k + 1 := ⟨g - 1, by omega⟩
    refine Nat.succ_le_succ ((Nat.le_div_iff_mul_le hVpos).2 ?_)
    have h1 : (k + 1) * V = (k + 1) * top * (4294967296 * P) + (k + 1) * next * P + (k + 1) * v' := by
      rw [hV, Nat.mul_add, Nat.mul_add, ← Nat.mul_assoc, ← Nat.mul_assoc (k + 1) next P]
    have h2 : (k + 1) * next * P ≤ (r * 4294967296 + u2) * P := Nat.mul_le_mul_right _ hgn
    have h3 : head * (4294967296 * P) = (k + 1) * top * (4294967296 * P) + r * (4294967296 * P) := by
      rw [← heq, Nat.add_mul]
    have h4 : (k + 1) * v' ≤ 4294967296 * P := Nat.mul_le_mul (by omega) (by omega)
    have h5 : 2147483648 * (4294967296 * P) ≤ top * (4294967296 * P) := Nat.mul_le_mul_right _ htop
    rw [Nat.add_mul (r * 4294967296) u2 P, Nat.mul_assoc r] at h2
    have h6 : (k + 1) * V = k * V + V := by rw [Nat.add_mul, Nat.one_mul]
    omega
end

/-- the limbs of a window, the two highest first -/
theorem win_head (U : List Nat) (j n : Nat) : win U j (n + 2 + 1) = (nth U (j + (n + 2)) * 4294967296 + nth U (j + (n + 1))) * (4294967296 * 4294967296 ^ n) + nth U (j + n) * 4294967296 ^ n + win U j n := by
  rw [win_succ, win_succ, win_succ, Nat.add_mul]
  simp only [Nat.pow_succ]
  generalize 4294967296 ^ n = P
  rw [Nat.mul_assoc (nth U (j + (n + 2))), Nat.mul_comm (nth U (j + n)) P]
  have e1 : P * 4294967296 * 4294967296 * nth U (j + (n + 2)) = nth U (j + (n + 2)) * (4294967296 * (4294967296 * P)) := by
    rw [Nat.mul_comm]; congr 1; rw [Nat.mul_assoc, Nat.mul_comm P, Nat.mul_assoc]
  have e2 : P * 4294967296 * nth U (j + (n + 1)) = nth U (j + (n + 1)) * (4294967296 * P) := by
    rw [Nat.mul_comm, Nat.mul_comm P]
  rw [e1, e2]
  omega
theorem win_head2 (V : List Nat) (n : Nat) : win V 0 (n + 2) = nth V (n + 1) * (4294967296 * 4294967296 ^ n) + nth V n * 4294967296 ^ n + win V 0 n := by
  rw [win_succ, win_succ, Nat.pow_succ, Nat.zero_add, Nat.zero_add]
  rw [Nat.mul_comm (4294967296 ^ n * 4294967296), Nat.mul_comm (4294967296 ^ n) 4294967296, Nat.mul_comm (4294967296 ^ n) (nth V n)]
  omega

/-- one limb is taken off -/
theorem sub_step {U U' V : List Nat} {j i g cr bo x b' : Nat} (heq : win U' j i + g * win V 0 i = win U j i + (cr + bo) * 4294967296 ^ i)
    (hx : x + (cr + g * nth V i) % 4294967296 + bo = nth U (j + i) + b' * 4294967296) (hl : j + i < U'.length) :
    win (U'.set (j + i) x) j (i + 1) + g * win V 0 (i + 1) = win U j (i + 1) + ((cr + g * nth V i) / 4294967296 + b') * 4294967296 ^ (i + 1) := by
  rw [win_succ, win_succ V, win_succ U, Nat.zero_add, nth_set_eq hl, win_congr (U := U'.set (j + i) x) (U' := U') (fun t ht => nth_set_ne (by omega) x), Nat.pow_succ]
  generalize hs : cr + g * nth V i = s at hx ⊢
  generalize 4294967296 ^ i = P at heq ⊢
  have e1 : g * (win V 0 i + P * nth V i) = g * win V 0 i + P * (g * nth V i) := by
    rw [Nat.mul_add]; congr 1; rw [← Nat.mul_assoc, Nat.mul_comm g P, Nat.mul_assoc]
  have e2 : (cr + bo) * P = P * cr + P * bo := by rw [Nat.add_mul, Nat.mul_comm cr, Nat.mul_comm bo]
  have e3 : (s / 4294967296 + b') * (P * 4294967296) = P * (4294967296 * (s / 4294967296)) + P * (b' * 4294967296) := by
    rw [Nat.add_mul, Nat.mul_comm P 4294967296, ← Nat.mul_assoc, ← Nat.mul_assoc, Nat.mul_comm _ P, Nat.mul_comm _ P, Nat.mul_comm (s / 4294967296)]
  rw [e1, e3]
  rw [e2] at heq
  have h1 : P * (x + s % 4294967296 + bo) = P * (nth U (j + i) + b' * 4294967296) := by rw [hx]
  have h2 : P * (g * nth V i) + P * cr = P * (4294967296 * (s / 4294967296)) + P * (s % 4294967296) := by
    rw [← Nat.mul_add, ← Nat.mul_add]; congr 1; omega
  simp only [Nat.mul_add] at h1
  omega

/-- the highest limb is taken off -/
theorem sub_last {U U' V : List Nat} {j n g cr bo x b' : Nat} (heq : win U' j n + g * win V 0 n = win U j n + (cr + bo) * 4294967296 ^ n)
    (hx : x + cr + bo = nth U (j + n) + b' * 4294967296) (hl : j + n < U'.length) :
    win (U'.set (j + n) x) j (n + 1) + g * win V 0 n = win U j (n + 1) + b' * 4294967296 ^ (n + 1) := by
  rw [win_succ, win_succ U, nth_set_eq hl, win_congr (U := U'.set (j + n) x) (U' := U') (fun t ht => nth_set_ne (by omega) x), Nat.pow_succ]
  generalize 4294967296 ^ n = P at heq ⊢
  have h1 : P * (x + cr + bo) = P * (nth U (j + n) + b' * 4294967296) := by rw [hx]
  have e2 : (cr + bo) * P = P * cr + P * bo := by rw [Nat.add_mul, Nat.mul_comm cr, Nat.mul_comm bo]
  have e3 : b' * (P * 4294967296) = P * (b' * 4294967296) := by rw [← Nat.mul_assoc, Nat.mul_comm b' P, Nat.mul_assoc]
  simp only [Nat.mul_add] at h1
  omega

/-- one limb is put back -/
theorem add_step {U U' V : List Nat} {j i c x c' : Nat} (heq : win U' j i + c * 4294967296 ^ i = win U j i + win V 0 i)
    (hx : x + c' * 4294967296 = nth U (j + i) + nth V i + c) (hl : j + i < U'.length) :
    win (U'.set (j + i) x) j (i + 1) + c' * 4294967296 ^ (i + 1) = win U j (i + 1) + win V 0 (i + 1) := by
  rw [win_succ, win_succ V, win_succ U, Nat.zero_add, nth_set_eq hl, win_congr (U := U'.set (j + i) x) (U' := U') (fun t ht => nth_set_ne (by omega) x), Nat.pow_succ]
  generalize 4294967296 ^ i = P at heq ⊢
  have h1 : P * (x + c' * 4294967296) = P * (nth U (j + i) + nth V i + c) := by rw [hx]
  have e2 : c * P = P * c := Nat.mul_comm _ _
  have e3 : c' * (P * 4294967296) = P * (c' * 4294967296) := by rw [← Nat.mul_assoc, Nat.mul_comm c' P, Nat.mul_assoc]
  simp only [Nat.mul_add] at h1
  omega

/-- what stands outside a window stays -/
theorem val_window {U U' : List Nat} {j k W' : Nat} (hl : U'.length = U.length) (hj : j + k ≤ U.length) (hout : ∀ i, i < j ∨ j + k ≤ i → nth U' i = nth U i) (hw : win U' j k = W') :
    val U + 4294967296 ^ j * W' = val U' + 4294967296 ^ j * win U j k := by
  have e : ∀ X : List Nat, X.length = U.length → val X = win X 0 j + 4294967296 ^ j * (win X j k + 4294967296 ^ k * win X (j + k) (U.length - (j + k))) := by
    intro X hX
    rw [← win_full X, hX, ← Nat.zero_add j]
    have h1 := win_add X 0 j (k + (U.length - (j + k)))
    have h2 := win_add X j k (U.length - (j + k))
    simp only [Nat.zero_add] at h1 ⊢
    rw [← h2, ← h1]
    congr 1
    omega
  rw [e U rfl, e U' hl, hw, win_congr (U := U') (U' := U) (j := 0) (k := j) (fun i hi => by rw [Nat.zero_add]; exact hout i (.inl hi)), win_congr (U := U') (U' := U) (j := j + k) (k := U.length - (j + k)) (fun i hi => hout _ (.inr (by omega)))]
  simp only [Nat.mul_add]
  omega

theorem val_set_zero {Q : List Nat} {j x : Nat} (hj : j < Q.length) (h0 : nth Q j = 0) : val (Q.set j x) = val Q + 4294967296 ^ j * x := by
  have h := val_window (U := Q) (U' := Q.set j x) (j := j) (k := 1) (W' := x) (by simp) (by omega) (fun i hi => nth_set_ne (by omega) x) (by rw [win_one, nth_set_eq hj])
  rw [win_one, h0] at h
  omega

/-- above a value's limbs there is nothing -/
theorem nth_zero_of_lt {U : List Nat} (hU : Lim U) {j k : Nat} (h : val (U.drop j) < 4294967296 ^ k) (i : Nat) (hi : j + k ≤ i) : nth U i = 0 := by
  have h1 := nth_of_val (U.drop j) (hU.drop j) (i - j)
  rw [nth_drop, show j + (i - j) = i by omega] at h1
  rw [h1, Nat.div_eq_of_lt (Nat.lt_of_lt_of_le h (Nat.pow_le_pow_right (by omega) (by omega)))]
theorem val_drop_win {U : List Nat} {j k : Nat} (h : ∀ i, j + k ≤ i → nth U i = 0) : val (U.drop j) = win U j k := by
  by_cases hl : U.length ≤ j + k
  · rw [win_over hl]
  · have h1 := win_over (U := U) (j := j) (k := U.length - j) (by omega)
    rw [← h1, show U.length - j = k + (U.length - j - k) by omega, win_add]
    have : win U (j + k) (U.length - j - k) = 0 := val_eq_of_nth (fun i hi => by
      rw [List.length_take] at hi
      rw [nth_take (by omega), nth_drop]; exact h _ (by omega))
    rw [this]; simp
theorem val_drop_succ (U : List Nat) (j : Nat) : val (U.drop j) = nth U j + 4294967296 * val (U.drop (j + 1)) := by
  by_cases h : j < U.length
  · rw [List.drop_eq_getElem_cons h, val_cons]
    congr 1
    unfold nth
    rw [List.getD_eq_getElem?_getD, List.getElem?_eq_getElem h]; rfl
  · rw [List.drop_of_length_le (by omega), List.drop_of_length_le (by omega), nth_over (by omega)]; rfl

/-- what the estimate rests on -/
theorem long_data {U V : List Nat} {n j : Nat} (hn2 : 2 ≤ n) (hU : Lim U) (hV : Lim V) (hVl : V.length = n) (hlt : val (U.drop (j + 1)) < val V) :
    win U j (n + 1) < 4294967296 * val V ∧ nth U (j + n) ≤ nth V (n - 1) ∧ ∃ P v' w', 0 < P ∧ v' < P ∧ w' < P ∧ val V = nth V (n - 1) * (4294967296 * P) + nth V (n - 2) * P + v' ∧
      win U j (n + 1) = (nth U (j + n) * 4294967296 + nth U (j + n - 1)) * (4294967296 * P) + nth U (j + n - 2) * P + w' := by
  have hVn : val V < 4294967296 ^ n := by have := val_lt hV; rwa [hVl] at this
  have hVw : win V 0 n = val V := by rw [← hVl]; exact win_full V
  have hz := fun i hi => nth_zero_of_lt hU (j := j + 1) (k := n) (Nat.lt_trans hlt hVn) i hi
  have hd1 : val (U.drop (j + 1)) = win U (j + 1) n := val_drop_win hz
  have hd0 : val (U.drop j) = win U j (n + 1) := val_drop_win (fun i hi => hz i (by omega))
  have hs := val_drop_succ U j
  have hx := nth_lt hU j
  obtain ⟨p, rfl⟩ : ∃ p, n = p + 2 := ⟨n - 2, by omega⟩
  refine ⟨by rw [← hd0, hs]; omega, ?_, 4294967296 ^ p, win V 0 p, win U j p, Nat.pow_pos (by omega), win_lt hV 0 p, win_lt hU j p, ?_, ?_⟩
  · have h1 := win_succ U (j + 1) (p + 1)
    have h2 := win_succ V 0 (p + 1)
    have h3 := win_lt hV 0 (p + 1)
    rw [Nat.zero_add] at h2
    rw [show j + 1 + (p + 1) = j + (p + 2) by omega] at h1
    rw [show p + 2 - 1 = p + 1 by omega]
    rw [show p + 2 = p + 1 + 1 by omega] at hVw hd1
    apply Nat.le_of_lt_succ
    apply Nat.lt_of_mul_lt_mul_left (a := 4294967296 ^ (p + 1))
    rw [Nat.succ_eq_add_one, Nat.mul_add, Nat.mul_one]
    omega
  · rw [← hVw, win_head2]; rfl
  · rw [win_head]
    rw [show j + (p + 2) - 1 = j + (p + 1) by omega, show j + (p + 2) - 2 = j + p by omega]

theorem fin_sub {W V g R : Nat} (hV : 0 < V) (hg : W / V ≤ g) (h : R + g * V = W) : R < V := by
  have h1 : g ≤ W / V := (Nat.le_div_iff_mul_le hV).2 (by omega)
  have h2 : g = W / V := by omega
  subst h2
  have h3 := Nat.div_add_mod W V
  have h4 := Nat.mod_lt W hV
  rw [Nat.mul_comm] at h3
  omega
theorem fin_add {W V g R3 R5 c' T : Nat} (hV : 0 < V) (hg : g ≤ W / V + 1) (h1 : R3 + g * V = W + T) (hR3 : R3 < T) (h2 : R5 + c' * T = R3 + V) (hc : c' ≤ 1) (hR5 : R5 < T) : 1 ≤ g ∧ R5 + (g - 1) * V = W ∧ R5 < V := by
  have h3 : W / V < g := by
    apply Nat.lt_of_not_le
    intro hle
    have := (Nat.le_div_iff_mul_le hV).1 hle
    omega
  have h4 : g = W / V + 1 := by omega
  subst h4
  have h5 := Nat.div_add_mod W V
  have h6 := Nat.mod_lt W hV
  rw [Nat.mul_comm] at h5
  rw [Nat.add_mul, Nat.one_mul] at h1
  have h7 : c' = 0 ∨ c' = 1 := by omega
  refine ⟨Nat.succ_le_succ (Nat.zero_le _), ?_, ?_⟩
  · rw [Nat.add_sub_cancel]
    rcases h7 with rfl | rfl <;> simp at h2 <;> omega
  · rcases h7 with rfl | rfl <;> simp at h2 <;> omega

/-- one step of the long division, as a whole -/
theorem long_step {U U' V Q : List Nat} {j n q : Nat} (hU : Lim U) (hVn : val V < 4294967296 ^ n) (hl : U'.length = U.length) (hj : j + n + 1 ≤ U.length) (htop : val (U.drop (j + 1)) < val V)
    (hout : ∀ i, i < j ∨ j + n + 1 ≤ i → nth U' i = nth U i) (hw : win U' j (n + 1) + q * val V = win U j (n + 1)) (hR : win U' j (n + 1) < val V) (hq0 : nth Q j = 0) (hqj : j < Q.length) :
    val U' + val (Q.set j q) * val V = val U + val Q * val V ∧ val (U'.drop j) < val V := by
  have h1 := val_window (j := j) (k := n + 1) hl (by omega) (by intro i hi; exact hout i (by omega)) rfl
  have hz : ∀ i, j + (n + 1) ≤ i → nth U' i = 0 := by
    intro i hi
    rw [hout i (.inr (by omega))]
    exact nth_zero_of_lt hU (k := n) (j := j + 1) (by omega) i (by omega)
  refine ⟨?_, by rw [val_drop_win hz]; exact hR⟩
  rw [val_set_zero hqj hq0, Nat.add_mul]
  have h2 : 4294967296 ^ j * q * val V = 4294967296 ^ j * (q * val V) := Nat.mul_assoc _ _ _
  rw [h2]
  have h3 : 4294967296 ^ j * win U' j (n + 1) + 4294967296 ^ j * (q * val V) = 4294967296 ^ j * win U j (n + 1) := by rw [← Nat.mul_add, hw]
  omega

end Go.Proofs.YtbcpfdeklglknaaGreatDoor
