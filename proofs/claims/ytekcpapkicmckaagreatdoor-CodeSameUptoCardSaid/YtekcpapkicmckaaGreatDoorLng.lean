/- The long division, on lists of limbs: the estimate, what is taken off, what is put back. Plain Lean. limbs.long: what its parts share. limbs.long: the loop that makes the estimate smaller. limbs.long: the loop that puts the divisor back. limbs.long: the loop that takes the divisor times the estimate off. limbs.long: what follows in a round when the divisor times the estimate has been taken off but for the highest limb. The contract of limbs.long: Knuth's long division, in place. -/
import Derived.Test.YtekcpapkicmckaaGreatDoorNat
import Derived.Test.YtekcpapkicmckaaGreatDoorBits
import Derived.Deep.RegionWith
import Derived.Deep.DeepCutAuto
import Derived.Deep.CutBlock
namespace Go.Proofs.YtekcpapkicmckaaGreatDoor

/-- so many limbs from a place on, as a natural -/
def win (U : List Nat) (j k : Nat) : Nat := val ((U.drop j).take k)

theorem win_zero (U : List Nat) (j : Nat) : win U j 0 = 0 := by simp [win, val]
theorem win_succ (U : List Nat) (j k : Nat) : win U j (k + 1) = win U j k + 4294967296 ^ k * nth U (j + k) := by
  unfold win; rw [val_take_succ', nth_drop]
theorem win_lt {U : List Nat} (h : Lim U) (j k : Nat) : win U j k < 4294967296 ^ k := val_take_lt (h.drop j) k
theorem win_congr {U U' : List Nat} {j k : Nat} (h : ∀ i, i < k → nth U (j + i) = nth U' (j + i)) : win U j k = win U' j k := by
  induction k with
  | zero => rw [win_zero, win_zero]
  | succ k ih => rw [win_succ, win_succ, ih (fun i hi => h i (by omega)), h k (by omega)]
theorem win_over {U : List Nat} {j k : Nat} (h : U.length ≤ j + k) : win U j k = val (U.drop j) := by
  unfold win; rw [List.take_of_length_le (by rw [List.length_drop]; omega)]
theorem win_add (U : List Nat) (j k l : Nat) : win U j (k + l) = win U j k + 4294967296 ^ k * win U (j + k) l := by
  induction l with
  | zero => rw [win_zero]; simp
  | succ l ih =>
    rw [← Nat.add_assoc, win_succ, ih, win_succ, Nat.mul_add, ← Nat.mul_assoc, ← Nat.pow_add, Nat.add_assoc, Nat.add_assoc j k l]
theorem win_full (U : List Nat) : win U 0 U.length = val U := by unfold win; simp
theorem win_one (U : List Nat) (j : Nat) : win U j 1 = nth U j := by rw [win_succ, win_zero]; simp
theorem win_val_take (V : List Nat) (k : Nat) : win V 0 k = val (V.take k) := by unfold win; simp

/-- the estimate: the quotient of the two highest limbs by the divisor's highest one, made smaller while it is seen to be too great -/
structure Est (W V head u2 top next P : Nat) (g r : Nat) : Prop where
  eq : g * top + r = head
  ge : W / V ≤ g

section
variable {W V top next v' P head u2 w' : Nat}

theorem est_start (hV : V = top * (4294967296 * P) + next * P + v') (hW : W = head * (4294967296 * P) + u2 * P + w') (hw : w' < P) (hu : u2 < 4294967296) (htop : 0 < top) (hP : 0 < P) :
    Est W V head u2 top next P (head / top) (head % top) := by
  refine ⟨by rw [Nat.mul_comm]; exact Nat.div_add_mod head top, ?_⟩
  have hVpos : 0 < V := by
    have : 0 < top * (4294967296 * P) := Nat.mul_pos htop (by omega)
    omega
  refine Nat.le_of_lt_succ ((Nat.div_lt_iff_lt_mul hVpos).2 ?_)
  have h1 : head < (head / top + 1) * top := by
    have := Nat.div_add_mod head top
    have h2 := Nat.mod_lt head htop
    rw [Nat.add_mul, Nat.one_mul, Nat.mul_comm]
    omega
  have h3 : (head + 1) * (4294967296 * P) ≤ (head / top + 1) * top * (4294967296 * P) := Nat.mul_le_mul_right _ h1
  have h4 : u2 * P + w' < 4294967296 * P := by
    have : (u2 + 1) * P ≤ 4294967296 * P := Nat.mul_le_mul_right _ hu
    rw [Nat.add_mul, Nat.one_mul] at this
    omega
  have h5 : (head / top + 1) * top * (4294967296 * P) ≤ (head / top + 1) * V := by
    rw [Nat.mul_assoc]
    exact Nat.mul_le_mul_left _ (by omega)
  rw [Nat.add_mul, Nat.one_mul] at h3
  rw [Nat.succ_eq_add_one]
  omega

theorem est_step (hV : V = top * (4294967296 * P) + next * P + v') (hW : W = head * (4294967296 * P) + u2 * P + w') (hw : w' < P) (htop : 0 < top) (hP : 0 < P) (hq : W / V < 4294967296)
    {g r : Nat} (h : Est W V head u2 top next P g r) (hc : 4294967296 ≤ g ∨ r * 4294967296 + u2 < g * next) : 0 < g ∧ Est W V head u2 top next P (g - 1) (r + top) := by
  have hVpos : 0 < V := by
    have : 0 < top * (4294967296 * P) := Nat.mul_pos htop (by omega)
    omega
  have hg : 0 < g := by
    rcases hc with hc | hc
    · omega
    · apply Nat.pos_of_ne_zero
      intro e
      subst e
      omega
  obtain ⟨k, rfl⟩ : ∃ k, g = k + 1 := ⟨g - 1, by omega⟩
  refine ⟨hg, ⟨?_, ?_⟩⟩
  · have := h.eq
    rw [Nat.add_mul, Nat.one_mul] at this
    simp only [Nat.add_sub_cancel]
    omega
  · simp only [Nat.add_sub_cancel]
    rcases hc with hc | hc
    · omega
    · refine Nat.le_of_lt_succ ((Nat.div_lt_iff_lt_mul hVpos).2 ?_)
      rw [Nat.succ_eq_add_one]
      have h1 : (k + 1) * V = (k + 1) * top * (4294967296 * P) + (k + 1) * next * P + (k + 1) * v' := by
        rw [hV, Nat.mul_add, Nat.mul_add, ← Nat.mul_assoc, ← Nat.mul_assoc (k + 1) next P]
      have h2 : (r * 4294967296 + u2 + 1) * P ≤ (k + 1) * next * P := Nat.mul_le_mul_right _ hc
      have h3 : head * (4294967296 * P) = (k + 1) * top * (4294967296 * P) + r * (4294967296 * P) := by
        rw [← h.eq, Nat.add_mul]
      rw [Nat.add_mul, Nat.add_mul, Nat.one_mul, Nat.mul_assoc r] at h2
      omega

/-- when the estimate is no longer made smaller, it is the quotient or one more -/
theorem est_end (hV : V = top * (4294967296 * P) + next * P + v') (hW : W = head * (4294967296 * P) + u2 * P + w') (hv : v' < P) (htop : 2147483648 ≤ top) (hP : 0 < P) (hhead : head < top * 4294967296 + 4294967296) (hnext : next < 4294967296)
    {g r : Nat} (h : Est W V head u2 top next P g r) (hc : 4294967296 ≤ r ∨ g < 4294967296 ∧ g * next ≤ r * 4294967296 + u2) : g < 4294967296 ∧ g ≤ W / V + 1 := by
  have hVpos : 0 < V := by
    have : 0 < top * (4294967296 * P) := Nat.mul_pos (by omega) (by omega)
    omega
  have heq := h.eq
  have hg : g < 4294967296 := by
    rcases hc with hc | ⟨hc, _⟩
    · have h1 : g * top < 4294967296 * top := by rw [Nat.mul_comm 4294967296 top]; omega
      exact Nat.lt_of_mul_lt_mul_right h1
    · exact hc
  refine ⟨hg, ?_⟩
  have hgn : g * next ≤ r * 4294967296 + u2 := by
    rcases hc with hc | ⟨_, hc⟩
    · have h1 : g * next ≤ 4294967296 * 4294967296 := Nat.mul_le_mul (by omega) (by omega)
      have h2 : 4294967296 * 4294967296 ≤ r * 4294967296 := Nat.mul_le_mul_right _ hc
      omega
    · exact hc
  rcases Nat.eq_zero_or_pos g with h0 | h0
  · rw [h0]; exact Nat.zero_le _
  · obtain ⟨k, rfl⟩ : ∃ k, g = k + 1 := ⟨g - 1, by omega⟩
    refine Nat.succ_le_succ ((Nat.le_div_iff_mul_le hVpos).2 ?_)
    have h1 : (k + 1) * V = (k + 1) * top * (4294967296 * P) + (k + 1) * next * P + (k + 1) * v' := by
      rw [hV, Nat.mul_add, Nat.mul_add, ← Nat.mul_assoc, ← Nat.mul_assoc (k + 1) next P]
    have h2 : (k + 1) * next * P ≤ (r * 4294967296 + u2) * P := Nat.mul_le_mul_right _ hgn
    have h3 : head * (4294967296 * P) = (k + 1) * top * (4294967296 * P) + r * (4294967296 * P) := by
      rw [← heq, Nat.add_mul]
    have h4 : (k + 1) * v' ≤ 4294967296 * P := Nat.mul_le_mul (by omega) (by omega)
    have h5 : 2147483648 * (4294967296 * P) ≤ top * (4294967296 * P) := Nat.mul_le_mul_right _ htop
    rw [Nat.add_mul (r * 4294967296) u2 P, Nat.mul_assoc r] at h2
    have h6 : (k + 1) * V = k * V + V := by rw [Nat.add_mul, Nat.one_mul]
    omega
end

/-- the limbs of a window, the two highest first -/
theorem win_head (U : List Nat) (j n : Nat) : win U j (n + 2 + 1) = (nth U (j + (n + 2)) * 4294967296 + nth U (j + (n + 1))) * (4294967296 * 4294967296 ^ n) + nth U (j + n) * 4294967296 ^ n + win U j n := by
  rw [win_succ, win_succ, win_succ, Nat.add_mul]
  simp only [Nat.pow_succ]
  generalize 4294967296 ^ n = P
  rw [Nat.mul_assoc (nth U (j + (n + 2))), Nat.mul_comm (nth U (j + n)) P]
  have e1 : P * 4294967296 * 4294967296 * nth U (j + (n + 2)) = nth U (j + (n + 2)) * (4294967296 * (4294967296 * P)) := by
    rw [Nat.mul_comm]; congr 1; rw [Nat.mul_assoc, Nat.mul_comm P, Nat.mul_assoc]
  have e2 : P * 4294967296 * nth U (j + (n + 1)) = nth U (j + (n + 1)) * (4294967296 * P) := by
    rw [Nat.mul_comm, Nat.mul_comm P]
  rw [e1, e2]
  omega
theorem win_head2 (V : List Nat) (n : Nat) : win V 0 (n + 2) = nth V (n + 1) * (4294967296 * 4294967296 ^ n) + nth V n * 4294967296 ^ n + win V 0 n := by
  rw [win_succ, win_succ, Nat.pow_succ, Nat.zero_add, Nat.zero_add]
  rw [Nat.mul_comm (4294967296 ^ n * 4294967296), Nat.mul_comm (4294967296 ^ n) 4294967296, Nat.mul_comm (4294967296 ^ n) (nth V n)]
  omega

/-- one limb is taken off -/
theorem sub_step {U U' V : List Nat} {j i g cr bo x b' : Nat} (heq : win U' j i + g * win V 0 i = win U j i + (cr + bo) * 4294967296 ^ i)
    (hx : x + (cr + g * nth V i) % 4294967296 + bo = nth U (j + i) + b' * 4294967296) (hl : j + i < U'.length) :
    win (U'.set (j + i) x) j (i + 1) + g * win V 0 (i + 1) = win U j (i + 1) + ((cr + g * nth V i) / 4294967296 + b') * 4294967296 ^ (i + 1) := by
  rw [win_succ, win_succ V, win_succ U, Nat.zero_add, nth_set_eq hl, win_congr (U := U'.set (j + i) x) (U' := U') (fun t ht => nth_set_ne (by omega) x), Nat.pow_succ]
  generalize hs : cr + g * nth V i = s at hx ⊢
  generalize 4294967296 ^ i = P at heq ⊢
  have e1 : g * (win V 0 i + P * nth V i) = g * win V 0 i + P * (g * nth V i) := by
    rw [Nat.mul_add]; congr 1; rw [← Nat.mul_assoc, Nat.mul_comm g P, Nat.mul_assoc]
  have e2 : (cr + bo) * P = P * cr + P * bo := by rw [Nat.add_mul, Nat.mul_comm cr, Nat.mul_comm bo]
  have e3 : (s / 4294967296 + b') * (P * 4294967296) = P * (4294967296 * (s / 4294967296)) + P * (b' * 4294967296) := by
    rw [Nat.add_mul, Nat.mul_comm P 4294967296, ← Nat.mul_assoc, ← Nat.mul_assoc, Nat.mul_comm _ P, Nat.mul_comm _ P, Nat.mul_comm (s / 4294967296)]
  rw [e1, e3]
  rw [e2] at heq
  have h1 : P * (x + s % 4294967296 + bo) = P * (nth U (j + i) + b' * 4294967296) := by rw [hx]
  have h2 : P * (g * nth V i) + P * cr = P * (4294967296 * (s / 4294967296)) + P * (s % 4294967296) := by
    rw [← Nat.mul_add, ← Nat.mul_add]; congr 1; omega
  simp only [Nat.mul_add] at h1
  omega

/-- the highest limb is taken off -/
theorem sub_last {U U' V : List Nat} {j n g cr bo x b' : Nat} (heq : win U' j n + g * win V 0 n = win U j n + (cr + bo) * 4294967296 ^ n)
    (hx : x + cr + bo = nth U (j + n) + b' * 4294967296) (hl : j + n < U'.length) :
    win (U'.set (j + n) x) j (n + 1) + g * win V 0 n = win U j (n + 1) + b' * 4294967296 ^ (n + 1) := by
  rw [win_succ, win_succ U, nth_set_eq hl, win_congr (U := U'.set (j + n) x) (U' := U') (fun t ht => nth_set_ne (by omega) x), Nat.pow_succ]
  generalize 4294967296 ^ n = P at heq ⊢
  have h1 : P * (x + cr + bo) = P * (nth U (j + n) + b' * 4294967296) := by rw [hx]
  have e2 : (cr + bo) * P = P * cr + P * bo := by rw [Nat.add_mul, Nat.mul_comm cr, Nat.mul_comm bo]
  have e3 : b' * (P * 4294967296) = P * (b' * 4294967296) := by rw [← Nat.mul_assoc, Nat.mul_comm b' P, Nat.mul_assoc]
  simp only [Nat.mul_add] at h1
  omega

/-- one limb is put back -/
theorem add_step {U U' V : List Nat} {j i c x c' : Nat} (heq : win U' j i + c * 4294967296 ^ i = win U j i + win V 0 i)
    (hx : x + c' * 4294967296 = nth U (j + i) + nth V i + c) (hl : j + i < U'.length) :
    win (U'.set (j + i) x) j (i + 1) + c' * 4294967296 ^ (i + 1) = win U j (i + 1) + win V 0 (i + 1) := by
  rw [win_succ, win_succ V, win_succ U, Nat.zero_add, nth_set_eq hl, win_congr (U := U'.set (j + i) x) (U' := U') (fun t ht => nth_set_ne (by omega) x), Nat.pow_succ]
  generalize 4294967296 ^ i = P at heq ⊢
  have h1 : P * (x + c' * 4294967296) = P * (nth U (j + i) + nth V i + c) := by rw [hx]
  have e2 : c * P = P * c := Nat.mul_comm _ _
  have e3 : c' * (P * 4294967296) = P * (c' * 4294967296) := by rw [← Nat.mul_assoc, Nat.mul_comm c' P, Nat.mul_assoc]
  simp only [Nat.mul_add] at h1
  omega

/-- what stands outside a window stays -/
theorem val_window {U U' : List Nat} {j k W' : Nat} (hl : U'.length = U.length) (hj : j + k ≤ U.length) (hout : ∀ i, i < j ∨ j + k ≤ i → nth U' i = nth U i) (hw : win U' j k = W') :
    val U + 4294967296 ^ j * W' = val U' + 4294967296 ^ j * win U j k := by
  have e : ∀ X : List Nat, X.length = U.length → val X = win X 0 j + 4294967296 ^ j * (win X j k + 4294967296 ^ k * win X (j + k) (U.length - (j + k))) := by
    intro X hX
    rw [← win_full X, hX, ← Nat.zero_add j]
    have h1 := win_add X 0 j (k + (U.length - (j + k)))
    have h2 := win_add X j k (U.length - (j + k))
    simp only [Nat.zero_add] at h1 ⊢
    rw [← h2, ← h1]
    congr 1
    omega
  rw [e U rfl, e U' hl, hw, win_congr (U := U') (U' := U) (j := 0) (k := j) (fun i hi => by rw [Nat.zero_add]; exact hout i (.inl hi)), win_congr (U := U') (U' := U) (j := j + k) (k := U.length - (j + k)) (fun i hi => hout _ (.inr (by omega)))]
  simp only [Nat.mul_add]
  omega

theorem val_set_zero {Q : List Nat} {j x : Nat} (hj : j < Q.length) (h0 : nth Q j = 0) : val (Q.set j x) = val Q + 4294967296 ^ j * x := by
  have h := val_window (U := Q) (U' := Q.set j x) (j := j) (k := 1) (W' := x) (by simp) (by omega) (fun i hi => nth_set_ne (by omega) x) (by rw [win_one, nth_set_eq hj])
  rw [win_one, h0] at h
  omega

/-- above a value's limbs there is nothing -/
theorem nth_zero_of_lt {U : List Nat} (hU : Lim U) {j k : Nat} (h : val (U.drop j) < 4294967296 ^ k) (i : Nat) (hi : j + k ≤ i) : nth U i = 0 := by
  have h1 := nth_of_val (U.drop j) (hU.drop j) (i - j)
  rw [nth_drop, show j + (i - j) = i by omega] at h1
  rw [h1, Nat.div_eq_of_lt (Nat.lt_of_lt_of_le h (Nat.pow_le_pow_right (by omega) (by omega)))]
theorem val_drop_win {U : List Nat} {j k : Nat} (h : ∀ i, j + k ≤ i → nth U i = 0) : val (U.drop j) = win U j k := by
  by_cases hl : U.length ≤ j + k
  · rw [win_over hl]
  · have h1 := win_over (U := U) (j := j) (k := U.length - j) (by omega)
    rw [← h1, show U.length - j = k + (U.length - j - k) by omega, win_add]
    have : win U (j + k) (U.length - j - k) = 0 := val_eq_of_nth (fun i hi => by
      rw [List.length_take] at hi
      rw [nth_take (by omega), nth_drop]; exact h _ (by omega))
    rw [this]; simp
theorem val_drop_succ (U : List Nat) (j : Nat) : val (U.drop j) = nth U j + 4294967296 * val (U.drop (j + 1)) := by
  by_cases h : j < U.length
  · rw [List.drop_eq_getElem_cons h, val_cons]
    congr 1
    unfold nth
    rw [List.getD_eq_getElem?_getD, List.getElem?_eq_getElem h]; rfl
  · rw [List.drop_of_length_le (by omega), List.drop_of_length_le (by omega), nth_over (by omega)]; rfl

/-- what the estimate rests on -/
theorem long_data {U V : List Nat} {n j : Nat} (hn2 : 2 ≤ n) (hU : Lim U) (hV : Lim V) (hVl : V.length = n) (hlt : val (U.drop (j + 1)) < val V) :
    win U j (n + 1) < 4294967296 * val V ∧ nth U (j + n) ≤ nth V (n - 1) ∧ ∃ P v' w', 0 < P ∧ v' < P ∧ w' < P ∧ val V = nth V (n - 1) * (4294967296 * P) + nth V (n - 2) * P + v' ∧
      win U j (n + 1) = (nth U (j + n) * 4294967296 + nth U (j + n - 1)) * (4294967296 * P) + nth U (j + n - 2) * P + w' := by
  have hVn : val V < 4294967296 ^ n := by have := val_lt hV; rwa [hVl] at this
  have hVw : win V 0 n = val V := by rw [← hVl]; exact win_full V
  have hz := fun i hi => nth_zero_of_lt hU (j := j + 1) (k := n) (Nat.lt_trans hlt hVn) i hi
  have hd1 : val (U.drop (j + 1)) = win U (j + 1) n := val_drop_win hz
  have hd0 : val (U.drop j) = win U j (n + 1) := val_drop_win (fun i hi => hz i (by omega))
  have hs := val_drop_succ U j
  have hx := nth_lt hU j
  obtain ⟨p, rfl⟩ : ∃ p, n = p + 2 := ⟨n - 2, by omega⟩
  refine ⟨by rw [← hd0, hs]; omega, ?_, 4294967296 ^ p, win V 0 p, win U j p, Nat.pow_pos (by omega), win_lt hV 0 p, win_lt hU j p, ?_, ?_⟩
  · have h1 := win_succ U (j + 1) (p + 1)
    have h2 := win_succ V 0 (p + 1)
    have h3 := win_lt hV 0 (p + 1)
    rw [Nat.zero_add] at h2
    rw [show j + 1 + (p + 1) = j + (p + 2) by omega] at h1
    rw [show p + 2 - 1 = p + 1 by omega]
    rw [show p + 2 = p + 1 + 1 by omega] at hVw hd1
    apply Nat.le_of_lt_succ
    apply Nat.lt_of_mul_lt_mul_left (a := 4294967296 ^ (p + 1))
    rw [Nat.succ_eq_add_one, Nat.mul_add, Nat.mul_one]
    omega
  · rw [← hVw, win_head2]; rfl
  · rw [win_head]
    rw [show j + (p + 2) - 1 = j + (p + 1) by omega, show j + (p + 2) - 2 = j + p by omega]

theorem fin_sub {W V g R : Nat} (hV : 0 < V) (hg : W / V ≤ g) (h : R + g * V = W) : R < V := by
  have h1 : g ≤ W / V := (Nat.le_div_iff_mul_le hV).2 (by omega)
  have h2 : g = W / V := by omega
  subst h2
  have h3 := Nat.div_add_mod W V
  have h4 := Nat.mod_lt W hV
  rw [Nat.mul_comm] at h3
  omega
theorem fin_add {W V g R3 R5 c' T : Nat} (hV : 0 < V) (hg : g ≤ W / V + 1) (h1 : R3 + g * V = W + T) (hR3 : R3 < T) (h2 : R5 + c' * T = R3 + V) (hc : c' ≤ 1) (hR5 : R5 < T) : 1 ≤ g ∧ R5 + (g - 1) * V = W ∧ R5 < V := by
  have h3 : W / V < g := by
    apply Nat.lt_of_not_le
    intro hle
    have := (Nat.le_div_iff_mul_le hV).1 hle
    omega
  have h4 : g = W / V + 1 := by omega
  subst h4
  have h5 := Nat.div_add_mod W V
  have h6 := Nat.mod_lt W hV
  rw [Nat.mul_comm] at h5
  rw [Nat.add_mul, Nat.one_mul] at h1
  have h7 : c' = 0 ∨ c' = 1 := by omega
  refine ⟨Nat.succ_le_succ (Nat.zero_le _), ?_, ?_⟩
  · rw [Nat.add_sub_cancel]
    rcases h7 with rfl | rfl <;> simp at h2 <;> omega
  · rcases h7 with rfl | rfl <;> simp at h2 <;> omega

/-- one step of the long division, as a whole -/
theorem long_step {U U' V Q : List Nat} {j n q : Nat} (hU : Lim U) (hVn : val V < 4294967296 ^ n) (hl : U'.length = U.length) (hj : j + n + 1 ≤ U.length) (htop : val (U.drop (j + 1)) < val V)
    (hout : ∀ i, i < j ∨ j + n + 1 ≤ i → nth U' i = nth U i) (hw : win U' j (n + 1) + q * val V = win U j (n + 1)) (hR : win U' j (n + 1) < val V) (hq0 : nth Q j = 0) (hqj : j < Q.length) :
    val U' + val (Q.set j q) * val V = val U + val Q * val V ∧ val (U'.drop j) < val V := by
  have h1 := val_window (j := j) (k := n + 1) hl (by omega) (by intro i hi; exact hout i (by omega)) rfl
  have hz : ∀ i, j + (n + 1) ≤ i → nth U' i = 0 := by
    intro i hi
    rw [hout i (.inr (by omega))]
    exact nth_zero_of_lt hU (k := n) (j := j + 1) (by omega) i (by omega)
  refine ⟨?_, by rw [val_drop_win hz]; exact hR⟩
  rw [val_set_zero hqj hq0, Nat.add_mul]
  have h2 : 4294967296 ^ j * q * val V = 4294967296 ^ j * (q * val V) := Nat.mul_assoc _ _ _
  rw [h2]
  have h3 : 4294967296 ^ j * win U' j (n + 1) + 4294967296 ^ j * (q * val V) = 4294967296 ^ j * win U j (n + 1) := by rw [← Nat.mul_add, hw]
  omega

end Go.Proofs.YtekcpapkicmckaaGreatDoor

namespace Go.Proofs.YtekcpapkicmckaaGreatDoor
open Go.RowKit

/-- a loop that is left by the end of a block, and not otherwise -/
def LoopEnds (N : Nat) (R : Act → World → Prop) : Exit → Act → World → Prop := fun e a w => match e with
  | .exit k => k = N ∧ R a w
  | _ => False
theorem loop_then {P : Program} {N : Nat} {R : Act → World → Prop} {Q : Exit → Act → World → Prop} {c : Code} {a : Act} {w : World} (h : c.wp P (LoopEnds N R) a w) (k : ∀ a' w', R a' w' → Q (.exit N) a' w') : c.wp P Q a w :=
  Code.wp_mono (fun e a' w' hq => by
    cases e with
    | exit n => obtain ⟨rfl, hr⟩ := hq; exact k _ _ hr
    | _ => exact hq.elim) h

/-- the bodies of a code's loops, the outer ones first -/
def loopsOf : Code → List Code
  | .loop c => c :: loopsOf c
  | .seq a b => loopsOf a ++ loopsOf b
  | .block _ c => loopsOf c
  | .scope c => loopsOf c
  | .cond _ a b => loopsOf a ++ loopsOf b
  | _ => []
/-- a part of a code: 0, the first; 1, the second -/
def codeAt : List Nat → Code → Code
  | [], c => c
  | 0 :: p, .seq a _ => codeAt p a
  | _ :: p, .seq _ b => codeAt p b
  | _ :: p, .loop c => codeAt p c
  | _ :: p, .block _ c => codeAt p c
  | _ :: p, .scope c => codeAt p c
  | 0 :: p, .cond _ a _ => codeAt p a
  | _ :: p, .cond _ _ b => codeAt p b
  | _, c => c
noncomputable def Tryz.longAt (p : List Nat) : Code := codeAt p (Tryz.f223.body.getD .skip)
noncomputable def Tryz.longLoop (k : Nat) : Code := ((loopsOf (Tryz.f223.body.getD .skip))[k]?).getD .skip

theorem Own.drewN {w : World} {base : Nat} {A : Option Addr} {n c : Nat} {xs : List Nat} (h : Own w base A n c xs) (q : Nat) : Own (w.drewN q) base A n c xs := ⟨⟨h.mine.len, h.mine.cap, h.mine.big, h.mine.row⟩, h.lim⟩
theorem Num.drewN {w : World} {A : Option Addr} {n c : Nat} {xs : List Nat} (h : Num w A n c xs) (q : Nat) : Num (w.drewN q) A n c xs := ⟨⟨h.sl.len, h.sl.cap, h.sl.big, h.sl.cells⟩, h.lim⟩
theorem grownBy_drewN {w w' : World} {row : Option Nat} (h : w.grownBy w' row) (q : Nat) : w.grownBy (w'.drewN q) row := ⟨h.os, h.tape, h.output, h.size, h.block⟩
theorem Own.drew {w : World} {base : Nat} {A : Option Addr} {n c : Nat} {xs : List Nat} (h : Own w base A n c xs) : Own w.drew base A n c xs := ⟨⟨h.mine.len, h.mine.cap, h.mine.big, h.mine.row⟩, h.lim⟩
theorem Num.drew {w : World} {A : Option Addr} {n c : Nat} {xs : List Nat} (h : Num w A n c xs) : Num w.drew A n c xs := ⟨⟨h.sl.len, h.sl.cap, h.sl.big, h.sl.cells⟩, h.lim⟩
theorem grownBy_drew {w w' : World} {row : Option Nat} (h : w.grownBy w' row) : w.grownBy w'.drew row := ⟨h.os, h.tape, h.output, h.size, h.block⟩
theorem or_join32 (y x : Nat) (hy : y < 4294967296) (hx : x < 4294967296) : Go.bits .or .u64 ((y : Int) * 4294967296) (x : Int) = ((y * 4294967296 + x : Nat) : Int) := by
  have h := or_join64 32 y x hx (by omega)
  rwa [show ((y * 2 ^ 32 : Nat) : Int) = (y : Int) * 4294967296 by rw [show (2 : Nat) ^ 32 = 4294967296 from rfl]; omega] at h
theorem low_still (x : Int) (y : Nat) (w : World) (h0 : 0 ≤ x) (h1 : x < 18446744073709551616) (e : x % 4294967296 = (y : Int)) :
    Calls Tryz.prog 102 #[.int .u64 x] w fun e w' => e = .returned (.int .u32 (y : Int)) ∧ w' = w := (low_int x w h0 h1).mono fun _ _ ⟨a, b⟩ => ⟨by rw [a, e], b.symm⟩
theorem Sub32_still (x y c : Nat) (w : World) (hx : x < 4294967296) (hy : y < 4294967296) (hc : c ≤ 1) :
    Calls Tryz.prog 248 #[.int .u32 x, .int .u32 y, .int .u32 c] w fun e w' => e = .returned (.tuple #[.int .u32 (diff x y c : Nat), .int .u32 (borr x y c : Nat)]) ∧ w' = w := (Sub32_any x y c w hx hy hc).mono fun _ _ ⟨a, b⟩ => ⟨a, b.symm⟩
theorem Add32_still (x y c : Nat) (w : World) (hx : x < 4294967296) (hy : y < 4294967296) (hc : c ≤ 1) :
    Calls Tryz.prog 249 #[.int .u32 x, .int .u32 y, .int .u32 c] w fun e w' => e = .returned (.tuple #[.int .u32 ((x + y + c) % 4294967296 : Nat), .int .u32 ((x + y + c) / 4294967296 : Nat)]) ∧ w' = w := (Add32_any x y c w hx hy hc).mono fun _ _ ⟨a, b⟩ => ⟨a, b.symm⟩

end Go.Proofs.YtekcpapkicmckaaGreatDoor

namespace Go.Proofs.YtekcpapkicmckaaGreatDoor
open Go.RowKit

set_option maxHeartbeats 4000000 in
set_option maxRecDepth 100000 in
theorem long_est (gu n J cu bv ov cv base top next j g0 r0 head : Nat) (U' V : List Nat) (w4 : World) (c2 c3 c4 c6 c10 c13 c14 c15 c16 c17 c18 c19 c20 c21 c22 c23 c24 c25 c26 c27 c28 c29 c30 c31 c32 c33 c34 c35 c36 c37 c38 c39 c40 c41 c42 c43 c44 c45 c46 c47 c48 c49 c50 c51 c52 c53 c54 c55 c56 c57 c58 c59 c60 c61 c62 c63 c64 c65 c66 c67 c68 c69 c70 c71 c72 c73 c74 c75 c76 c77 c78 c79 c80 c81 c82 c83 c84 c85 c86 c87 c88 c89 c90 c91 c92 c93 c94 c95 c96 c97 c98 c99 c100 c101 c102 c103 c104 c105 c106 c107 c108 c109 c110 c111 c112 c113 c114 c115 c116 c117 c118 c119 c120 c121 c122 c123 c124 c125 c126 c127 c128 c129 c130 c131 c132 c133 c134 c135 c136 c137 c138 c139 c140 c141 c142 c143 c144 c145 c146 c147 c148 c149 c150 c151 c152 c153 c154 c155 c156 c157 c158 c159 c160 c161 c162 c163 c164 c165 c166 c167 c168 c169 c170 c171 c172 c173 c174 c175 c176 c177 c178 c179 c180 c181 c182 c183 c184 c185 c186 c187 c188 c189 c190 c191 c192 c193 : Value)
    (hu4 : Own w4 base (some ⟨gu, 0, none⟩) (n + J + 1) cu U') (hvl : Lim V) (hvn : V.length = n) (hn2 : 2 ≤ n) (hk : j + 1 ≤ J + 1) (hsz : n + J + 1 ≤ 35184372088832) (htop : 2147483648 ≤ top) (ht : top < 4294967296) (hx : next < 4294967296)
    (HTP : Hid (nth V (n - 1) = top)) (HNX : Hid (nth V (n - 2) = next)) (HLT : Hid (val (U'.drop (j + 1)) < val V)) (HHD : Hid (nth U' (j + n) * 4294967296 + nth U' (j + n - 1) = head)) (HG0 : Hid (head / top = g0)) (HR0 : Hid (head % top = r0))
    (hg0b : g0 ≤ 8589934592) (hr0b : r0 < top) :
    Code.wp Tryz.prog (Code.loop (Tryz.longLoop 1)) (LoopEnds 2 (fun a w' => ∃ (g q r : Nat) (u69 u70 u71 u72 u73 u74 u75 u76 u77 u78 u79 u80 u81 u82 u83 u84 u85 u86 u87 u88 u89 u90 u91 u92 u93 : Value), a = ⟨List.toArray (.slice (some ⟨gu, 0, none⟩) (n + J + 1) cu :: .slice (some ⟨bv, ov, none⟩) n cv :: c2 :: c3 :: c4 :: .int .i64 (n : Int) :: c6 :: .int .u64 (top : Int) :: .int .u64 (next : Int) :: .int .i64 (j : Int) :: c10 :: .int .u64 (g : Int) :: .int .u64 (r : Int) :: c13 :: c14 :: c15 :: c16 :: c17 :: c18 :: c19 :: c20 :: c21 :: c22 :: c23 :: c24 :: c25 :: c26 :: c27 :: c28 :: c29 :: c30 :: c31 :: c32 :: c33 :: c34 :: c35 :: c36 :: c37 :: c38 :: c39 :: c40 :: c41 :: c42 :: c43 :: c44 :: c45 :: c46 :: c47 :: c48 :: c49 :: c50 :: c51 :: c52 :: c53 :: c54 :: c55 :: c56 :: c57 :: c58 :: c59 :: c60 :: c61 :: c62 :: c63 :: c64 :: c65 :: c66 :: c67 :: c68 :: u69 :: u70 :: u71 :: u72 :: u73 :: u74 :: u75 :: u76 :: u77 :: u78 :: u79 :: u80 :: u81 :: u82 :: u83 :: u84 :: u85 :: u86 :: u87 :: u88 :: u89 :: u90 :: u91 :: u92 :: u93 :: c94 :: c95 :: c96 :: c97 :: c98 :: c99 :: c100 :: c101 :: c102 :: c103 :: c104 :: c105 :: c106 :: c107 :: c108 :: c109 :: c110 :: c111 :: c112 :: c113 :: c114 :: c115 :: c116 :: c117 :: c118 :: c119 :: c120 :: c121 :: c122 :: c123 :: c124 :: c125 :: c126 :: c127 :: c128 :: c129 :: c130 :: c131 :: c132 :: c133 :: c134 :: c135 :: c136 :: c137 :: c138 :: c139 :: c140 :: c141 :: c142 :: c143 :: c144 :: c145 :: c146 :: c147 :: c148 :: c149 :: c150 :: c151 :: c152 :: c153 :: c154 :: c155 :: c156 :: c157 :: c158 :: c159 :: c160 :: c161 :: c162 :: c163 :: c164 :: c165 :: c166 :: c167 :: c168 :: c169 :: c170 :: c171 :: c172 :: c173 :: c174 :: c175 :: c176 :: c177 :: c178 :: c179 :: c180 :: c181 :: c182 :: c183 :: c184 :: c185 :: c186 :: c187 :: c188 :: c189 :: c190 :: c191 :: c192 :: c193 :: []), []⟩ ∧ w' = w4.drewN q ∧ Hid (g < 4294967296 ∧ win U' j (n + 1) / val V ≤ g ∧ g ≤ win U' j (n + 1) / val V + 1))) ⟨List.toArray (.slice (some ⟨gu, 0, none⟩) (n + J + 1) cu :: .slice (some ⟨bv, ov, none⟩) n cv :: c2 :: c3 :: c4 :: .int .i64 (n : Int) :: c6 :: .int .u64 (top : Int) :: .int .u64 (next : Int) :: .int .i64 (j : Int) :: c10 :: .int .u64 (g0 : Int) :: .int .u64 (r0 : Int) :: c13 :: c14 :: c15 :: c16 :: c17 :: c18 :: c19 :: c20 :: c21 :: c22 :: c23 :: c24 :: c25 :: c26 :: c27 :: c28 :: c29 :: c30 :: c31 :: c32 :: c33 :: c34 :: c35 :: c36 :: c37 :: c38 :: c39 :: c40 :: c41 :: c42 :: c43 :: c44 :: c45 :: c46 :: c47 :: c48 :: c49 :: c50 :: c51 :: c52 :: c53 :: c54 :: c55 :: c56 :: c57 :: c58 :: c59 :: c60 :: c61 :: c62 :: c63 :: c64 :: c65 :: c66 :: c67 :: c68 :: c69 :: c70 :: c71 :: c72 :: c73 :: c74 :: c75 :: c76 :: c77 :: c78 :: c79 :: c80 :: c81 :: c82 :: c83 :: c84 :: c85 :: c86 :: c87 :: c88 :: c89 :: c90 :: c91 :: c92 :: c93 :: c94 :: c95 :: c96 :: c97 :: c98 :: c99 :: c100 :: c101 :: c102 :: c103 :: c104 :: c105 :: c106 :: c107 :: c108 :: c109 :: c110 :: c111 :: c112 :: c113 :: c114 :: c115 :: c116 :: c117 :: c118 :: c119 :: c120 :: c121 :: c122 :: c123 :: c124 :: c125 :: c126 :: c127 :: c128 :: c129 :: c130 :: c131 :: c132 :: c133 :: c134 :: c135 :: c136 :: c137 :: c138 :: c139 :: c140 :: c141 :: c142 :: c143 :: c144 :: c145 :: c146 :: c147 :: c148 :: c149 :: c150 :: c151 :: c152 :: c153 :: c154 :: c155 :: c156 :: c157 :: c158 :: c159 :: c160 :: c161 :: c162 :: c163 :: c164 :: c165 :: c166 :: c167 :: c168 :: c169 :: c170 :: c171 :: c172 :: c173 :: c174 :: c175 :: c176 :: c177 :: c178 :: c179 :: c180 :: c181 :: c182 :: c183 :: c184 :: c185 :: c186 :: c187 :: c188 :: c189 :: c190 :: c191 :: c192 :: c193 :: []), []⟩ w4 := by
  obtain ⟨hWB, hUt, P, v', w', hP, hv', hw', hVe, hWe⟩ := long_data hn2 hu4.lim hvl hvn HLT.out
  have HVE := Lib.hid hVe
  have HWE := Lib.hid hWe
  rw [HTP.out, HNX.out] at HVE
  rw [HHD.out] at HWE
  have hc3 := hu4.cell (j + n - 2) (by omega)
  have hb3 := nth_lt hu4.lim (j + n - 2)
  generalize nth U' (j + n - 2) = u2 at hc3 hb3 HWE
  have HE0 := Lib.hid (est_start HVE.out HWE.out hw' hb3 (by omega) hP)
  rw [HG0.out, HR0.out] at HE0
  have HQ := Lib.hid ((Nat.div_lt_iff_lt_mul (Nat.lt_of_le_of_lt (Nat.zero_le _) HLT.out)).2 hWB)
  have HHB := Lib.hid (show head < top * 4294967296 + 4294967296 by
    have h1 := HHD.out
    have h2 := HTP.out
    have h3 := nth_lt hu4.lim (j + n - 1)
    rw [h2] at hUt
    omega)
  clear hWB hUt hVe hWe
  conv => arg 2; arg 1; whnf
  go_loopg [11, 12] g0 (fun k gv rv wr => ∃ (r q : Nat), gv = .int .u64 k ∧ rv = .int .u64 r ∧ wr = w4.drewN q ∧ Hid (Est (win U' j (n + 1)) (val V) head u2 top next P k r) ∧ k ≤ 8589934592 ∧ r < 8589934592)
  case atStart => exact ⟨r0, 0, rfl, rfl, rfl, HE0, hg0b, by omega⟩
  case round =>
    obtain ⟨r, q, rfl, rfl, rfl, HE, hkb, hrb⟩ := hrel
    by_cases hr1 : r < 4294967296
    · have hd1 : decide ((r : Int) < 4294967296) = true := by simp; omega
      have hd1' : decide (r < 4294967296) = true := by simp; omega
      by_cases hg1 : 4294967296 ≤ gk
      · have hs := est_step HVE.out HWE.out hw' (by omega) hP HQ.out HE.out (.inl hg1)
        have HS := Lib.hid hs.2
        have hd2 : decide ((4294967296 : Int) ≤ (gk : Int)) = true := by simp; omega
        have hd2' : decide (4294967296 ≤ gk) = true := by simp; omega
        clear hs
        go_wp2
        go_roundg (gk - 1)
        case measure => omega
        case rel => exact ⟨r + top, q, by go_num, by go_num, rfl, HS, by omega, by omega⟩
      · have hd2 : decide ((4294967296 : Int) ≤ (gk : Int)) = false := by simp; omega
        have hd2' : decide (4294967296 ≤ gk) = false := by simp; omega
        obtain ⟨p, hp⟩ : ∃ p, gk * next = p := ⟨_, rfl⟩
        have hpb : p ≤ 18446744065119617025 := by
          rw [← hp]
          exact Nat.mul_le_mul (show gk ≤ 4294967295 by omega) (show next ≤ 4294967295 by omega)
        have hpi : (gk : Int) * (next : Int) = (p : Int) := by rw [← hp]; exact (Int.natCast_mul _ _).symm
        have hor := or_join32 r u2 hr1 hb3
        obtain ⟨sm, hsm⟩ : ∃ s, r * 4294967296 + u2 = s := ⟨_, rfl⟩
        rw [hsm] at hor
        have HP' := Lib.hid hp
        have HSM := Lib.hid hsm
        clear hp hsm
        by_cases hcmp : sm < p
        · have hd3 : decide (sm < p) = true := by simpa using hcmp
          have hs := est_step HVE.out HWE.out hw' (by omega) hP HQ.out HE.out (.inr (by rw [HSM.out, HP'.out]; exact hcmp))
          have HS := Lib.hid hs.2
          have hgp := hs.1
          clear hs
          go_wp2
          go_roundg (gk - 1)
          case measure => omega
          case rel => exact ⟨r + top, q, by go_num, by go_num, rfl, HS, by omega, by omega⟩
        · have hd3 : decide (sm < p) = false := by simpa using hcmp
          have HF := Lib.hid (est_end HVE.out HWE.out hv' htop hP HHB.out hx HE.out (.inr ⟨by omega, by rw [HSM.out, HP'.out]; omega⟩))
          go_wp2
          refine ⟨rfl, ?_⟩; (repeat apply Exists.intro); exact ⟨rfl, rfl, Lib.hid ⟨HF.out.1, HE.out.ge, HF.out.2⟩⟩
    · have hd1 : decide ((r : Int) < 4294967296) = false := by simp; omega
      have hd1' : decide (r < 4294967296) = false := by simp; omega
      have HF := Lib.hid (est_end HVE.out HWE.out hv' htop hP HHB.out hx HE.out (.inl (by omega)))
      go_wp2
      refine ⟨rfl, ?_⟩; (repeat apply Exists.intro); exact ⟨rfl, rfl, Lib.hid ⟨HF.out.1, HE.out.ge, HF.out.2⟩⟩

end Go.Proofs.YtekcpapkicmckaaGreatDoor

namespace Go.Proofs.YtekcpapkicmckaaGreatDoor
open Go.RowKit

set_option maxHeartbeats 4000000 in
set_option maxRecDepth 100000 in
theorem long_addback (gu n J cu bv ov cv base j : Nat) (U3 V Qs : List Nat) (w w5 : World) (c2 c3 c4 c7 c8 c10 c11 c12 c13 c14 c15 c17 c18 c19 c20 c21 c22 c23 c24 c25 c26 c27 c28 c29 c30 c31 c32 c33 c34 c35 c36 c37 c38 c39 c40 c41 c42 c43 c44 c45 c46 c47 c48 c49 c50 c51 c52 c53 c54 c55 c56 c57 c58 c59 c60 c61 c62 c63 c64 c65 c66 c67 c68 c69 c70 c71 c72 c73 c74 c75 c76 c77 c78 c79 c80 c81 c82 c83 c84 c85 c86 c87 c88 c89 c90 c91 c92 c93 c94 c95 c96 c97 c98 c99 c100 c101 c102 c103 c104 c105 c106 c107 c108 c109 c110 c111 c112 c113 c114 c115 c116 c117 c118 c119 c120 c121 c122 c123 c124 c125 c126 c127 c128 c129 c130 c131 c132 c133 c134 c135 c136 c137 c138 c139 c140 c141 c142 c143 c144 c145 c146 c147 c148 c149 c150 c151 c152 c153 c154 c155 c156 c157 c158 c161 c162 c163 c164 c165 c166 c167 c168 c169 c170 c171 c172 c173 c174 c175 c176 c177 c178 c179 c180 c181 c182 c183 c184 c185 c186 c187 c188 c189 c190 c191 c192 c193 : Value)
    (hu5 : Own w5 base (some ⟨gu, 0, none⟩) (n + J + 1) cu U3) (hq5 : Own w5 w.heap.size (some ⟨w.heap.size, 0, none⟩) (J + 1) (J + 1) Qs) (hg5 : w.grownBy w5 (some gu)) (hgu : gu < w.heap.size)
    (hvlim : Lim V) (hvc : ∀ j, j < n → w.cell? ⟨bv, ov + j, none⟩ = some (.int .u32 (nth V j : Nat))) (hne : bv ≠ gu) (hn2 : 2 ≤ n) (hk : j + 1 ≤ J + 1) (hsz : n + J + 1 ≤ 35184372088832) :
    Code.wp Tryz.prog (Code.loop (Tryz.longLoop 3)) (LoopEnds 7 (fun a w' => ∃ (c : Nat) (U4 : List Nat) (u17 u161 u162 u163 u164 u165 u166 u167 u168 u169 u170 u171 u172 u173 u174 u175 u176 u177 u178 u179 u180 u181 u182 u183 : Value), a = ⟨List.toArray (.slice (some ⟨gu, 0, none⟩) (n + J + 1) cu :: .slice (some ⟨bv, ov, none⟩) n cv :: c2 :: c3 :: c4 :: .int .i64 (n : Int) :: .slice (some ⟨w.heap.size, 0, none⟩) (J + 1) (J + 1) :: c7 :: c8 :: .int .i64 (j : Int) :: c10 :: c11 :: c12 :: c13 :: c14 :: c15 :: .int .u32 (c : Int) :: u17 :: c18 :: c19 :: c20 :: c21 :: c22 :: c23 :: c24 :: c25 :: c26 :: c27 :: c28 :: c29 :: c30 :: c31 :: c32 :: c33 :: c34 :: c35 :: c36 :: c37 :: c38 :: c39 :: c40 :: c41 :: c42 :: c43 :: c44 :: c45 :: c46 :: c47 :: c48 :: c49 :: c50 :: c51 :: c52 :: c53 :: c54 :: c55 :: c56 :: c57 :: c58 :: c59 :: c60 :: c61 :: c62 :: c63 :: c64 :: c65 :: c66 :: c67 :: c68 :: c69 :: c70 :: c71 :: c72 :: c73 :: c74 :: c75 :: c76 :: c77 :: c78 :: c79 :: c80 :: c81 :: c82 :: c83 :: c84 :: c85 :: c86 :: c87 :: c88 :: c89 :: c90 :: c91 :: c92 :: c93 :: c94 :: c95 :: c96 :: c97 :: c98 :: c99 :: c100 :: c101 :: c102 :: c103 :: c104 :: c105 :: c106 :: c107 :: c108 :: c109 :: c110 :: c111 :: c112 :: c113 :: c114 :: c115 :: c116 :: c117 :: c118 :: c119 :: c120 :: c121 :: c122 :: c123 :: c124 :: c125 :: c126 :: c127 :: c128 :: c129 :: c130 :: c131 :: c132 :: c133 :: c134 :: c135 :: c136 :: c137 :: c138 :: c139 :: c140 :: c141 :: c142 :: c143 :: c144 :: c145 :: c146 :: c147 :: c148 :: c149 :: c150 :: c151 :: c152 :: c153 :: c154 :: c155 :: c156 :: c157 :: c158 :: .int .i64 (n : Int) :: .int .i64 (n : Int) :: u161 :: u162 :: u163 :: u164 :: u165 :: u166 :: u167 :: u168 :: u169 :: u170 :: u171 :: u172 :: u173 :: u174 :: u175 :: u176 :: u177 :: u178 :: u179 :: u180 :: u181 :: u182 :: u183 :: c184 :: c185 :: c186 :: c187 :: c188 :: c189 :: c190 :: c191 :: c192 :: c193 :: []), []⟩ ∧ c ≤ 1 ∧ Own w' base (some ⟨gu, 0, none⟩) (n + J + 1) cu U4 ∧ Own w' w.heap.size (some ⟨w.heap.size, 0, none⟩) (J + 1) (J + 1) Qs ∧ w.grownBy w' (some gu) ∧
      Hid ((∀ t, t < j ∨ j + n ≤ t → nth U4 t = nth U3 t) ∧ win U4 j n + c * 4294967296 ^ n = win U3 j n + win V 0 n))) ⟨List.toArray (.slice (some ⟨gu, 0, none⟩) (n + J + 1) cu :: .slice (some ⟨bv, ov, none⟩) n cv :: c2 :: c3 :: c4 :: .int .i64 (n : Int) :: .slice (some ⟨w.heap.size, 0, none⟩) (J + 1) (J + 1) :: c7 :: c8 :: .int .i64 (j : Int) :: c10 :: c11 :: c12 :: c13 :: c14 :: c15 :: .int .u32 0 :: c17 :: c18 :: c19 :: c20 :: c21 :: c22 :: c23 :: c24 :: c25 :: c26 :: c27 :: c28 :: c29 :: c30 :: c31 :: c32 :: c33 :: c34 :: c35 :: c36 :: c37 :: c38 :: c39 :: c40 :: c41 :: c42 :: c43 :: c44 :: c45 :: c46 :: c47 :: c48 :: c49 :: c50 :: c51 :: c52 :: c53 :: c54 :: c55 :: c56 :: c57 :: c58 :: c59 :: c60 :: c61 :: c62 :: c63 :: c64 :: c65 :: c66 :: c67 :: c68 :: c69 :: c70 :: c71 :: c72 :: c73 :: c74 :: c75 :: c76 :: c77 :: c78 :: c79 :: c80 :: c81 :: c82 :: c83 :: c84 :: c85 :: c86 :: c87 :: c88 :: c89 :: c90 :: c91 :: c92 :: c93 :: c94 :: c95 :: c96 :: c97 :: c98 :: c99 :: c100 :: c101 :: c102 :: c103 :: c104 :: c105 :: c106 :: c107 :: c108 :: c109 :: c110 :: c111 :: c112 :: c113 :: c114 :: c115 :: c116 :: c117 :: c118 :: c119 :: c120 :: c121 :: c122 :: c123 :: c124 :: c125 :: c126 :: c127 :: c128 :: c129 :: c130 :: c131 :: c132 :: c133 :: c134 :: c135 :: c136 :: c137 :: c138 :: c139 :: c140 :: c141 :: c142 :: c143 :: c144 :: c145 :: c146 :: c147 :: c148 :: c149 :: c150 :: c151 :: c152 :: c153 :: c154 :: c155 :: c156 :: c157 :: c158 :: .int .i64 (n : Int) :: .int .i64 0 :: c161 :: c162 :: c163 :: c164 :: c165 :: c166 :: c167 :: c168 :: c169 :: c170 :: c171 :: c172 :: c173 :: c174 :: c175 :: c176 :: c177 :: c178 :: c179 :: c180 :: c181 :: c182 :: c183 :: c184 :: c185 :: c186 :: c187 :: c188 :: c189 :: c190 :: c191 :: c192 :: c193 :: []), []⟩ w5 := by
  conv => arg 2; arg 1; whnf
  go_loopg [16, 160] n (fun k cv iv wr => ∃ (i c : Nat) (U4 : List Nat), i + k = n ∧ iv = .int .i64 i ∧ cv = .int .u32 c ∧ c ≤ 1 ∧
    Own wr base (some ⟨gu, 0, none⟩) (n + J + 1) cu U4 ∧ Own wr w.heap.size (some ⟨w.heap.size, 0, none⟩) (J + 1) (J + 1) Qs ∧ w.grownBy wr (some gu) ∧
    Hid ((∀ t, t < j ∨ j + i ≤ t → nth U4 t = nth U3 t) ∧ win U4 j i + c * 4294967296 ^ i = win U3 j i + win V 0 i))
  case atStart => exact ⟨0, 0, U3, by omega, rfl, rfl, by omega, hu5, hq5, hg5, Lib.hid ⟨fun _ _ => rfl, by simp [win_zero]⟩⟩
  case round =>
    obtain ⟨i, c, U4, hik, rfl, rfl, hc, hu6, hq6, hg6, HI⟩ := hrel
    clear hu5 hq5 hg5
    by_cases hin : i < n
    · have hcv : wr.cell? ⟨bv, ov + i, none⟩ = some (.int .u32 (nth V i : Nat)) := hg6.cell (hvc i hin) (by simpa using hne)
      have hvb := nth_lt hvlim i
      obtain ⟨vi, hvi⟩ : ∃ t, nth V i = t := ⟨_, rfl⟩
      rw [hvi] at hcv hvb
      have HVI := Lib.hid hvi
      have hcu := hu6.cell (j + i) (by omega)
      have hfu := hu6.free (j + i)
      have hub := nth_lt hu6.lim (j + i)
      obtain ⟨ui, hui⟩ : ∃ t, nth U4 (j + i) = t := ⟨_, rfl⟩
      rw [hui] at hcu hub
      have HUI := Lib.hid ((HI.out.1 (j + i) (.inr (Nat.le_refl _))).symm.trans hui)
      clear hui hvi
      have hadd := fun W => Add32_still ui vi c W hub hvb hc
      obtain ⟨lo, hlo⟩ : ∃ t, (ui + vi + c) % 4294967296 = t := ⟨_, rfl⟩
      obtain ⟨hi, hhi⟩ : ∃ t, (ui + vi + c) / 4294967296 = t := ⟨_, rfl⟩
      have hlob : lo < 4294967296 := by omega
      have hhib : hi ≤ 1 := by omega
      have hsum : lo + hi * 4294967296 = ui + vi + c := by omega
      rw [hlo, hhi] at hadd
      have i1 : IntKind.i64.wrap ((i : Int) + j) = (i : Int) + j := IntWalk.i64_in _ (by omega)
      have i2 : ((i : Int) + j).toNat = j + i := by omega
      have i3 : (0 : Int) ≤ (i : Int) + j := by omega
      have i4 : (i : Int) + j < (n : Int) + J + 1 := by omega
      have i5 : (i : Int) < (n : Int) := by omega
      have hgne : w.heap.size ≠ gu := by omega
      have hA := hu6.stored (j + i) lo (by omega) hlob
      have hB := hq6.kept (setCell_grownBy wr gu (j + i) (.int .u32 (lo : Nat))) (.inr (by simpa [blockOf] using hgne))
      have hC := hg6.trans (setCell_grownBy wr gu (j + i) (.int .u32 (lo : Nat)))
      have HN := Lib.hid (add_step (x := lo) (c' := hi) HI.out.2 (by rw [HVI.out, HUI.out]; exact hsum) (show j + i < U4.length by rw [hu6.len]; omega))
      have HO : Hid (∀ t, t < j ∨ j + (i + 1) ≤ t → nth (U4.set (j + i) lo) t = nth U3 t) := Lib.hid (fun t ht => by rw [nth_set_ne (by omega)]; exact HI.out.1 t (by omega))
      have HADD := Lib.hid hadd
      clear hlo hhi hsum hadd HI hvc
      go_wp2
      go_region_with (first | (go_at_call 249; refine (HADD.out _).mono ?_; rintro e w' ⟨rfl, rfl⟩))
      all_goals
        go_wp2
        go_roundg (gk - 1)
        case measure => omega
        case rel => exact ⟨i + 1, hi, _, by omega, by go_num, rfl, hhib, by first | exact hA | exact hA.drew, by first | exact hB | exact hB.drew, by first | exact hC | exact grownBy_drew hC, Lib.hid ⟨HO.out, HN.out⟩⟩
    · obtain rfl : i = n := by omega
      go_wp2
      refine ⟨rfl, ?_⟩; (repeat apply Exists.intro); exact ⟨rfl, hc, hu6, hq6, hg6, HI⟩

end Go.Proofs.YtekcpapkicmckaaGreatDoor

namespace Go.Proofs.YtekcpapkicmckaaGreatDoor
open Go.RowKit

set_option maxHeartbeats 4000000 in
set_option maxRecDepth 100000 in
theorem long_mulsub (gu n J cu bv ov cv base j g : Nat) (U' V Qs : List Nat) (w w5 : World) (c2 c3 c4 c7 c8 c10 c12 c15 c16 c17 c18 c19 c20 c21 c22 c23 c24 c25 c26 c27 c28 c29 c30 c31 c32 c33 c34 c35 c36 c37 c38 c39 c40 c41 c42 c43 c44 c45 c46 c47 c48 c49 c50 c51 c52 c53 c54 c55 c56 c57 c58 c59 c60 c61 c62 c63 c64 c65 c66 c67 c68 c69 c70 c71 c72 c73 c74 c75 c76 c77 c78 c79 c80 c81 c82 c83 c84 c85 c86 c87 c88 c89 c90 c91 c92 c93 c96 c97 c98 c99 c100 c101 c102 c103 c104 c105 c106 c107 c108 c109 c110 c111 c112 c113 c114 c115 c116 c117 c118 c119 c120 c121 c122 c123 c124 c125 c126 c127 c128 c129 c130 c131 c132 c133 c134 c135 c136 c137 c138 c139 c140 c141 c142 c143 c144 c145 c146 c147 c148 c149 c150 c151 c152 c153 c154 c155 c156 c157 c158 c159 c160 c161 c162 c163 c164 c165 c166 c167 c168 c169 c170 c171 c172 c173 c174 c175 c176 c177 c178 c179 c180 c181 c182 c183 c184 c185 c186 c187 c188 c189 c190 c191 c192 c193 : Value)
    (hu5 : Own w5 base (some ⟨gu, 0, none⟩) (n + J + 1) cu U') (hq5 : Own w5 w.heap.size (some ⟨w.heap.size, 0, none⟩) (J + 1) (J + 1) Qs) (hg5 : w.grownBy w5 (some gu)) (hgu : gu < w.heap.size)
    (hvlim : Lim V) (hvc : ∀ j, j < n → w.cell? ⟨bv, ov + j, none⟩ = some (.int .u32 (nth V j : Nat))) (hne : bv ≠ gu) (hn2 : 2 ≤ n) (hk : j + 1 ≤ J + 1) (hsz : n + J + 1 ≤ 35184372088832) (hgb : g < 4294967296) :
    Code.wp Tryz.prog (Code.loop (Tryz.longLoop 2)) (LoopEnds 5 (fun a w' => ∃ (cr bo : Nat) (U2 : List Nat) (u15 u96 u97 u98 u99 u100 u101 u102 u103 u104 u105 u106 u107 u108 u109 u110 u111 u112 u113 u114 u115 u116 u117 u118 u119 u120 u121 u122 u123 u124 u125 u126 u127 : Value), a = ⟨List.toArray (.slice (some ⟨gu, 0, none⟩) (n + J + 1) cu :: .slice (some ⟨bv, ov, none⟩) n cv :: c2 :: c3 :: c4 :: .int .i64 (n : Int) :: .slice (some ⟨w.heap.size, 0, none⟩) (J + 1) (J + 1) :: c7 :: c8 :: .int .i64 (j : Int) :: c10 :: .int .u64 (g : Int) :: c12 :: .int .u64 (cr : Int) :: .int .u32 (bo : Int) :: u15 :: c16 :: c17 :: c18 :: c19 :: c20 :: c21 :: c22 :: c23 :: c24 :: c25 :: c26 :: c27 :: c28 :: c29 :: c30 :: c31 :: c32 :: c33 :: c34 :: c35 :: c36 :: c37 :: c38 :: c39 :: c40 :: c41 :: c42 :: c43 :: c44 :: c45 :: c46 :: c47 :: c48 :: c49 :: c50 :: c51 :: c52 :: c53 :: c54 :: c55 :: c56 :: c57 :: c58 :: c59 :: c60 :: c61 :: c62 :: c63 :: c64 :: c65 :: c66 :: c67 :: c68 :: c69 :: c70 :: c71 :: c72 :: c73 :: c74 :: c75 :: c76 :: c77 :: c78 :: c79 :: c80 :: c81 :: c82 :: c83 :: c84 :: c85 :: c86 :: c87 :: c88 :: c89 :: c90 :: c91 :: c92 :: c93 :: .int .i64 (n : Int) :: .int .i64 (n : Int) :: u96 :: u97 :: u98 :: u99 :: u100 :: u101 :: u102 :: u103 :: u104 :: u105 :: u106 :: u107 :: u108 :: u109 :: u110 :: u111 :: u112 :: u113 :: u114 :: u115 :: u116 :: u117 :: u118 :: u119 :: u120 :: u121 :: u122 :: u123 :: u124 :: u125 :: u126 :: u127 :: c128 :: c129 :: c130 :: c131 :: c132 :: c133 :: c134 :: c135 :: c136 :: c137 :: c138 :: c139 :: c140 :: c141 :: c142 :: c143 :: c144 :: c145 :: c146 :: c147 :: c148 :: c149 :: c150 :: c151 :: c152 :: c153 :: c154 :: c155 :: c156 :: c157 :: c158 :: c159 :: c160 :: c161 :: c162 :: c163 :: c164 :: c165 :: c166 :: c167 :: c168 :: c169 :: c170 :: c171 :: c172 :: c173 :: c174 :: c175 :: c176 :: c177 :: c178 :: c179 :: c180 :: c181 :: c182 :: c183 :: c184 :: c185 :: c186 :: c187 :: c188 :: c189 :: c190 :: c191 :: c192 :: c193 :: []), []⟩ ∧ cr < 4294967296 ∧ bo ≤ 1 ∧ Own w' base (some ⟨gu, 0, none⟩) (n + J + 1) cu U2 ∧ Own w' w.heap.size (some ⟨w.heap.size, 0, none⟩) (J + 1) (J + 1) Qs ∧ w.grownBy w' (some gu) ∧
      Hid ((∀ t, t < j ∨ j + n ≤ t → nth U2 t = nth U' t) ∧ win U2 j n + g * win V 0 n = win U' j n + (cr + bo) * 4294967296 ^ n))) ⟨List.toArray (.slice (some ⟨gu, 0, none⟩) (n + J + 1) cu :: .slice (some ⟨bv, ov, none⟩) n cv :: c2 :: c3 :: c4 :: .int .i64 (n : Int) :: .slice (some ⟨w.heap.size, 0, none⟩) (J + 1) (J + 1) :: c7 :: c8 :: .int .i64 (j : Int) :: c10 :: .int .u64 (g : Int) :: c12 :: .int .u64 0 :: .int .u32 0 :: c15 :: c16 :: c17 :: c18 :: c19 :: c20 :: c21 :: c22 :: c23 :: c24 :: c25 :: c26 :: c27 :: c28 :: c29 :: c30 :: c31 :: c32 :: c33 :: c34 :: c35 :: c36 :: c37 :: c38 :: c39 :: c40 :: c41 :: c42 :: c43 :: c44 :: c45 :: c46 :: c47 :: c48 :: c49 :: c50 :: c51 :: c52 :: c53 :: c54 :: c55 :: c56 :: c57 :: c58 :: c59 :: c60 :: c61 :: c62 :: c63 :: c64 :: c65 :: c66 :: c67 :: c68 :: c69 :: c70 :: c71 :: c72 :: c73 :: c74 :: c75 :: c76 :: c77 :: c78 :: c79 :: c80 :: c81 :: c82 :: c83 :: c84 :: c85 :: c86 :: c87 :: c88 :: c89 :: c90 :: c91 :: c92 :: c93 :: .int .i64 (n : Int) :: .int .i64 0 :: c96 :: c97 :: c98 :: c99 :: c100 :: c101 :: c102 :: c103 :: c104 :: c105 :: c106 :: c107 :: c108 :: c109 :: c110 :: c111 :: c112 :: c113 :: c114 :: c115 :: c116 :: c117 :: c118 :: c119 :: c120 :: c121 :: c122 :: c123 :: c124 :: c125 :: c126 :: c127 :: c128 :: c129 :: c130 :: c131 :: c132 :: c133 :: c134 :: c135 :: c136 :: c137 :: c138 :: c139 :: c140 :: c141 :: c142 :: c143 :: c144 :: c145 :: c146 :: c147 :: c148 :: c149 :: c150 :: c151 :: c152 :: c153 :: c154 :: c155 :: c156 :: c157 :: c158 :: c159 :: c160 :: c161 :: c162 :: c163 :: c164 :: c165 :: c166 :: c167 :: c168 :: c169 :: c170 :: c171 :: c172 :: c173 :: c174 :: c175 :: c176 :: c177 :: c178 :: c179 :: c180 :: c181 :: c182 :: c183 :: c184 :: c185 :: c186 :: c187 :: c188 :: c189 :: c190 :: c191 :: c192 :: c193 :: []), []⟩ w5 := by
  conv => arg 2; arg 1; whnf
  go_loopg [13, 14, 95] n (fun k cv bv' iv wr => ∃ (i cr bo : Nat) (U2 : List Nat), i + k = n ∧ iv = .int .i64 i ∧ cv = .int .u64 cr ∧ bv' = .int .u32 bo ∧ cr < 4294967296 ∧ bo ≤ 1 ∧
    Own wr base (some ⟨gu, 0, none⟩) (n + J + 1) cu U2 ∧ Own wr w.heap.size (some ⟨w.heap.size, 0, none⟩) (J + 1) (J + 1) Qs ∧ w.grownBy wr (some gu) ∧
    Hid ((∀ t, t < j ∨ j + i ≤ t → nth U2 t = nth U' t) ∧ win U2 j i + g * win V 0 i = win U' j i + (cr + bo) * 4294967296 ^ i))
  case atStart => exact ⟨0, 0, 0, U', by omega, rfl, rfl, rfl, by omega, by omega, hu5, hq5, hg5, Lib.hid ⟨fun _ _ => rfl, by simp [win_zero]⟩⟩
  case round =>
    obtain ⟨i, cr, bo, U2, hik, rfl, rfl, rfl, hcr, hbo, hu6, hq6, hg6, HI⟩ := hrel
    clear hu5 hq5 hg5
    by_cases hin : i < n
    · have hcv : wr.cell? ⟨bv, ov + i, none⟩ = some (.int .u32 (nth V i : Nat)) := hg6.cell (hvc i hin) (by simpa using hne)
      have hvb := nth_lt hvlim i
      obtain ⟨vi, hvi⟩ : ∃ t, nth V i = t := ⟨_, rfl⟩
      rw [hvi] at hcv hvb
      have HVI := Lib.hid hvi
      obtain ⟨p, hp⟩ : ∃ p, g * vi = p := ⟨_, rfl⟩
      have hpb : p ≤ 18446744065119617025 := by
        rw [← hp]
        exact Nat.mul_le_mul (show g ≤ 4294967295 by omega) (show vi ≤ 4294967295 by omega)
      have hpi : (g : Int) * (vi : Int) = (p : Int) := by rw [← hp]; exact (Int.natCast_mul _ _).symm
      have HP' := Lib.hid hp
      clear hvi hp
      have hcu := hu6.cell (j + i) (by omega)
      have hfu := hu6.free (j + i)
      have hub := nth_lt hu6.lim (j + i)
      obtain ⟨ui, hui⟩ : ∃ t, nth U2 (j + i) = t := ⟨_, rfl⟩
      rw [hui] at hcu hub
      have HUI := Lib.hid ((HI.out.1 (j + i) (.inr (Nat.le_refl _))).symm.trans hui)
      clear hui
      obtain ⟨lo, hlo⟩ : ∃ t, (cr + p) % 4294967296 = t := ⟨_, rfl⟩
      obtain ⟨hi, hhi⟩ : ∃ t, (cr + p) / 4294967296 = t := ⟨_, rfl⟩
      have hlob : lo < 4294967296 := by omega
      have hhib : hi < 4294967296 := by omega
      have elo : ((cr : Int) + (p : Int)) % 4294967296 = (lo : Int) := by omega
      have ehi : ((cr : Int) + (p : Int)) / 4294967296 = (hi : Int) := by omega
      have hsb : (cr : Int) + (p : Int) < 18446744073709551616 := by omega
      have HSB := Lib.hid hsb
      have i1 : IntKind.i64.wrap ((i : Int) + j) = (i : Int) + j := IntWalk.i64_in _ (by omega)
      have i2 : ((i : Int) + j).toNat = j + i := by omega
      have i3 : (0 : Int) ≤ (i : Int) + j := by omega
      have i4 : (i : Int) + j < (n : Int) + J + 1 := by omega
      have hsub := fun W => Sub32_still ui lo bo W hub hlob hbo
      obtain ⟨hbs1, hbs2, hbs3⟩ := borr_spec ui lo bo hub hlob hbo
      generalize diff ui lo bo = df at hsub hbs1 hbs3
      generalize borr ui lo bo = bw at hsub hbs1 hbs2
      have hgne : w.heap.size ≠ gu := by omega
      have hA := hu6.stored (j + i) df (by omega) hbs3
      have hB := hq6.kept (setCell_grownBy wr gu (j + i) (.int .u32 (df : Nat))) (.inr (by simpa [blockOf] using hgne))
      have hC := hg6.trans (setCell_grownBy wr gu (j + i) (.int .u32 (df : Nat)))
      have HN := Lib.hid (sub_step (x := df) (b' := bw) HI.out.2 (by rw [HVI.out, HP'.out, hlo, HUI.out]; exact hbs1) (show j + i < U2.length by rw [hu6.len]; omega))
      rw [HVI.out, HP'.out, hhi] at HN
      have HO : Hid (∀ t, t < j ∨ j + (i + 1) ≤ t → nth (U2.set (j + i) df) t = nth U' t) := Lib.hid (fun t ht => by rw [nth_set_ne (by omega)]; exact HI.out.1 t (by omega))
      have HSUB := Lib.hid hsub
      have HE1 := Lib.hid elo
      clear hlo hhi hsb hbs1 hsub HI hvc
      go_wp2
      go_region_with (first | (go_at_call 102; refine (low_still _ lo _ (by omega) HSB.out HE1.out).mono ?_; rintro e w' ⟨rfl, rfl⟩) | (go_at_call 248; refine (HSUB.out _).mono ?_; rintro e w' ⟨rfl, rfl⟩))
      all_goals
        go_wp2_with (go_at_call 103; refine (high_int _ _ (by omega)).mono ?_; rintro e w' ⟨rfl, rfl⟩)
        go_roundg (gk - 1)
        case measure => omega
        case rel => exact ⟨i + 1, hi, bw, _, by omega, by go_num, rfl, rfl, hhib, hbs2, by first | exact hA | exact hA.drew, by first | exact hB | exact hB.drew, by first | exact hC | exact grownBy_drew hC, Lib.hid ⟨HO.out, HN.out⟩⟩
    · obtain rfl : i = n := by omega
      go_wp2
      refine ⟨rfl, ?_⟩; (repeat apply Exists.intro); exact ⟨rfl, hcr, hbo, hu6, hq6, hg6, HI⟩

end Go.Proofs.YtekcpapkicmckaaGreatDoor

namespace Go.Proofs.YtekcpapkicmckaaGreatDoor
open Go.RowKit

def Both (R : Act → World → Prop) : Exit → Act → World → Prop := fun e a w => match e with
  | .normal => R a w
  | .exit k => k = 1 ∧ R a w
  | _ => False
theorem both_then {P : Program} {R : Act → World → Prop} {Q : Exit → Act → World → Prop} {c : Code} {a : Act} {w : World} (h : c.wp P (Both R) a w) (k : ∀ e a' w', e = .normal ∨ e = .exit 1 → R a' w' → Q e a' w') : c.wp P Q a w :=
  Code.wp_mono (fun e a' w' hq => by
    cases e with
    | normal => exact k _ _ _ (.inl rfl) hq
    | exit n => obtain ⟨rfl, hr⟩ := hq; exact k _ _ _ (.inr rfl) hr
    | _ => exact hq.elim) h

set_option maxHeartbeats 4000000 in
set_option maxRecDepth 100000 in
theorem long_tail (gu n J cu bv ov cv base j g cr bo : Nat) (U' U2 V Q : List Nat) (w wr : World) (c2 c3 c4 c7 c8 c10 c12 c15 c16 c17 c18 c19 c20 c21 c22 c23 c24 c25 c26 c27 c28 c29 c30 c31 c32 c33 c34 c35 c36 c37 c38 c39 c40 c41 c42 c43 c44 c45 c46 c47 c48 c49 c50 c51 c52 c53 c54 c55 c56 c57 c58 c59 c60 c61 c62 c63 c64 c65 c66 c67 c68 c69 c70 c71 c72 c73 c74 c75 c76 c77 c78 c79 c80 c81 c82 c83 c84 c85 c86 c87 c88 c89 c90 c91 c92 c93 c94 c95 c96 c97 c98 c99 c100 c101 c102 c103 c104 c105 c106 c107 c108 c109 c110 c111 c112 c113 c114 c115 c116 c117 c118 c119 c120 c121 c122 c123 c124 c125 c126 c127 c128 c129 c130 c131 c132 c133 c134 c135 c136 c137 c138 c139 c140 c141 c142 c143 c144 c145 c146 c147 c148 c149 c150 c151 c152 c153 c154 c155 c156 c157 c158 c159 c160 c161 c162 c163 c164 c165 c166 c167 c168 c169 c170 c171 c172 c173 c174 c175 c176 c177 c178 c179 c180 c181 c182 c183 c184 c185 c186 c187 c188 c189 c190 c191 c192 c193 : Value)
    (hu6 : Own wr base (some ⟨gu, 0, none⟩) (n + J + 1) cu U2) (hq6 : Own wr w.heap.size (some ⟨w.heap.size, 0, none⟩) (J + 1) (J + 1) Q) (hg6 : w.grownBy wr (some gu)) (hgu : gu < w.heap.size)
    (HUlim : Lim U') (HUlen : U'.length = n + J + 1) (HVN : Hid (val V < 4294967296 ^ n)) (HVW : Hid (win V 0 n = val V)) (hvlim : Lim V) (HVlen : V.length = n) (hvc : Hid (∀ j, j < n → w.cell? ⟨bv, ov + j, none⟩ = some (.int .u32 (nth V j : Nat)))) (hne : bv ≠ gu)
    (hn2 : 2 ≤ n) (hk : j + 1 ≤ J + 1) (hsz : n + J + 1 ≤ 35184372088832) (hgb : g < 4294967296) (hcr : cr < 4294967296) (hbo : bo ≤ 1) (HLT : Hid (val (U'.drop (j + 1)) < val V)) (HQ0 : Hid (∀ i, i < j + 1 → nth Q i = 0))
    (HG : Hid (g < 4294967296 ∧ win U' j (n + 1) / val V ≤ g ∧ g ≤ win U' j (n + 1) / val V + 1))
    (HI : Hid ((∀ t, t < j ∨ j + n ≤ t → nth U2 t = nth U' t) ∧ win U2 j n + g * win V 0 n = win U' j n + (cr + bo) * 4294967296 ^ n)) :
    Code.wp Tryz.prog (Tryz.longAt [1,1,1,1,0,1,0,0,1,0,0,0,1,1,1,1,1,1,1]) (Both (fun a w' => ∃ (U5 Q5 : List Nat) (u14 u16 u17 u128 u129 u130 u131 u132 u133 u134 u135 u136 u137 u138 u139 u140 u141 u142 u143 u144 u145 u146 u147 u148 u149 u150 u151 u152 u153 u154 u155 u156 u157 u158 u159 u160 u161 u162 u163 u164 u165 u166 u167 u168 u169 u170 u171 u172 u173 u174 u175 u176 u177 u178 u179 u180 u181 u182 u183 u184 u185 u186 u187 u188 u189 u190 u191 u192 : Value), a = ⟨List.toArray (.slice (some ⟨gu, 0, none⟩) (n + J + 1) cu :: .slice (some ⟨bv, ov, none⟩) n cv :: c2 :: c3 :: c4 :: .int .i64 (n : Int) :: .slice (some ⟨w.heap.size, 0, none⟩) (J + 1) (J + 1) :: c7 :: c8 :: .int .i64 (j : Int) :: c10 :: .int .u64 (g : Int) :: c12 :: .int .u64 (cr : Int) :: u14 :: c15 :: u16 :: u17 :: c18 :: c19 :: c20 :: c21 :: c22 :: c23 :: c24 :: c25 :: c26 :: c27 :: c28 :: c29 :: c30 :: c31 :: c32 :: c33 :: c34 :: c35 :: c36 :: c37 :: c38 :: c39 :: c40 :: c41 :: c42 :: c43 :: c44 :: c45 :: c46 :: c47 :: c48 :: c49 :: c50 :: c51 :: c52 :: c53 :: c54 :: c55 :: c56 :: c57 :: c58 :: c59 :: c60 :: c61 :: c62 :: c63 :: c64 :: c65 :: c66 :: c67 :: c68 :: c69 :: c70 :: c71 :: c72 :: c73 :: c74 :: c75 :: c76 :: c77 :: c78 :: c79 :: c80 :: c81 :: c82 :: c83 :: c84 :: c85 :: c86 :: c87 :: c88 :: c89 :: c90 :: c91 :: c92 :: c93 :: c94 :: c95 :: c96 :: c97 :: c98 :: c99 :: c100 :: c101 :: c102 :: c103 :: c104 :: c105 :: c106 :: c107 :: c108 :: c109 :: c110 :: c111 :: c112 :: c113 :: c114 :: c115 :: c116 :: c117 :: c118 :: c119 :: c120 :: c121 :: c122 :: c123 :: c124 :: c125 :: c126 :: c127 :: u128 :: u129 :: u130 :: u131 :: u132 :: u133 :: u134 :: u135 :: u136 :: u137 :: u138 :: u139 :: u140 :: u141 :: u142 :: u143 :: u144 :: u145 :: u146 :: u147 :: u148 :: u149 :: u150 :: u151 :: u152 :: u153 :: u154 :: u155 :: u156 :: u157 :: u158 :: u159 :: u160 :: u161 :: u162 :: u163 :: u164 :: u165 :: u166 :: u167 :: u168 :: u169 :: u170 :: u171 :: u172 :: u173 :: u174 :: u175 :: u176 :: u177 :: u178 :: u179 :: u180 :: u181 :: u182 :: u183 :: u184 :: u185 :: u186 :: u187 :: u188 :: u189 :: u190 :: u191 :: u192 :: c193 :: []), []⟩ ∧
      Own w' base (some ⟨gu, 0, none⟩) (n + J + 1) cu U5 ∧ Own w' w.heap.size (some ⟨w.heap.size, 0, none⟩) (J + 1) (J + 1) Q5 ∧ w.grownBy w' (some gu) ∧
      Hid (val U5 + val Q5 * val V = val U' + val Q * val V ∧ val (U5.drop j) < val V ∧ ∀ i, i < j → nth Q5 i = 0))) ⟨List.toArray (.slice (some ⟨gu, 0, none⟩) (n + J + 1) cu :: .slice (some ⟨bv, ov, none⟩) n cv :: c2 :: c3 :: c4 :: .int .i64 (n : Int) :: .slice (some ⟨w.heap.size, 0, none⟩) (J + 1) (J + 1) :: c7 :: c8 :: .int .i64 (j : Int) :: c10 :: .int .u64 (g : Int) :: c12 :: .int .u64 (cr : Int) :: .int .u32 (bo : Int) :: c15 :: c16 :: c17 :: c18 :: c19 :: c20 :: c21 :: c22 :: c23 :: c24 :: c25 :: c26 :: c27 :: c28 :: c29 :: c30 :: c31 :: c32 :: c33 :: c34 :: c35 :: c36 :: c37 :: c38 :: c39 :: c40 :: c41 :: c42 :: c43 :: c44 :: c45 :: c46 :: c47 :: c48 :: c49 :: c50 :: c51 :: c52 :: c53 :: c54 :: c55 :: c56 :: c57 :: c58 :: c59 :: c60 :: c61 :: c62 :: c63 :: c64 :: c65 :: c66 :: c67 :: c68 :: c69 :: c70 :: c71 :: c72 :: c73 :: c74 :: c75 :: c76 :: c77 :: c78 :: c79 :: c80 :: c81 :: c82 :: c83 :: c84 :: c85 :: c86 :: c87 :: c88 :: c89 :: c90 :: c91 :: c92 :: c93 :: c94 :: c95 :: c96 :: c97 :: c98 :: c99 :: c100 :: c101 :: c102 :: c103 :: c104 :: c105 :: c106 :: c107 :: c108 :: c109 :: c110 :: c111 :: c112 :: c113 :: c114 :: c115 :: c116 :: c117 :: c118 :: c119 :: c120 :: c121 :: c122 :: c123 :: c124 :: c125 :: c126 :: c127 :: c128 :: c129 :: c130 :: c131 :: c132 :: c133 :: c134 :: c135 :: c136 :: c137 :: c138 :: c139 :: c140 :: c141 :: c142 :: c143 :: c144 :: c145 :: c146 :: c147 :: c148 :: c149 :: c150 :: c151 :: c152 :: c153 :: c154 :: c155 :: c156 :: c157 :: c158 :: c159 :: c160 :: c161 :: c162 :: c163 :: c164 :: c165 :: c166 :: c167 :: c168 :: c169 :: c170 :: c171 :: c172 :: c173 :: c174 :: c175 :: c176 :: c177 :: c178 :: c179 :: c180 :: c181 :: c182 :: c183 :: c184 :: c185 :: c186 :: c187 :: c188 :: c189 :: c190 :: c191 :: c192 :: c193 :: []), []⟩ wr := by
  conv => arg 2; whnf
  have hcu := hu6.cell (j + n) (by omega)
  have hfu := hu6.free (j + n)
  have hub := nth_lt hu6.lim (j + n)
  obtain ⟨ui, hui⟩ : ∃ t, nth U2 (j + n) = t := ⟨_, rfl⟩
  rw [hui] at hcu hub
  have hui' : nth U' (j + n) = ui := (HI.out.1 (j + n) (.inr (Nat.le_refl _))).symm.trans hui
  have hsub := fun W => Sub32_any ui cr bo W hub hcr hbo
  obtain ⟨hbs1, hbs2, hbs3⟩ := borr_spec ui cr bo hub hcr hbo
  generalize diff ui cr bo = df at hsub hbs1 hbs3
  generalize borr ui cr bo = bw at hsub hbs1 hbs2
  have HSUB := Lib.hid hsub
  have HN := Lib.hid (sub_last (x := df) (b' := bw) HI.out.2 (by rw [hui']; exact hbs1) (show j + n < U2.length by rw [hu6.len]; omega))
  have HO : Hid (∀ t, t < j ∨ j + n + 1 ≤ t → nth (U2.set (j + n) df) t = nth U' t) := Lib.hid (fun t ht => by rw [nth_set_ne (by omega)]; exact HI.out.1 t (by omega))
  have hgne : w.heap.size ≠ gu := by omega
  have hA := hu6.stored (j + n) df (by omega) hbs3
  have hB := hq6.kept (setCell_grownBy wr gu (j + n) (.int .u32 (df : Nat))) (.inr (by simpa [blockOf] using hgne))
  have hC := hg6.trans (setCell_grownBy wr gu (j + n) (.int .u32 (df : Nat)))
  rw [HVW.out] at HN
  clear hui hui' hsub hbs1 hq6 hg6 HI hu6
  generalize U2.set (j + n) df = U3 at hA HN HO
  have hcq := hB.cell j (by omega)
  have hfq := hB.free j
  have HVP := Lib.hid (Nat.lt_of_le_of_lt (Nat.zero_le _) HLT.out)
  have HQJ := Lib.hid (HQ0.out j (by omega))
  have hE0 : ∀ W, Own W base (some ⟨gu, 0, none⟩) (n + J + 1) cu U3 → ∀ (x : Nat), Own (W.setCell ⟨w.heap.size, j, none⟩ (.int .u32 (x : Nat))) base (some ⟨gu, 0, none⟩) (n + J + 1) cu U3 := fun W hW x => hW.kept (setCell_grownBy W w.heap.size j (.int .u32 (x : Nat))) (.inr (by simpa [blockOf] using hgne.symm))
  have hF0 : ∀ W, w.grownBy W (some gu) → ∀ (x : Nat), w.grownBy (W.setCell ⟨w.heap.size, j, none⟩ (.int .u32 (x : Nat))) (some gu) := fun W hW x =>
    ⟨hW.os, hW.tape, hW.output, by rw [setCell_size]; exact hW.size, fun k hk hne' => (setCell_other (by omega) _ _).trans (hW.block k hk hne')⟩
  have HE0 := Lib.hid hE0
  have HF0 := Lib.hid hF0
  clear hE0 hF0
  have HLAST : Hid (∀ (U5 : List Nat) (q : Nat), q ≤ g → U5.length = n + J + 1 → (∀ t, t < j ∨ j + n + 1 ≤ t → nth U5 t = nth U' t) → win U5 j (n + 1) + q * val V = win U' j (n + 1) → win U5 j (n + 1) < val V →
      val U5 + val (Q.set j q) * val V = val U' + val Q * val V ∧ val (U5.drop j) < val V ∧ ∀ i, i < j → nth (Q.set j q) i = 0) := Lib.hid (fun U5 q _ h1 h2 h3 h4 => by
    obtain ⟨a1, a2⟩ := long_step (Q := Q) (q := q) HUlim HVN.out (by rw [h1, HUlen]) (by rw [HUlen]; omega) HLT.out h2 h3 h4 HQJ.out (by rw [hB.len]; omega)
    exact ⟨a1, a2, fun i hi => by rw [nth_set_ne (by omega)]; exact HQ0.out i (by omega)⟩)
  rcases (show bw = 0 ∨ bw = 1 by omega) with rfl | rfl
  · have HR := Lib.hid (fin_sub HVP.out HG.out.2.1 (show win U3 j (n + 1) + g * val V = win U' j (n + 1) by rw [HN.out]; simp))
    have HST := Lib.hid (HLAST.out U3 g (Nat.le_refl _) (by rw [hA.len]) HO.out (by rw [HN.out]; simp) HR.out)
    have hD := hB.stored j g (by omega) hgb
    have hE := HE0.out _ hA g
    have hF := HF0.out _ hC g
    clear hA hB hC
    go_wp2_with (go_at_call 248; refine (HSUB.out _).mono ?_; rintro e w' ⟨rfl, rfl⟩)
    refine ⟨rfl, ?_⟩
    refine ⟨_, _, _, _, _, _, _, _, _, _, _, _, _, _, _, _, _, _, _, _, _, _, _, _, _, _, _, _, _, _, _, _, _, _, _, _, _, _, _, _, _, _, _, _, _, _, _, _, _, _, _, _, _, _, _, _, _, _, _, _, _, _, _, _, _, _, _, _, _, _, rfl, hE, hD, hF, HST⟩
  · have hg1 : 1 ≤ g := by
      rcases Nat.eq_zero_or_pos g with h0 | h0
      · exfalso
        have h1 := HN.out
        rw [h0] at h1
        have h2 := win_lt hA.lim j (n + 1)
        simp at h1
        omega
      · exact h0
    have hD0 := hB.stored j g (by omega) hgb
    have hE1 := HE0.out _ hA g
    have hF1 := HF0.out _ hC g
    have hcq1 := hD0.cell j (by omega)
    rw [nth_set_eq (by rw [hB.len]; omega)] at hcq1
    have hfq1 := hD0.free j
    have hD1 := hD0.stored j (g - 1) (by omega) (by omega)
    have hE2 := HE0.out _ hE1 (g - 1)
    have hF2 := HF0.out _ hF1 (g - 1)
    rw [List.set_set] at hD1
    rw [show ((g - 1 : Nat) : Int) = (g : Int) - 1 by omega] at hD1 hE2 hF2
    have hA3 := Lib.hid hA.lim
    clear hA hB hC hD0 hE1 hF1
    go_wp2_with (go_at_call 248; refine (HSUB.out _).mono ?_; rintro e w' ⟨rfl, rfl⟩)
    refine @loop_then _ 7 ?R _ _ _ _ ?h ?k
    case h =>
      change Code.wp Tryz.prog (Code.loop (Tryz.longLoop 3)) _ _ _
      exact @long_addback gu n J cu bv ov cv base j U3 V (Q.set j (g - 1)) w _ _ _ _ _ _ _ _ _ _ _ _ _ _ _ _ _ _ _ _ _ _ _ _ _ _ _ _ _ _ _ _ _ _ _ _ _ _ _ _ _ _ _ _ _ _ _ _ _ _ _ _ _ _ _ _ _ _ _ _ _ _ _ _ _ _ _ _ _ _ _ _ _ _ _ _ _ _ _ _ _ _ _ _ _ _ _ _ _ _ _ _ _ _ _ _ _ _ _ _ _ _ _ _ _ _ _ _ _ _ _ _ _ _ _ _ _ _ _ _ _ _ _ _ _ _ _ _ _ _ _ _ _ _ _ _ _ _ _ _ _ _ _ _ _ _ _ _ _ _ _ _ _ _ _ _ _ _ _ _ _ _ _ _ _ _ _ _ _ _ _ _ _ _ _ _ _ _ _ _ _ _ _ _ _ _ _ hE2 hD1 hF2 hgu hvlim hvc.out hne hn2 hk hsz
    case k =>
      rintro a' w' ⟨c, U4, _, _, _, _, _, _, _, _, _, _, _, _, _, _, _, _, _, _, _, _, _, _, _, _, rfl, hc, hu7, hq7, hg7, HJ⟩
      clear hE2 hD1 hF2 hcq1 hfq1
      have hcu7 := hu7.cell (j + n) (by omega)
      have hfu7 := hu7.free (j + n)
      have hub7 := nth_lt hu7.lim (j + n)
      obtain ⟨un, hun⟩ : ∃ t, nth U4 (j + n) = t := ⟨_, rfl⟩
      rw [hun] at hcu7 hub7
      have hun3 : nth U3 (j + n) = un := (HJ.out.1 (j + n) (.inr (Nat.le_refl _))).symm.trans hun
      obtain ⟨x, hx⟩ : ∃ t, (un + c) % 4294967296 = t := ⟨_, rfl⟩
      obtain ⟨c', hc'⟩ : ∃ t, (un + c) / 4294967296 = t := ⟨_, rfl⟩
      have hxb : x < 4294967296 := by omega
      have hcb : c' ≤ 1 := by omega
      have ex : ((un : Int) + (c : Int)) % 4294967296 = (x : Int) := by omega
      have HS := add_step (V := V) (x := x) (c' := c') HJ.out.2 (by rw [hun3, nth_over (by rw [HVlen]; exact Nat.le_refl _)]; omega) (show j + n < U4.length by rw [hu7.len]; omega)
      rw [win_succ V, HVW.out, Nat.zero_add, nth_over (xs := V) (j := n) (by rw [HVlen]; exact Nat.le_refl _), Nat.mul_zero, Nat.add_zero] at HS
      have hA7 := hu7.stored (j + n) x (by omega) hxb
      have hB7 := hq7.kept (setCell_grownBy w' gu (j + n) (.int .u32 (x : Nat))) (.inr (by simpa [blockOf] using hgne))
      have hC7 := hg7.trans (setCell_grownBy w' gu (j + n) (.int .u32 (x : Nat)))
      have HT : Hid (val V ≤ 4294967296 ^ (n + 1)) := Lib.hid (Nat.le_trans (Nat.le_of_lt HVN.out) (Nat.pow_le_pow_right (by omega) (by omega)))
      have HFA := fin_add HVP.out HG.out.2.2 (by rw [HN.out]; simp) (win_lt hA3.out j (n + 1)) HS hcb (win_lt hA7.lim j (n + 1))
      have HST := Lib.hid (HLAST.out (U4.set (j + n) x) (g - 1) (by omega) (by rw [hA7.len]) (fun t ht => by rw [nth_set_ne (by omega), HJ.out.1 t (by omega)]; exact HO.out t ht) HFA.2.1 HFA.2.2)
      clear hun hun3 hx hc' HS HFA hu7 hq7 hg7
      go_wp2
      (repeat apply Exists.intro); exact ⟨rfl, hA7, hB7, hC7, HST⟩

end Go.Proofs.YtekcpapkicmckaaGreatDoor

namespace Go.Proofs.YtekcpapkicmckaaGreatDoor
open Go.RowKit

set_option maxHeartbeats 4000000 in
set_option maxRecDepth 100000 in
theorem long_any (gu nu cu n cv base bv ov : Nat) (U V : List Nat) (w : World) (hu : Own w base (some ⟨gu, 0, none⟩) nu cu U) (hv : Num w (some ⟨bv, ov, none⟩) n cv V) (hne : bv ≠ gu)
    (hn2 : 2 ≤ n) (hnu : n + 1 ≤ nu) (hsz : nu ≤ 35184372088832) (htop : 2147483648 ≤ nth V (n - 1)) (hst : val (U.drop (nu - n)) < val V) :
    Calls Tryz.prog 223 #[.slice (some ⟨gu, 0, none⟩) nu cu, .slice (some ⟨bv, ov, none⟩) n cv] w fun e w' =>
      ∃ (gq : Nat) (Q U' : List Nat), e = .returned (.slice (some ⟨gq, 0, none⟩) (nu - n) (nu - n)) ∧ Own w' w.heap.size (some ⟨gq, 0, none⟩) (nu - n) (nu - n) Q ∧ Own w' base (some ⟨gu, 0, none⟩) nu cu U' ∧ w.grownBy w' (some gu) ∧
        val U' + val Q * val V = val U ∧ val U' < val V := by
  have hgu : gu < w.heap.size := (hu.mine.lt gu rfl).2
  obtain ⟨J, rfl⟩ : ∃ J, nu = n + J + 1 := ⟨nu - n - 1, by omega⟩
  have eJ : n + J + 1 - n = J + 1 := by omega
  rw [eJ] at hst ⊢
  have hmake := fun h1 h2 => make_row (P := Tryz.prog) 132 169 (.int .u32 0) 4 Tryz.under_sl Tryz.info_u32 rfl (by omega) (J + 1) (J + 1) h1 h2
  replace hmake := hmake (by omega) (by omega)
  rw [show ((J + 1 : Nat) : Int) = (J : Int) + 1 by omega] at hmake
  have esub : ((n : Int) + J + 1 - n) = (J : Int) + 1 := by omega
  obtain ⟨b0, o0, e0, hvc⟩ := hv.cells (by omega)
  simp only [Option.some.injEq, Addr.mk.injEq, and_true] at e0
  obtain ⟨rfl, rfl⟩ := e0
  go_enter Tryz.func223, Tryz.ntmps223
  go_wp2
  have hq1 : Own (w.alloc (.cells (Array.replicate (J + 1) (.int .u32 0)) 169)) w.heap.size (some ⟨w.heap.size, 0, none⟩) (J + 1) (J + 1) (List.replicate (J + 1) 0) :=
    ⟨by rw [← u32s_replicate]; exact Mine.made _ _ _ _ _ _ (Nat.le_refl _) (Nat.le_refl _) (by omega), Lim.replicate _⟩
  have hg1 : w.grownBy (w.alloc (.cells (Array.replicate (J + 1) (.int .u32 0)) 169)) (some gu) := World.grownBy_alloc _ _ _
  have hu1 : Own (w.alloc (.cells (Array.replicate (J + 1) (.int .u32 0)) 169)) base (some ⟨gu, 0, none⟩) (n + J + 1) cu U := hu.kept (World.grownBy_alloc _ _ none) (by simp [blockOf])
  generalize w.alloc (.cells (Array.replicate (J + 1) (.int .u32 0)) 169) = w1 at hq1 hg1 hu1 ⊢
  have hc1 : w1.cell? ⟨bv, ov + (n - 1), none⟩ = some (.int .u32 (nth V (n - 1) : Nat)) := hg1.cell (hvc _ (by omega)) (by simpa using hne)
  have hc2 : w1.cell? ⟨bv, ov + (n - 2), none⟩ = some (.int .u32 (nth V (n - 2) : Nat)) := hg1.cell (hvc _ (by omega)) (by simpa using hne)
  have ht := nth_lt hv.lim (n - 1)
  have hx := nth_lt hv.lim (n - 2)
  clear hmake esub
  have a1 : IntKind.i64.wrap ((n : Int) - 1) = (n : Int) - 1 := IntWalk.i64_in _ (by omega)
  have a2 : ((n : Int) - 1).toNat = n - 1 := by omega
  have a3 : (0 : Int) ≤ (n : Int) - 1 := by omega
  have a4 : (1 : Int) ≤ n := by omega
  have a5 : (n : Int) - 1 < n := by omega
  have b1 : IntKind.i64.wrap ((n : Int) - 2) = (n : Int) - 2 := IntWalk.i64_in _ (by omega)
  have b2 : ((n : Int) - 2).toNat = n - 2 := by omega
  have b3 : (0 : Int) ≤ (n : Int) - 2 := by omega
  have b4 : (2 : Int) ≤ n := by omega
  have b5 : (n : Int) - 2 < n := by omega
  go_quiet (fail)
  clear a1 a2 a3 b1 b2 b3 a4 a5 b4 b5
  have hq2 := hq1.drewN nq
  have hu2 := hu1.drewN nq
  have hg2 := grownBy_drewN hg1 nq
  generalize w1.drewN nq = w2 at hq2 hu2 hg2 ⊢
  clear hq1 hu1 hg1 hc1 hc2
  go_wp2
  have hVn : val V < 4294967296 ^ n := by have := val_lt hv.lim; rwa [hv.len] at this
  have hVw : win V 0 n = val V := by rw [← hv.len]; exact win_full V
  obtain ⟨top, htp⟩ : ∃ t, nth V (n - 1) = t := ⟨_, rfl⟩
  obtain ⟨next, hnx⟩ : ∃ t, nth V (n - 2) = t := ⟨_, rfl⟩
  rw [htp] at ht htop ⊢
  rw [hnx] at hx ⊢
  have HTP := Lib.hid htp
  have HNX := Lib.hid hnx
  have HVN := Lib.hid hVn
  have HVW := Lib.hid hVw
  have HVC := Lib.hid hvc
  have HVlen := Lib.hid hv.len
  have hvlim := hv.lim
  clear htp hnx hVn hVw hvc hv
  go_loopg [9] (J + 1) (fun k jx wr => ∃ (U' Q : List Nat), k ≤ J + 1 ∧ jx = .int .i64 ((k : Int) - 1) ∧ Own wr base (some ⟨gu, 0, none⟩) (n + J + 1) cu U' ∧ Own wr w.heap.size (some ⟨w.heap.size, 0, none⟩) (J + 1) (J + 1) Q ∧ w.grownBy wr (some gu) ∧
      val U' + val Q * val V = val U ∧ val (U'.drop k) < val V ∧ ∀ i, i < k → nth Q i = 0)
  case atStart =>
    refine ⟨U, List.replicate (J + 1) 0, Nat.le_refl _, by go_num, hu2, hq2, hg2, by rw [val_replicate]; simp, hst, fun i _ => nth_replicate _ _⟩
  case round =>
    obtain ⟨U', Q, hk, rfl, hu', hq, hgr, hval, hlt, hq0⟩ := hrel
    clear hu2 hq2 hg2 hst hu
    have HVAL := Lib.hid hval
    have HLT := Lib.hid hlt
    have HQ0 := Lib.hid hq0
    clear hval hlt hq0
    by_cases h0 : gk = 0
    · subst h0
      go_wp2
      go_ret
      exact ⟨w.heap.size, Q, U', rfl, hq, hu', hgr, HVAL.out, by simpa using HLT.out⟩
    · obtain ⟨j, rfl⟩ : ∃ j, gk = j + 1 := ⟨gk - 1, by omega⟩
      rw [show ((j + 1 : Nat) : Int) - 1 = (j : Int) by omega]
      have hc1 := hu'.cell (j + n) (by omega)
      have hc2 := hu'.cell (j + n - 1) (by omega)
      have hb1 := nth_lt hu'.lim (j + n)
      have hb2 := nth_lt hu'.lim (j + n - 1)
      go_wp2
      go_step3
      go_wp2
      have i1 : IntKind.i64.wrap ((j : Int) + n) = (j : Int) + n := IntWalk.i64_in _ (by omega)
      have i2 : ((j : Int) + n).toNat = j + n := by omega
      have i3 : (0 : Int) ≤ (j : Int) + n := by omega
      have i4 : (j : Int) + n < (n : Int) + J + 1 := by omega
      have k1 : IntKind.i64.wrap ((j : Int) + n - 1) = (j : Int) + n - 1 := IntWalk.i64_in _ (by omega)
      have k2 : ((j : Int) + n - 1).toNat = j + n - 1 := by omega
      have k3 : (1 : Int) ≤ (j : Int) + n := by omega
      have k3' : (0 : Int) ≤ (j : Int) + n - 1 := by omega
      have k4 : (j : Int) + n - 1 < (n : Int) + J + 1 := by omega
      have hor := or_join32 (nth U' (j + n)) (nth U' (j + n - 1)) hb1 hb2
      obtain ⟨head, hhd⟩ : ∃ head, nth U' (j + n) * 4294967296 + nth U' (j + n - 1) = head := ⟨_, rfl⟩
      rw [hhd] at hor
      have HHD := Lib.hid hhd
      have HB := Lib.hid (show head < 18446744073709551616 by omega)
      clear hhd
      go_quiet (fail)
      have hu3 := hu'.drewN nq
      have hq3 := hq.drewN nq
      have hg3 := grownBy_drewN hgr nq
      generalize wr.drewN nq = w3 at hu3 hq3 hg3 ⊢
      clear hu' hq hgr hc1 hc2 hor i1 i2 i3 i4 k1 k2 k3 k3' k4 hb1 hb2
      go_wp2
      obtain ⟨g0, hg0⟩ : ∃ g, head / top = g := ⟨_, rfl⟩
      obtain ⟨r0, hr0⟩ : ∃ r, head % top = r := ⟨_, rfl⟩
      have hg0b : g0 ≤ 8589934592 := by
        rw [← hg0]
        exact (Nat.div_le_iff_le_mul_add_pred (by omega)).2 (by have := HB.out; omega)
      have hr0b : r0 < top := by rw [← hr0]; exact Nat.mod_lt _ (by omega)
      have e1 : IntKind.u64.wrap ((head : Int) / (top : Int)) = (g0 : Int) := by
        rw [← Int.natCast_ediv, hg0]; exact wrap_u64 (by omega) (by omega)
      have e2 : (head : Int) % (top : Int) = (r0 : Int) := by rw [← Int.natCast_emod, hr0]
      have HG0 := Lib.hid hg0
      have HR0 := Lib.hid hr0
      clear hg0 hr0
      go_quiet (fail)
      simp only [e2]
      clear e1 e2
      have hu4 := hu3.drewN nq
      have hq4 := hq3.drewN nq
      have hg4 := grownBy_drewN hg3 nq
      generalize w3.drewN nq = w4 at hu4 hq4 hg4 ⊢
      clear hu3 hq3 hg3
      go_wp2
      go_step3
      go_wp2
      change Code.wp Tryz.prog (Code.loop (Tryz.longLoop 1)) _ _ _
      refine @loop_then _ 2 ?R1 _ _ _ _ ?h1 ?k1
      case h1 => exact @long_est gu n J cu bv ov cv base top next j g0 r0 head U' V w4 _ _ _ _ _ _ _ _ _ _ _ _ _ _ _ _ _ _ _ _ _ _ _ _ _ _ _ _ _ _ _ _ _ _ _ _ _ _ _ _ _ _ _ _ _ _ _ _ _ _ _ _ _ _ _ _ _ _ _ _ _ _ _ _ _ _ _ _ _ _ _ _ _ _ _ _ _ _ _ _ _ _ _ _ _ _ _ _ _ _ _ _ _ _ _ _ _ _ _ _ _ _ _ _ _ _ _ _ _ _ _ _ _ _ _ _ _ _ _ _ _ _ _ _ _ _ _ _ _ _ _ _ _ _ _ _ _ _ _ _ _ _ _ _ _ _ _ _ _ _ _ _ _ _ _ _ _ _ _ _ _ _ _ _ _ _ _ _ _ _ _ _ _ _ _ _ _ _ _ _ _ _ _ _ _ _ hu4 hvlim HVlen.out hn2 hk hsz htop ht hx HTP HNX HLT HHD HG0 HR0 hg0b hr0b
      case k1 =>
        rintro a' w' ⟨g, q, r, _, _, _, _, _, _, _, _, _, _, _, _, _, _, _, _, _, _, _, _, _, _, _, _, _, rfl, rfl, HG⟩
        have hu5 := hu4.drewN q
        have hq5 := hq4.drewN q
        have hg5 := grownBy_drewN hg4 q
        generalize w4.drewN q = w5 at hu5 hq5 hg5 ⊢
        clear hu4 hq4 hg4 HG0 HR0 hg0b hr0b
        have HWB := Lib.hid (long_data hn2 hu5.lim hvlim HVlen.out HLT.out).1
        have hgb : g < 4294967296 := HG.out.1
        have HUlim := Lib.hid hu5.lim
        have HUlen := Lib.hid hu5.len
        go_wp2
        change Code.wp Tryz.prog (Code.loop (Tryz.longLoop 2)) _ _ _
        refine @loop_then _ 5 ?R2 _ _ _ _ ?h2 ?k2
        case h2 => exact @long_mulsub gu n J cu bv ov cv base j g U' V Q w w5 _ _ _ _ _ _ _ _ _ _ _ _ _ _ _ _ _ _ _ _ _ _ _ _ _ _ _ _ _ _ _ _ _ _ _ _ _ _ _ _ _ _ _ _ _ _ _ _ _ _ _ _ _ _ _ _ _ _ _ _ _ _ _ _ _ _ _ _ _ _ _ _ _ _ _ _ _ _ _ _ _ _ _ _ _ _ _ _ _ _ _ _ _ _ _ _ _ _ _ _ _ _ _ _ _ _ _ _ _ _ _ _ _ _ _ _ _ _ _ _ _ _ _ _ _ _ _ _ _ _ _ _ _ _ _ _ _ _ _ _ _ _ _ _ _ _ _ _ _ _ _ _ _ _ _ _ _ _ _ _ _ _ _ _ _ _ _ _ _ _ _ _ _ _ _ _ _ _ _ _ _ _ _ _ hu5 hq5 hg5 hgu hvlim HVC.out hne hn2 hk hsz hgb
        case k2 =>
          rintro a' wr ⟨cr, bo, U2, _, _, _, _, _, _, _, _, _, _, _, _, _, _, _, _, _, _, _, _, _, _, _, _, _, _, _, _, _, _, _, _, _, rfl, hcr, hbo, hu6, hq6, hg6, HI⟩
          clear hu5 hq5 hg5
          go_step
          go_step
          change Code.wp Tryz.prog (Tryz.longAt [1,1,1,1,0,1,0,0,1,0,0,0,1,1,1,1,1,1,1]) _ _ _
          refine @both_then _ ?R3 _ _ _ _ ?h3 ?k3
          case h3 => exact @long_tail gu n J cu bv ov cv base j g cr bo U' U2 V Q w wr _ _ _ _ _ _ _ _ _ _ _ _ _ _ _ _ _ _ _ _ _ _ _ _ _ _ _ _ _ _ _ _ _ _ _ _ _ _ _ _ _ _ _ _ _ _ _ _ _ _ _ _ _ _ _ _ _ _ _ _ _ _ _ _ _ _ _ _ _ _ _ _ _ _ _ _ _ _ _ _ _ _ _ _ _ _ _ _ _ _ _ _ _ _ _ _ _ _ _ _ _ _ _ _ _ _ _ _ _ _ _ _ _ _ _ _ _ _ _ _ _ _ _ _ _ _ _ _ _ _ _ _ _ _ _ _ _ _ _ _ _ _ _ _ _ _ _ _ _ _ _ _ _ _ _ _ _ _ _ _ _ _ _ _ _ _ _ _ _ _ _ _ _ _ _ _ _ _ _ _ _ _ _ _ _ _ hu6 hq6 hg6 hgu HUlim.out HUlen.out HVN HVW hvlim HVlen.out HVC hne hn2 hk hsz hgb hcr hbo HLT HQ0 HG HI
          case k3 =>
            rintro e a' w' he ⟨U5, Q5, _, _, _, _, _, _, _, _, _, _, _, _, _, _, _, _, _, _, _, _, _, _, _, _, _, _, _, _, _, _, _, _, _, _, _, _, _, _, _, _, _, _, _, _, _, _, _, _, _, _, _, _, _, _, _, _, _, _, _, _, _, _, _, _, _, _, _, _, rfl, h1, h2, h3, h4⟩
            rcases he with rfl | rfl
            all_goals
              simp only [Exit.noGoto_normal, Exit.noGoto_exit]
              go_wp2
              go_roundg j
              case measure => omega
              case rel => exact ⟨U5, Q5, by omega, by go_num, h1, h2, h3, by rw [h4.out.1]; exact HVAL.out, h4.out.2.1, h4.out.2.2⟩

end Go.Proofs.YtekcpapkicmckaaGreatDoor
