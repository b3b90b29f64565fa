/- The plain law of the reference's code of a tree: sizes from below, then its operations in order. -/
import Derived.Test.YtekcpapkicmckaaGreatDoorPlc
namespace Go.Proofs.YtekcpapkicmckaaGreatDoor

/-- the place at a tree's head -/
def BT.root : BT → Nat
  | .leaf i => i
  | .node i _ _ => i
/-- its last leaf; the places ahead of it -/
def BT.lastLeaf : BT → Nat
  | .leaf i => i
  | .node _ _ r => r.lastLeaf
def BT.front : BT → List Nat
  | .leaf _ => []
  | .node i l r => i :: (l.all ++ r.front)
theorem BT.all_front : ∀ T : BT, T.all = T.front ++ [T.lastLeaf]
  | .leaf _ => rfl
  | .node i l r => by simp only [BT.all, BT.front, BT.lastLeaf, BT.all_front r, List.cons_append, List.append_assoc]
theorem BT.lastLeaf_mem (T : BT) : T.lastLeaf ∈ T.all := by rw [T.all_front]; simp
theorem BT.root_mem : ∀ T : BT, T.root ∈ T.all
  | .leaf _ => by simp [BT.root, BT.all]
  | .node _ _ _ => by simp [BT.root, BT.all]
theorem BT.last_at (T : BT) : T.all.getD (T.all.length - 1) 0 = T.lastLeaf := by
  rw [T.all_front]
  simp [List.getD_eq_getElem?_getD]
theorem BT.all_pos (T : BT) : 0 < T.all.length := List.length_pos_of_mem T.root_mem
theorem Rep.root {nds : List NdV} {T : BT} {a : Nat} (h : Rep nds T a) : a = T.root := by
  cases T with
  | leaf i => exact h.1
  | node i l r => exact h.1

/-- how long a subtree's code is, the last leaf's jump left out -/
def BT.sizeW (last : Nat) : BT → Int
  | .leaf i => if i = last then 1 else 2
  | .node _ l r => 1 + l.sizeW last + r.sizeW last
theorem BT.sizeW_no {last : Nat} : ∀ {T : BT}, last ∉ T.all → T.sizeW last = T.size
  | .leaf i, h => by
    unfold BT.sizeW BT.size
    rw [if_neg (by intro e; subst e; simp [BT.all] at h)]
    rfl
  | .node i l r, h => by
    simp only [BT.all, List.mem_cons, List.mem_append, not_or] at h
    unfold BT.sizeW BT.size
    rw [BT.sizeW_no h.2.1, BT.sizeW_no h.2.2]
    omega
theorem BT.sizeW_last : ∀ {T : BT}, T.all.Nodup → T.sizeW T.lastLeaf + 1 = T.size
  | .leaf i, _ => by simp [BT.sizeW, BT.lastLeaf, BT.size]
  | .node i l r, h => by
    simp only [BT.all, List.nodup_cons, List.nodup_append] at h
    obtain ⟨_, hl, hr, hd⟩ := h
    unfold BT.sizeW BT.size BT.lastLeaf
    have h1 := BT.sizeW_last hr
    rw [BT.sizeW_no (T := l) (fun hm => hd _ hm _ r.lastLeaf_mem rfl)]
    omega
theorem BT.sizeW_le (last : Nat) : ∀ T : BT, 1 ≤ T.sizeW last ∧ T.sizeW last ≤ T.size
  | .leaf i => by unfold BT.sizeW BT.size; split <;> omega
  | .node i l r => by
    have := BT.sizeW_le last l
    have := BT.sizeW_le last r
    unfold BT.sizeW BT.size
    omega

def szStep (nds : List NdV) (last : Nat) (S : List Int) (i : Nat) : List Int :=
  S.set i (if innerV (ndAt nds i) then 1 + S.getD (ndAt nds i).left.toNat 0 + S.getD (ndAt nds i).right.toNat 0 else if i = last then 1 else 2)
/-- the sizes, over places from their end -/
def szL (nds : List NdV) (last : Nat) : List Nat → List Int → List Int
  | [], S => S
  | i :: l, S => szStep nds last (szL nds last l S) i
theorem szL_append (nds : List NdV) (last : Nat) (S : List Int) (b : List Nat) : ∀ a, szL nds last (a ++ b) S = szL nds last a (szL nds last b S)
  | [] => rfl
  | i :: l => by simp only [List.cons_append, szL, szL_append nds last S b l]
theorem szL_length (nds : List NdV) (last : Nat) (S : List Int) : ∀ l, (szL nds last l S).length = S.length
  | [] => rfl
  | i :: l => by simp only [szL, szStep, List.length_set, szL_length nds last S l]
theorem szL_else (nds : List NdV) (last : Nat) (S : List Int) (j : Nat) : ∀ l, j ∉ l → (szL nds last l S).getD j 0 = S.getD j 0
  | [], _ => rfl
  | i :: l, h => by
    simp only [List.mem_cons, not_or] at h
    simp only [szL, szStep]
    rw [gset_ne (fun e => h.1 e.symm), szL_else nds last S j l h.2]
theorem szL_keep (nds : List NdV) (last : Nat) (S : List Int) (a b : List Nat) (h : (a ++ b).Nodup) {j : Nat} (hj : j ∈ b) : (szL nds last (a ++ b) S).getD j 0 = (szL nds last b S).getD j 0 := by
  rw [szL_append]
  exact szL_else _ _ _ _ _ (fun ha => (List.nodup_append.1 h).2.2 j ha j hj rfl)

/-- the sizes are those of a tree and of all below it -/
def SzGood (last : Nat) (S : List Int) : BT → Prop
  | .leaf i => S.getD i 0 = (BT.leaf i).sizeW last
  | .node i l r => S.getD i 0 = (BT.node i l r).sizeW last ∧ SzGood last S l ∧ SzGood last S r
theorem SzGood.root {last : Nat} {S : List Int} {T : BT} (h : SzGood last S T) : S.getD T.root 0 = T.sizeW last := by
  cases T with
  | leaf i => exact h
  | node i l r => exact h.1
theorem SzGood.congr {last : Nat} {S S' : List Int} : ∀ {T : BT}, (∀ j ∈ T.all, S'.getD j 0 = S.getD j 0) → SzGood last S T → SzGood last S' T
  | .leaf i, h, g => by
    show S'.getD i 0 = _
    rw [h i (by simp [BT.all])]; exact g
  | .node i l r, h, ⟨g0, g1, g2⟩ => by
    simp only [BT.all, List.mem_cons, List.mem_append] at h
    exact ⟨by rw [h i (.inl rfl)]; exact g0, g1.congr (fun j hj => h j (.inr (.inl hj))), g2.congr (fun j hj => h j (.inr (.inr hj)))⟩
theorem SzGood.le {last : Nat} {S : List Int} : ∀ {T : BT}, SzGood last S T → ∀ j ∈ T.all, 1 ≤ S.getD j 0 ∧ S.getD j 0 ≤ T.size
  | .leaf i, g, j, hj => by
    simp only [BT.all, List.mem_singleton] at hj
    subst hj
    have := BT.sizeW_le last (.leaf j)
    rw [show S.getD j 0 = _ from g]
    exact this
  | .node i l r, ⟨g0, g1, g2⟩, j, hj => by
    simp only [BT.all, List.mem_cons, List.mem_append] at hj
    rcases hj with rfl | hj | hj
    · rw [g0]; exact BT.sizeW_le last _
    · have := g1.le j hj
      unfold BT.size
      omega
    · have := g2.le j hj
      unfold BT.size
      omega
theorem szL_good {nds : List NdV} {last : Nat} : ∀ {T : BT} {a : Nat} {S : List Int}, Rep nds T a → T.all.Nodup → (∀ j ∈ T.all, j < S.length) → SzGood last (szL nds last T.all S) T
  | .leaf i, a, S, ⟨_, _, hv⟩, _, hl => by
    show (szStep nds last S i).getD i 0 = _
    unfold szStep
    rw [hv, gset_eq (hl i (by simp [BT.all]))]
    rfl
  | .node i l r, a, S, ⟨_, _, hv, hL, hR⟩, hn, hl => by
    simp only [BT.all, List.nodup_cons, List.nodup_append, List.mem_append, not_or] at hn
    obtain ⟨⟨ni1, ni2⟩, nl, nr, nd⟩ := hn
    simp only [BT.all, List.mem_cons, List.mem_append] at hl
    have g2 := szL_good (last := last) (S := S) hR nr (fun j hj => hl j (.inr (.inr hj)))
    have g1 := szL_good (last := last) (S := szL nds last r.all S) hL nl (fun j hj => by rw [szL_length]; exact hl j (.inr (.inl hj)))
    have g2' : SzGood last (szL nds last l.all (szL nds last r.all S)) r := g2.congr (fun j hj => szL_else _ _ _ _ _ (fun h => nd j h j hj rfl))
    have e : szL nds last (BT.node i l r).all S = szStep nds last (szL nds last l.all (szL nds last r.all S)) i := by
      simp only [BT.all, szL, szL_append]
    rw [e]
    have ne : ∀ j, j ≠ i → (szStep nds last (szL nds last l.all (szL nds last r.all S)) i).getD j 0 = (szL nds last l.all (szL nds last r.all S)).getD j 0 := fun j hj => by
      unfold szStep; exact gset_ne (fun e => hj e.symm)
    refine ⟨?_, g1.congr (fun j hj => ne j (fun e => ni1 (e ▸ hj))), g2'.congr (fun j hj => ne j (fun e => ni2 (e ▸ hj)))⟩
    unfold szStep
    rw [hv, gset_eq (by rw [szL_length, szL_length]; exact hl i (.inl rfl)), if_pos rfl, hL.root, hR.root, g1.root, g2'.root]
    rfl

/-- a place's operations, where so many lie ahead of them -/
def opsFor (nds : List NdV) (out : Int) (S : List Int) (rt last i k : Nat) : List OpV :=
  if innerV (ndAt nds i) then [testOp (ndAt nds i) (((rt + k + 1 : Nat) : Int) + S.getD (ndAt nds i).left.toNat 0)]
  else addOp out (ndAt nds i).value :: (if i = last then [] else [jumpTo ((rt : Int) + S.getD 0 0)])
def emR (nds : List NdV) (out : Int) (S : List Int) (rt last : Nat) : List Nat → List OpV → List OpV
  | [], acc => acc
  | i :: l, acc => emR nds out S rt last l (acc ++ opsFor nds out S rt last i acc.length)
theorem emR_append (nds : List NdV) (out : Int) (S : List Int) (rt last : Nat) (b : List Nat) : ∀ (a : List Nat) (acc : List OpV), emR nds out S rt last (a ++ b) acc = emR nds out S rt last b (emR nds out S rt last a acc)
  | [], _ => rfl
  | i :: l, acc => by simp only [List.cons_append, emR, emR_append nds out S rt last b l]
theorem emR_take (nds : List NdV) (out : Int) (S : List Int) (rt last : Nat) (ord : List Nat) (k : Nat) (hk : k < ord.length) :
    emR nds out S rt last (ord.take (k + 1)) [] = emR nds out S rt last (ord.take k) [] ++ opsFor nds out S rt last ord[k] (emR nds out S rt last (ord.take k) []).length := by
  rw [List.take_succ_eq_append_getElem hk, emR_append]
  rfl
theorem opsFor_length (nds : List NdV) (out : Int) (S : List Int) (rt last i k : Nat) : (opsFor nds out S rt last i k).length ≤ 2 := by
  unfold opsFor; split
  · simp
  · split <;> simp
theorem emR_length (nds : List NdV) (out : Int) (S : List Int) (rt last : Nat) (ord : List Nat) : ∀ k, k ≤ ord.length → (emR nds out S rt last (ord.take k) []).length ≤ 2 * k
  | 0, _ => by simp [emR]
  | k + 1, h => by
    rw [emR_take _ _ _ _ _ _ _ h, List.length_append]
    have := emR_length nds out S rt last ord k (by omega)
    have := opsFor_length nds out S rt last ord[k] (emR nds out S rt last (ord.take k) []).length
    omega
theorem em_code {nds : List NdV} {out : Int} {S : List Int} {rt last E : Nat} (hE : (E : Int) = (rt : Int) + S.getD 0 0) : ∀ {T : BT} {a : Nat} {acc : List OpV} {flag : Bool}, Rep nds T a → SzGood last S T → T.all.Nodup → (flag = true → last = T.lastLeaf) → (flag = false → last ∉ T.all) →
    emR nds out S rt last T.all acc = acc ++ codeT nds out E T (rt + acc.length) flag
  | .leaf i, a, acc, flag, ⟨_, _, hv⟩, _, _, h1, h2 => by
    simp only [BT.all, emR, codeT]
    unfold opsFor
    rw [hv, if_neg (by simp)]
    cases flag with
    | true => rw [if_pos (by have := h1 rfl; exact this.symm), if_pos rfl]
    | false =>
      rw [if_neg (by intro e; subst e; exact h2 rfl (by simp [BT.all])), if_neg (by simp), hE]
  | .node i l r, a, acc, flag, ⟨_, _, hv, hL, hR⟩, ⟨g0, g1, g2⟩, hn, h1, h2 => by
    simp only [BT.all, List.nodup_cons, List.nodup_append, List.mem_append, not_or] at hn
    obtain ⟨⟨ni1, ni2⟩, nl, nr, nd⟩ := hn
    have hno : last ∉ l.all := by
      cases flag with
      | true =>
        have e : last = r.lastLeaf := h1 rfl
        intro hm
        exact nd last hm r.lastLeaf r.lastLeaf_mem e
      | false => exact fun hm => h2 rfl (by simp [BT.all, hm])
    have hsz := g1.root
    rw [BT.sizeW_no hno, ← hL.root] at hsz
    have e1 := em_code (out := out) (acc := acc ++ opsFor nds out S rt last i acc.length) (flag := false) hE hL g1 nl (fun h => by cases h) (fun _ => hno)
    have ho : opsFor nds out S rt last i acc.length = [testOp (ndAt nds i) ((rt + acc.length + 1 + l.size : Nat) : Int)] := by
      unfold opsFor
      rw [hv, if_pos rfl, hsz]
      congr 2
    have hcl := codeT_len nds out E l (rt + acc.length + 1) false
    simp only [Bool.false_eq_true, if_false, Nat.add_zero] at hcl
    rw [ho] at e1
    rw [show rt + (acc ++ [testOp (ndAt nds i) ((rt + acc.length + 1 + l.size : Nat) : Int)]).length = rt + acc.length + 1 by simp; omega] at e1
    have e2 := em_code (out := out) (acc := acc ++ [testOp (ndAt nds i) ((rt + acc.length + 1 + l.size : Nat) : Int)] ++ codeT nds out E l (rt + acc.length + 1) false) (flag := flag) hE hR g2 nr (fun h => h1 h) (fun h hm => h2 h (by simp [BT.all, hm]))
    rw [show rt + (acc ++ [testOp (ndAt nds i) ((rt + acc.length + 1 + l.size : Nat) : Int)] ++ codeT nds out E l (rt + acc.length + 1) false).length = rt + acc.length + 1 + l.size by simp [hcl]; omega] at e2
    simp only [BT.all, emR, emR_append, codeT, ho]
    rw [e1, e2]
    simp

theorem Rep.below {nds : List NdV} {T : BT} {a : Nat} (h : Rep nds T a) : ∀ j ∈ T.all, j < nds.length := by
  intro j hj
  induction T generalizing a with
  | leaf i =>
    simp only [BT.all, List.mem_singleton] at hj
    subst hj
    exact h.2.1
  | node i l r ihl ihr =>
    simp only [BT.all, List.mem_cons, List.mem_append] at hj
    rcases hj with rfl | hj | hj
    · exact h.2.1
    · exact ihl h.2.2.2.1 hj
    · exact ihr h.2.2.2.2 hj

/-- what the reference's code gives -/
theorem ref_code {nds : List NdV} (h : RightT nds) (out : Int) (rt : Nat) :
    emR nds out (szL nds (treeOf nds).lastLeaf (treeOf nds).all (List.replicate nds.length 0)) rt (treeOf nds).lastLeaf (treeOf nds).all [] = treeCode ⟨out, nds⟩ rt ∧
    SzGood (treeOf nds).lastLeaf (szL nds (treeOf nds).lastLeaf (treeOf nds).all (List.replicate nds.length 0)) (treeOf nds) := by
  have hrep := treeOf_rep h
  have hnd : (treeOf nds).all.Nodup := Rep.nodup h .here hrep
  have hg := szL_good (last := (treeOf nds).lastLeaf) (S := List.replicate nds.length 0) hrep hnd (fun j hj => by rw [List.length_replicate]; exact hrep.below j hj)
  refine ⟨?_, hg⟩
  have hs := hg.root
  rw [← hrep.root] at hs
  have hw := BT.sizeW_last hnd
  have hp := (treeOf nds).size_pos
  have e := em_code (nds := nds) (out := out) (rt := rt) (E := rt + (treeOf nds).size - 1) (acc := []) (flag := true) (by rw [hs]; omega) hrep hg hnd (fun _ => rfl) (fun h => by cases h)
  rw [e]
  rfl

end Go.Proofs.YtekcpapkicmckaaGreatDoor
