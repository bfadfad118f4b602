/- The run of a block of numbers alone. -/
import Derived.Test.YtnpnhdmfdhnmfaaGreatDoorNumPlain
namespace Go.Proofs.YtnpnhdmfdhnmfaaGreatDoor

def vsN (V : Nat → Int) : Nat → List Int
  | 0 => List.replicate 12 0
  | i + 1 => (vsN V i).set i (V i)
theorem vsN_len (V : Nat → Int) : ∀ i, (vsN V i).length = 12
  | 0 => rfl
  | i + 1 => by show ((vsN V i).set i (V i)).length = 12; rw [List.length_set, vsN_len V i]
def stN (F : LFlow) (V : Nat → Int) (i : Nat) : MRun := ⟨[], [], [⟨F, vsN V i, 0, i, 0⟩], 0, 0, [], i⟩
theorem step_num {u : LUnit} {F : LFlow} {L : List LIns} {t : LTerm} (hF : F.blocks = [⟨L, t⟩]) {V : Nat → Int} {i : Nat} (hi : i < L.length) (hx : L[i]? = some (numN i (V i))) : stepM u { stN F V i with steps := (stN F V i).steps + 1 } = stN F V (i + 1) := by
  unfold stepM stN
  simp only []
  rw [hF]
  simp only [Int.toNat_zero, List.getElem?_cons_zero]
  rw [if_neg (by omega), show ((i : Int)).toNat = i by omega, hx]
  simp only []
  rw [insM_1 rfl]
  show MRun.mk [] [] [⟨F, (vsN V i).set ((i : Int)).toNat (V i), 0, (i : Int) + 1, 0⟩] 0 0 [] ((i : Int) + 1) = MRun.mk [] [] [⟨F, (vsN V i).set i (V i), 0, ((i + 1 : Nat) : Int), 0⟩] 0 0 [] ((i + 1 : Nat) : Int)
  rw [show ((i : Int)).toNat = i by omega, show ((i + 1 : Nat) : Int) = (i : Int) + 1 by omega]
theorem run_nums {u : LUnit} {F : LFlow} {L : List LIns} {t : LTerm} (hF : F.blocks = [⟨L, t⟩]) {V : Nat → Int} (hx : ∀ i, i < L.length → L[i]? = some (numN i (V i))) : ∀ (k i : Nat), i + k = L.length → runM u k (stN F V i) = stN F V L.length
  | 0, i, h => by
    obtain rfl : i = L.length := by omega
    rfl
  | k + 1, i, h => by
    rw [runM_succ, if_pos (show (stN F V i).status = 0 from rfl), step_num hF (by omega) (hx i (by omega))]
    exact run_nums hF hx k (i + 1) (by omega)
theorem run_ret {u : LUnit} {F : LFlow} {L : List LIns} {t : LTerm} (hF : F.blocks = [⟨L, t⟩]) (ht : t.kind = 3) {V : Nat → Int} (hx : ∀ i, i < L.length → L[i]? = some (numN i (V i))) {n : Nat} (hn : L.length < n) :
    (runM u n (stN F V 0)).status = 1 ∧ (runM u n (stN F V 0)).code = (vsN V L.length).getD t.a.toNat 0 := by
  obtain ⟨r, rfl⟩ : ∃ r, n = L.length + (1 + r) := ⟨n - L.length - 1, by omega⟩
  rw [runM_add, run_nums hF hx L.length 0 (by omega), runM_add]
  have hs : runM u 1 (stN F V L.length) = { { stN F V L.length with steps := (stN F V L.length).steps + 1 } with calls := [], status := 1, code := (vsN V L.length).getD t.a.toNat 0 } := by
    rw [runM_succ, if_pos (show (stN F V L.length).status = 0 from rfl)]
    show stepM u _ = _
    unfold stepM stN
    simp only []
    rw [hF]
    simp only [Int.toNat_zero, List.getElem?_cons_zero]
    rw [if_pos trivial, termM_3 ht]; rfl
  rw [hs, runM_end (by show ¬ ((1 : Int) = 0); decide)]
  exact ⟨rfl, rfl⟩
theorem vsN_get (V : Nat → Int) {j n : Nat} (hj : j < n) (hn : n ≤ 12) : (vsN V n).getD j 0 = V j := by
  induction n with
  | zero => omega
  | succ n ih =>
    show ((vsN V n).set n (V n)).getD j 0 = V j
    by_cases h : j = n
    · subst h
      have hl : j < (vsN V j).length := by rw [vsN_len]; omega
      simp [List.getD, hl]
    · have := ih (by omega) (by omega)
      rw [← this]
      simp [List.getD, List.getElem?_set_ne (Ne.symm h)]
/-- the unit's run ends, with the last number -/
theorem nu_run (one two : Int) (o : Nat → Int) (ho : ∀ i, 1 ≤ o i ∧ o i ≤ 16 ∧ o i ≠ 4 ∧ o i ≠ 5) {m : Nat} (hm : m ≤ 8) : (runU (nuU one two o m) [] 99).status = 1 ∧ (runU (nuU one two o m) [] 99).code = valN one two o (m + 1) := by
  have hu := nu_ok one two o ho hm
  have hf := fold_run hu [] 99
  have hst : startRun (foldE (nuU one two o m)) [] = stN (flowE (nuF one two o m)) (valN one two o) 0 := rfl
  have hF : (flowE (nuF one two o m)).blocks = [⟨folN one two o m, ⟨3, m + 1, 0, 0⟩⟩] := by
    show [blockE (nuB one two o m)] = _
    rw [nu_block one two o ho m]
  have hr := run_ret (u := foldE (nuU one two o m)) hF rfl (V := valN one two o) (fun i hi => folN_get (by rw [folN_len] at hi; exact hi)) (n := 99) (by rw [folN_len]; omega)
  have e : runU (foldE (nuU one two o m)) [] 99 = runM (foldE (nuU one two o m)) 99 (stN (flowE (nuF one two o m)) (valN one two o) 0) := by unfold runU; rw [hst]
  rw [← e, hf, folN_len] at hr
  refine ⟨hr.1, hr.2.trans ?_⟩
  show (vsN (valN one two o) (m + 2)).getD ((m : Int) + 1).toNat 0 = _
  rw [show ((m : Int) + 1).toNat = m + 1 by omega]
  exact vsN_get _ (by omega) (by omega)
theorem nuL_args {one two : Int} {o : Nat → Int} {m : Nat} {x : LIns} (h : x ∈ nuL one two o m) : x.args = [] := by
  rcases nuL_mem h with rfl | rfl | ⟨i, _, rfl⟩ <;> rfl
end Go.Proofs.YtnpnhdmfdhnmfaaGreatDoor
