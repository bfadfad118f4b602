/- A block that works on numbers alone: what Fold makes of it, and what its run is. -/
import Derived.Test.YtnpnhdmfdhnmfaaGreatDoorFoldRun
import Derived.Test.YtnpnhdmfdhnmfaaGreatDoorFoldFold
namespace Go.Proofs.YtnpnhdmfdhnmfaaGreatDoor

def opN (o : Int) : Int := if 1 + pk o 16 = 4 ∨ 1 + pk o 16 = 5 then 8 else 1 + pk o 16
def twoN (i : Nat) (op : Int) : LIns := ⟨4, 2 + i, 1 + i, i, op, 0, ⟨#[]⟩, []⟩
def numN (d : Nat) (n : Int) : LIns := ⟨1, d, 0, 0, 0, n, ⟨#[]⟩, []⟩
/-- the first instructions; o: the operators -/
def nuL (one two : Int) (o : Nat → Int) : Nat → List LIns
  | 0 => [numN 0 one, numN 1 two]
  | i + 1 => nuL one two o i ++ [twoN i (o i)]
/-- the numbers that they make -/
def vaN2 (one two : Int) (o : Nat → Int) : Nat → Int × Int
  | 0 => (one, two)
  | i + 1 => ((vaN2 one two o i).2, Ar.two (o i) (vaN2 one two o i).2 (vaN2 one two o i).1)
def valN (one two : Int) (o : Nat → Int) (j : Nat) : Int := (vaN2 one two o j).1
theorem valN_two (one two : Int) (o : Nat → Int) (i : Nat) : valN one two o (i + 2) = Ar.two (o i) (valN one two o (i + 1)) (valN one two o i) := rfl
theorem valN_0 (one two : Int) (o : Nat → Int) : valN one two o 0 = one := rfl
theorem valN_1 (one two : Int) (o : Nat → Int) : valN one two o 1 = two := rfl
theorem nuL_len (one two : Int) (o : Nat → Int) : ∀ i, (nuL one two o i).length = i + 2
  | 0 => rfl
  | i + 1 => by show (nuL one two o i ++ [twoN i (o i)]).length = _; rw [List.length_append, nuL_len one two o i]; rfl
def folN (one two : Int) (o : Nat → Int) : Nat → List LIns
  | 0 => [numN 0 one, numN 1 two]
  | i + 1 => folN one two o i ++ [numN (i + 2) (valN one two o (i + 2))]
theorem folN_len (one two : Int) (o : Nat → Int) : ∀ i, (folN one two o i).length = i + 2
  | 0 => rfl
  | i + 1 => by show (folN one two o i ++ [_]).length = _; rw [List.length_append, folN_len one two o i]; rfl
/-- what is known behind the first instructions -/
def EnvN (one two : Int) (o : Nat → Int) (i : Nat) (E : Env) : Prop := (∀ j : Nat, j < i + 2 → E j = some (.num (valN one two o j))) ∧ ∀ k : Int, ((i : Int) + 2 ≤ k ∨ k < 0) → E k = none
theorem value_num {E : Env} {k : Int} {n : Int} (h : E k = some (.num n)) : valueE E k = k := by unfold valueE; rw [h]
theorem learn_numN {one two : Int} {o : Nat → Int} {i : Nat} {E : Env} (h : EnvN one two o i E) (n : Int) (hn : n = valN one two o (i + 2)) : EnvN one two o (i + 1) (learnE E (numN (i + 2) n)) := by
  have hl : learnE E (numN (i + 2) n) = putE (forgetE E ((i + 2 : Nat) : Int)) ((i + 2 : Nat) : Int) (.num n) := by
    unfold learnE
    have hs : setsE (numN (i + 2) n) = ((i + 2 : Nat) : Int) := rfl
    rw [hs, if_neg (by intro e; rcases e with e | ⟨e, _⟩; omega; exact absurd e (by show ¬ ((1 : Int) = 2); decide)), if_pos (show (numN (i + 2) n).kind = 1 from rfl)]; rfl
  rw [hl]
  constructor
  · intro j hj
    unfold putE
    by_cases hji : j = i + 2
    · subst hji; rw [if_pos rfl, hn]
    · rw [if_neg (by omega)]
      have hE := h.1 j (by omega)
      unfold forgetE
      rw [if_neg (by omega), hE, if_neg (by simp)]
  · intro k hk
    unfold putE
    rw [if_neg (by omega)]
    have hE := h.2 k (by omega)
    unfold forgetE
    rw [if_neg (by omega), hE, if_neg (by simp)]
theorem nu_fold (one two : Int) (o : Nat → Int) (ho : ∀ i, 1 ≤ o i ∧ o i ≤ 16 ∧ o i ≠ 4 ∧ o i ≠ 5) : ∀ i, insL E0 (nuL one two o i) = folN one two o i ∧ EnvN one two o i (envE E0 (nuL one two o i))
  | 0 => by
    have i0 : insE E0 (numN 0 one) = numN 0 one := insE_num rfl
    have hE : ∀ E : Env, ∀ d n, learnE E (numN d n) = putE (forgetE E (d : Int)) (d : Int) (.num n) := fun E d n => by
      unfold learnE
      have hs : setsE (numN d n) = (d : Int) := rfl
      rw [hs, if_neg (by intro e; rcases e with e | ⟨e, _⟩; omega; exact absurd e (by show ¬ ((1 : Int) = 2); decide)), if_pos (show (numN d n).kind = 1 from rfl)]; rfl
    have i1 : ∀ E, insE E (numN 1 two) = numN 1 two := fun E => insE_num rfl
    refine ⟨?_, ?_⟩
    · show [insE E0 (numN 0 one), insE (learnE E0 (insE E0 (numN 0 one))) (numN 1 two)] = _
      rw [i0, i1]; rfl
    · show EnvN one two o 0 (learnE (learnE E0 (insE E0 (numN 0 one))) (insE (learnE E0 (insE E0 (numN 0 one))) (numN 1 two)))
      rw [i0, i1, hE, hE]
      constructor
      · intro j hj
        rcases (by omega : j = 0 ∨ j = 1) with rfl | rfl
        · unfold putE forgetE
          simp [valN, vaN2]
        · unfold putE
          simp [valN, vaN2]
      · intro k hk
        have k0 : k ≠ 0 := by omega
        have k1 : k ≠ 1 := by omega
        simp [putE, forgetE, E0, k0, k1]
  | i + 1 => by
    obtain ⟨h1, h2⟩ := nu_fold one two o ho i
    have ha : (envE E0 (nuL one two o i)) ((1 + i : Nat) : Int) = some (.num (valN one two o (i + 1))) := by
      rw [show 1 + i = i + 1 by omega]; exact h2.1 (i + 1) (by omega)
    have hb := h2.1 i (by omega)
    obtain ⟨q1, q2, q3, q4⟩ := ho i
    have hx : insE (envE E0 (nuL one two o i)) (twoN i (o i)) = numN (i + 2) (valN one two o (i + 2)) := by
      generalize envE E0 (nuL one two o i) = E at *
      have hc : ((1 : Int) + (i : Int)) = ((1 + i : Nat) : Int) := by omega
      have hs : subE E (twoN i (o i)) = twoN i (o i) := by
        unfold subE twoN
        simp only []
        rw [if_neg (by decide), if_pos (by decide), hc, value_num ha, value_num hb]
      have hk : isKnown E (twoN i (o i)) = true := by
        unfold isKnown twoN
        simp only []
        rw [hc, ha, hb]
        simp [isNum, Ar.twoOk, q1, q2, q3, q4]
      have hn : knownN E (twoN i (o i)) = valN one two o (i + 2) := by
        unfold knownN twoN
        simp only []
        rw [hc, ha, hb]
        simp [isNum, numOf, valN_two]
      unfold insE
      rw [hs, hk, if_pos rfl, hn]
      unfold numN twoN
      simp only []
      congr 1
      omega
    refine ⟨?_, ?_⟩
    · show insL E0 (nuL one two o i ++ [twoN i (o i)]) = folN one two o i ++ [_]
      rw [insL_snoc, h1, hx]
    · show EnvN one two o (i + 1) (envE E0 (nuL one two o i ++ [twoN i (o i)]))
      rw [envE_append]
      show EnvN one two o (i + 1) (learnE (envE E0 (nuL one two o i)) (insE (envE E0 (nuL one two o i)) (twoN i (o i))))
      rw [hx]
      exact learn_numN h2 _ rfl
/-! ### the unit -/
def nuB (one two : Int) (o : Nat → Int) (m : Nat) : LBlock := ⟨nuL one two o m, ⟨3, m + 1, 0, 0⟩⟩
def nuF (one two : Int) (o : Nat → Int) (m : Nat) : LFlow := ⟨⟨#[109, 97, 105, 110]⟩, 0, 12, [nuB one two o m]⟩
def nuU (one two : Int) (o : Nat → Int) (m : Nat) : LUnit := ⟨[], [nuF one two o m]⟩
theorem nuL_mem {one two : Int} {o : Nat → Int} {x : LIns} : ∀ {m : Nat}, x ∈ nuL one two o m → x = numN 0 one ∨ x = numN 1 two ∨ ∃ i, i < m ∧ x = twoN i (o i)
  | 0, h => by
    rcases List.mem_cons.1 h with h | h
    · exact .inl h
    · exact .inr (.inl (List.mem_singleton.1 h))
  | m + 1, h => by
    rcases List.mem_append.1 (show x ∈ nuL one two o m ++ [twoN m (o m)] from h) with h | h
    · rcases nuL_mem h with h | h | ⟨i, hi, h⟩
      · exact .inl h
      · exact .inr (.inl h)
      · exact .inr (.inr ⟨i, by omega, h⟩)
    · exact .inr (.inr ⟨m, by omega, List.mem_singleton.1 h⟩)
theorem nu_ok (one two : Int) (o : Nat → Int) (ho : ∀ i, 1 ≤ o i ∧ o i ≤ 16 ∧ o i ≠ 4 ∧ o i ≠ 5) {m : Nat} (hm : m ≤ 8) : UnitOk (nuU one two o m) where
  sizes := fun a ha => by cases ha
  arrs := by show 0 ≤ 500; omega
  fls := by show 1 ≤ 500; omega
  good := fun s hs => by
    have h : s = (⟨#[109, 97, 105, 110]⟩ : ByteArray) := by simpa [allNames, nuU, nuF] using hs
    exact .inl h
  nodup := by simp [allNames, nuU]
  main := ⟨0, by show 0 < 1; omega, by unfold placeU findI; rfl, by show (0 : Int) ≤ 0; omega⟩
  nums := fun f hf => by
    obtain rfl : f = _ := List.mem_singleton.1 hf
    unfold flowBad
    refine decide_eq_false ?_
    have hi : insCount [nuB one two o m] = m + 2 := by unfold insCount nuB; simp [nuL_len]
    show ¬ ((0 : Int) < 0 ∨ (0 : Int) > 6 ∨ (12 : Int) < 0 ∨ (12 : Int) > 50000 ∨ 1 = 0 ∨ 1 > 20000 ∨ insCount [nuB one two o m] > 200000)
    rw [hi]; omega
  lens := fun f hf b hb => by
    obtain rfl : f = _ := List.mem_singleton.1 hf
    obtain rfl : b = _ := List.mem_singleton.1 hb
    show (nuL one two o m).length ≤ 1000
    rw [nuL_len]; omega
  blocks := fun f hf => by
    obtain rfl : f = _ := List.mem_singleton.1 hf
    show (blockBad _ _ (nuB one two o m) || false) = false
    rw [Bool.or_false]
    unfold blockBad
    simp only [Bool.or_eq_false_iff, Bool.not_eq_false', List.any_eq_false]
    refine ⟨?_, fun x hx => ?_⟩
    · have h1 : (0 : Int) ≤ (m : Int) + 1 ∧ (m : Int) + 1 < 12 := by omega
      show termOk 1 12 ⟨3, (m : Int) + 1, 0, 0⟩ = true
      simp [termOk, placeIf, h1]
    · have hok : insOk (nuU one two o m) 12 x = true := by
        rcases nuL_mem hx with rfl | rfl | ⟨i, hi, rfl⟩
        · simp [insOk, numN, placeIf, hasD, hasA, hasB, opOk, namedOk]
        · simp [insOk, numN, placeIf, hasD, hasA, hasB, opOk, namedOk]
        · obtain ⟨q1, q2, _, _⟩ := ho i
          have h1 : (0 : Int) ≤ 2 + (i : Int) ∧ (2 : Int) + i < 12 := by omega
          have h2 : (0 : Int) ≤ 1 + (i : Int) ∧ (1 : Int) + i < 12 := by omega
          have h3 : (0 : Int) ≤ (i : Int) ∧ (i : Int) < 12 := by omega
          simp [insOk, twoN, placeIf, hasD, hasA, hasB, opOk, namedOk, h1, h2, h3, q1, q2]
      show ¬ ((!insOk (nuU one two o m) 12 x) = true)
      rw [hok]; decide
theorem nu_block (one two : Int) (o : Nat → Int) (ho : ∀ i, 1 ≤ o i ∧ o i ≤ 16 ∧ o i ≠ 4 ∧ o i ≠ 5) (m : Nat) : blockE (nuB one two o m) = ⟨folN one two o m, ⟨3, m + 1, 0, 0⟩⟩ := by
  obtain ⟨h1, h2⟩ := nu_fold one two o ho m
  unfold blockE
  show LBlock.mk (insL E0 (nuL one two o m)) (termE (envE E0 (nuL one two o m)) ⟨3, m + 1, 0, 0⟩) = _
  rw [h1]
  congr 1
  have ha := h2.1 (m + 1) (by omega)
  have hc : ((m : Int) + 1) = ((m + 1 : Nat) : Int) := by omega
  unfold termE
  rw [if_neg (by show ¬ ((3 : Int) = 1); decide)]
  show (if isNum (envE E0 (nuL one two o m) (valueE (envE E0 (nuL one two o m)) ((m : Int) + 1))) = true ∧ (3 : Int) = 2 then _ else _) = _
  rw [if_neg (by intro e; exact absurd e.2 (by decide))]
  show LTerm.mk 3 (valueE (envE E0 (nuL one two o m)) ((m : Int) + 1)) 0 0 = _
  rw [hc, value_num ha]
theorem folN_get {one two : Int} {o : Nat → Int} : ∀ {m j : Nat}, j < m + 2 → (folN one two o m)[j]? = some (numN j (valN one two o j))
  | 0, j, h => by rcases (by omega : j = 0 ∨ j = 1) with rfl | rfl <;> rfl
  | m + 1, j, h => by
    show (folN one two o m ++ [_])[j]? = _
    by_cases hj : j < m + 2
    · rw [List.getElem?_append_left (by rw [folN_len]; exact hj)]; exact folN_get hj
    · obtain rfl : j = m + 2 := by omega
      rw [List.getElem?_append_right (by rw [folN_len]; omega), folN_len]; simp
theorem folN_nums (one two : Int) (o : Nat → Int) : ∀ m, ((folN one two o m).filter fun x => decide (x.kind = 1)).length = m + 2
  | 0 => rfl
  | m + 1 => by
    show ((folN one two o m ++ [_]).filter _).length = _
    rw [List.filter_append, List.length_append, folN_nums one two o m]; rfl
theorem nu_known (one two : Int) (o : Nat → Int) (ho : ∀ i, 1 ≤ o i ∧ o i ≤ 16 ∧ o i ≠ 4 ∧ o i ≠ 5) (m : Nat) : knownA (foldE (nuU one two o m)) = m + 2 := by
  unfold knownA
  rw [blocks_fold]
  show ([nuB one two o m].map blockE |>.map numsB).sum = _
  show (numsB (blockE (nuB one two o m)) + 0) = _
  rw [nu_block one two o ho m, Nat.add_zero]
  exact folN_nums one two o m
end Go.Proofs.YtnpnhdmfdhnmfaaGreatDoor
