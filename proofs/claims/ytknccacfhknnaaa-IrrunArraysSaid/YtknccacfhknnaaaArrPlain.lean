/- What the run of chapter 11's statement on arrays is. -/
import Derived.Test.YtknccacfhknnaaaAwake11
namespace Go.Proofs.Ytknccacfhknnaaa

def nA : ByteArray := ⟨#[97]⟩
def nB : ByteArray := ⟨#[98]⟩
def arrF (i n k : Int) : LFlow := ⟨⟨#[109, 97, 105, 110]⟩, 0, 5, [⟨[⟨1, 0, 0, 0, 0, i, ⟨#[]⟩, []⟩, ⟨1, 1, 0, 0, 0, n, ⟨#[]⟩, []⟩, ⟨6, 0, 0, 1, 0, 0, ⟨#[97]⟩, []⟩, ⟨1, 2, 0, 0, 0, k, ⟨#[]⟩, []⟩, ⟨5, 3, 2, 0, 0, 0, ⟨#[97]⟩, []⟩, ⟨5, 4, 2, 0, 0, 0, ⟨#[98]⟩, []⟩, ⟨8, 0, 3, 0, 0, 0, ⟨#[]⟩, []⟩, ⟨8, 0, 4, 0, 0, 0, ⟨#[]⟩, []⟩], ⟨3, 1, 0, 0⟩⟩]⟩
def arrU (i n k : Int) : LUnit := ⟨[(⟨#[97]⟩, 10), (⟨#[98]⟩, 10)], [arrF i n k]⟩
theorem arr_unit (i n k : Int) : UnitOk (arrU i n k) where
  sizes := fun a ha => by
    have h : a = ((⟨#[97]⟩ : ByteArray), (10 : Int)) ∨ a = ((⟨#[98]⟩ : ByteArray), (10 : Int)) := by simpa [arrU] using ha
    rcases h with rfl | rfl <;> simp
  arrs := by show 2 ≤ 500; omega
  fls := by show 1 ≤ 500; omega
  good := fun s hs => by
    have h : s = (⟨#[97]⟩ : ByteArray) ∨ s = (⟨#[98]⟩ : ByteArray) ∨ s = (⟨#[109, 97, 105, 110]⟩ : ByteArray) := by simpa [allNames, arrU, arrF] using hs
    rcases h with rfl | rfl | rfl
    · exact .inr (.inr (.inr (.inl rfl)))
    · exact .inr (.inr (.inr (.inr rfl)))
    · exact .inl rfl
  nodup := by simp [allNames, arrU, arrF]
  main := ⟨0, by show 0 < 1; omega, rfl, Int.le_refl _⟩
  nums := fun f hf => by
    obtain rfl : f = arrF i n k := List.mem_singleton.1 hf
    rfl
  lens := fun f hf b hb => by
    obtain rfl : f = arrF i n k := List.mem_singleton.1 hf
    obtain rfl : b = _ := List.mem_singleton.1 hb
    show 8 ≤ 1000
    omega
  blocks := fun f hf => by
    obtain rfl : f = arrF i n k := List.mem_singleton.1 hf
    have e4 : termOk (1 : Int) 5 ⟨3, 1, 0, 0⟩ = true := by decide
    have e5 : ((arrF i n k).blocks.length : Int) = (1 : Nat) := rfl
    have e6 : (arrF i n k).values = 5 := rfl
    rw [List.any_eq_false]
    intro b hb
    obtain rfl : b = _ := List.mem_singleton.1 hb
    unfold blockBad
    rw [e5, e6]
    simp [e4, insOk, opOk, namedOk, placeIf, hasD, hasA, hasB, arrU]
def z10 : List Int := List.replicate 10 0
def arrM (i n k : Int) (l : List Int) (vs : List Int) (at_ : Int) (out : List Int) (sp : Int) : MRun := ⟨[(⟨#[97]⟩, l), (⟨#[98]⟩, z10)], [], [⟨arrF i n k, vs, 0, at_, 0⟩], 0, 0, out, sp⟩
theorem arrM_next (i n k : Int) (l vs : List Int) (at_ : Int) (out : List Int) (sp : Int) (j : Nat) : runM (arrU i n k) (j + 1) (arrM i n k l vs at_ out sp) = runM (arrU i n k) j (stepM (arrU i n k) (arrM i n k l vs at_ out (sp + 1))) := by
  rw [runM_succ, if_pos (show (arrM i n k l vs at_ out sp).status = 0 from rfl)]; rfl
theorem rep_zero (n j : Nat) : (List.replicate n (0 : Int)).getD j 0 = 0 := by
  rw [List.getD_eq_getElem?_getD, List.getElem?_replicate]
  split <;> rfl
theorem arr_s1 (i n k : Int) : stepM (arrU i n k) (arrM i n k z10 [0, 0, 0, 0, 0] 0 [] 1) = arrM i n k z10 [i, 0, 0, 0, 0] 1 [] 1 := rfl
theorem arr_s2 (i n k : Int) : stepM (arrU i n k) (arrM i n k z10 [i, 0, 0, 0, 0] 1 [] 2) = arrM i n k z10 [i, n, 0, 0, 0] 2 [] 2 := rfl
theorem arr_s3 (i n k : Int) : stepM (arrU i n k) (arrM i n k z10 [i, n, 0, 0, 0] 2 [] 3) = if 0 ≤ i ∧ i < ((10 : Nat) : Int) then arrM i n k (z10.set i.toNat n) [i, n, 0, 0, 0] 3 [] 3 else (arrM i n k z10 [i, n, 0, 0, 0] 3 [] 3).stop 3 0 := by
  show insM (arrU i n k) (arrM i n k z10 [i, n, 0, 0, 0] 3 [] 3) ⟨arrF i n k, [i, n, 0, 0, 0], 0, 3, 0⟩ ⟨6, 0, 0, 1, 0, 0, ⟨#[97]⟩, []⟩ = _
  rw [insM_6 rfl]
  rfl
theorem arr_s4 (i n k : Int) (l : List Int) : stepM (arrU i n k) (arrM i n k l [i, n, 0, 0, 0] 3 [] 4) = arrM i n k l [i, n, k, 0, 0] 4 [] 4 := rfl
theorem arr_s5 (i n k : Int) (l : List Int) (h0 : 0 ≤ k) (h1 : k < (l.length : Int)) : stepM (arrU i n k) (arrM i n k l [i, n, k, 0, 0] 4 [] 5) = arrM i n k l [i, n, k, l.getD k.toNat 0, 0] 5 [] 5 := by
  show insM (arrU i n k) (arrM i n k l [i, n, k, 0, 0] 5 [] 5) ⟨arrF i n k, [i, n, k, 0, 0], 0, 5, 0⟩ ⟨5, 3, 2, 0, 0, 0, ⟨#[97]⟩, []⟩ = _
  rw [insM_5 rfl]
  have e : (arrM i n k l [i, n, k, 0, 0] 5 [] 5).arr ⟨#[97]⟩ = l := rfl
  show (if 0 ≤ k ∧ k < ((((arrM i n k l [i, n, k, 0, 0] 5 [] 5).arr ⟨#[97]⟩).length : Nat) : Int) then _ else _) = _
  rw [e, if_pos ⟨h0, h1⟩]
  rfl
theorem arr_s6 (i n k : Int) (l : List Int) (y : Int) (h0 : 0 ≤ k) (h1 : k < 10) : stepM (arrU i n k) (arrM i n k l [i, n, k, y, 0] 5 [] 6) = arrM i n k l [i, n, k, y, 0] 6 [] 6 := by
  show insM (arrU i n k) (arrM i n k l [i, n, k, y, 0] 6 [] 6) ⟨arrF i n k, [i, n, k, y, 0], 0, 6, 0⟩ ⟨5, 4, 2, 0, 0, 0, ⟨#[98]⟩, []⟩ = _
  rw [insM_5 rfl]
  have e : (arrM i n k l [i, n, k, y, 0] 6 [] 6).arr ⟨#[98]⟩ = z10 := rfl
  show (if 0 ≤ k ∧ k < ((((arrM i n k l [i, n, k, y, 0] 6 [] 6).arr ⟨#[98]⟩).length : Nat) : Int) then _ else _) = _
  have h2 : k < ((z10.length : Nat) : Int) := by show k < 10; exact h1
  rw [e, if_pos ⟨h0, h2⟩]
  have e2 : z10.getD k.toNat 0 = 0 := rep_zero 10 _
  show arrM i n k l [i, n, k, y, ((arrM i n k l [i, n, k, y, 0] 6 [] 6).arr ⟨#[98]⟩).getD k.toNat 0] 6 [] 6 = _
  rw [e, e2]
theorem arr_s7 (i n k : Int) (l : List Int) (y : Int) : stepM (arrU i n k) (arrM i n k l [i, n, k, y, 0] 6 [] 7) = arrM i n k l [i, n, k, y, 0] 7 [y] 7 := rfl
theorem arr_s8 (i n k : Int) (l : List Int) (y : Int) : stepM (arrU i n k) (arrM i n k l [i, n, k, y, 0] 7 [y] 8) = arrM i n k l [i, n, k, y, 0] 8 [y, 0] 8 := rfl
theorem arr_s9 (i n k : Int) (l : List Int) (y : Int) : stepM (arrU i n k) (arrM i n k l [i, n, k, y, 0] 8 [y, 0] 9) = ⟨[(⟨#[97]⟩, l), (⟨#[98]⟩, z10)], [], [], 1, n, [y, 0], 9⟩ := rfl
theorem arr_start (i n k : Int) : startRun (arrU i n k) [] = arrM i n k z10 [0, 0, 0, 0, 0] 0 [] 0 := rfl
theorem arr_run (i n k : Int) (h0 : 0 ≤ k) (h1 : k < 10) : runU (arrU i n k) [] 99 = if 0 ≤ i ∧ i < ((10 : Nat) : Int) then ⟨[(⟨#[97]⟩, z10.set i.toNat n), (⟨#[98]⟩, z10)], [], [], 1, n, [(z10.set i.toNat n).getD k.toNat 0, 0], 9⟩ else (arrM i n k z10 [i, n, 0, 0, 0] 3 [] 3).stop 3 0 := by
  unfold runU
  rw [arr_start, show 99 = 98 + 1 from rfl, arrM_next]
  show runM _ 98 (stepM (arrU i n k) (arrM i n k z10 [0, 0, 0, 0, 0] 0 [] 1)) = _
  rw [arr_s1, show 98 = 97 + 1 from rfl, arrM_next]
  show runM _ 97 (stepM (arrU i n k) (arrM i n k z10 [i, 0, 0, 0, 0] 1 [] 2)) = _
  rw [arr_s2, show 97 = 96 + 1 from rfl, arrM_next]
  show runM _ 96 (stepM (arrU i n k) (arrM i n k z10 [i, n, 0, 0, 0] 2 [] 3)) = _
  rw [arr_s3]
  by_cases hi : 0 ≤ i ∧ i < ((10 : Nat) : Int)
  · have hl : k < (((z10.set i.toNat n).length : Nat) : Int) := by rw [List.length_set]; exact h1
    rw [if_pos hi, if_pos hi, show 96 = 95 + 1 from rfl, arrM_next]
    show runM _ 95 (stepM (arrU i n k) (arrM i n k (z10.set i.toNat n) [i, n, 0, 0, 0] 3 [] 4)) = _
    rw [arr_s4, show 95 = 94 + 1 from rfl, arrM_next]
    show runM _ 94 (stepM (arrU i n k) (arrM i n k (z10.set i.toNat n) [i, n, k, 0, 0] 4 [] 5)) = _
    rw [arr_s5 i n k _ h0 hl, show 94 = 93 + 1 from rfl, arrM_next]
    show runM _ 93 (stepM (arrU i n k) (arrM i n k (z10.set i.toNat n) [i, n, k, _, 0] 5 [] 6)) = _
    rw [arr_s6 i n k _ _ h0 h1, show 93 = 92 + 1 from rfl, arrM_next]
    show runM _ 92 (stepM (arrU i n k) (arrM i n k (z10.set i.toNat n) [i, n, k, _, 0] 6 [] 7)) = _
    rw [arr_s7, show 92 = 91 + 1 from rfl, arrM_next]
    show runM _ 91 (stepM (arrU i n k) (arrM i n k (z10.set i.toNat n) [i, n, k, _, 0] 7 [_] 8)) = _
    rw [arr_s8, show 91 = 90 + 1 from rfl, arrM_next]
    show runM _ 90 (stepM (arrU i n k) (arrM i n k (z10.set i.toNat n) [i, n, k, _, 0] 8 [_, 0] 9)) = _
    rw [arr_s9]
    exact runM_end (by show ¬ (1 : Int) = 0; decide) _
  · rw [if_neg hi, if_neg hi]
    exact runM_end (by show ¬ (3 : Int) = 0; decide) _
/-- the run, told -/
structure ArrX (i n k : Int) (st co sp : Int) (out : List Int) : Prop where
  status : (runU (arrU i n k) [] 99).status = st
  code : (runU (arrU i n k) [] 99).code = co
  steps : (runU (arrU i n k) [] 99).steps = sp
  out : (runU (arrU i n k) [] 99).out = out
theorem arr_in {i n k : Int} (h0 : 0 ≤ k) (h1 : k < 10) (hi : 0 ≤ i) (hi' : i ≤ 9) : ArrX i n k 1 n 9 [if i = k then n else 0, 0] := by
  have e := arr_run i n k h0 h1
  have hii : 0 ≤ i ∧ i < ((10 : Nat) : Int) := ⟨hi, by omega⟩
  rw [if_pos hii] at e
  have ey : (z10.set i.toNat n).getD k.toNat 0 = if i = k then n else 0 := by
    have hz : ∀ j, z10.getD j 0 = 0 := fun j => rep_zero 10 j
    rw [List.getD_eq_getElem?_getD, List.getElem?_set]
    by_cases hik : i = k
    · subst hik
      have hl : i.toNat < z10.length := by show i.toNat < 10; omega
      rw [if_pos rfl, if_pos rfl, if_pos hl]
      rfl
    · rw [if_neg (by omega), if_neg hik, ← List.getD_eq_getElem?_getD]
      exact hz _
  rw [ey] at e
  refine ⟨?_, ?_, ?_, ?_⟩ <;> rw [e]
theorem arr_out {i n k : Int} (h0 : 0 ≤ k) (h1 : k < 10) (hi : i < 0 ∨ 9 < i) : ArrX i n k 3 0 3 [] := by
  have e := arr_run i n k h0 h1
  have hii : ¬ (0 ≤ i ∧ i < ((10 : Nat) : Int)) := by omega
  rw [if_neg hii] at e
  refine ⟨?_, ?_, ?_, ?_⟩ <;> rw [e] <;> rfl
end Go.Proofs.Ytknccacfhknnaaa
