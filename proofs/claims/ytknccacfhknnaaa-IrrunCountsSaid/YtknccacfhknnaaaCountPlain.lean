/- What the run of chapter 11's statement on counting is. -/
import Derived.Test.YtknccacfhknnaaaAwake11
namespace Go.Proofs.Ytknccacfhknnaaa
open Go.RowKit

def i0 (k d a b op n : Int) : LIns := ⟨k, d, a, b, op, n, ⟨#[]⟩, []⟩
def cF : LFlow := ⟨⟨#[102]⟩, 1, 3, [⟨[], ⟨2, 0, 1, 2⟩⟩, ⟨[⟨1, 1, 0, 0, 0, 1, ⟨#[]⟩, []⟩, ⟨4, 2, 0, 1, 2, 0, ⟨#[]⟩, []⟩, ⟨9, 2, 0, 0, 0, 0, ⟨#[102]⟩, [2]⟩, ⟨4, 2, 2, 1, 1, 0, ⟨#[]⟩, []⟩], ⟨3, 2, 0, 0⟩⟩, ⟨[], ⟨3, 0, 0, 0⟩⟩]⟩
def cM : LFlow := ⟨⟨#[109, 97, 105, 110]⟩, 0, 4, [⟨[⟨7, 0, 0, 0, 0, 0, ⟨#[]⟩, []⟩, ⟨1, 2, 0, 0, 0, 1, ⟨#[]⟩, []⟩], ⟨1, 0, 1, 0⟩⟩, ⟨[], ⟨2, 0, 2, 3⟩⟩, ⟨[⟨4, 1, 1, 0, 1, 0, ⟨#[]⟩, []⟩, ⟨4, 0, 0, 2, 2, 0, ⟨#[]⟩, []⟩], ⟨1, 0, 1, 0⟩⟩, ⟨[⟨8, 0, 1, 0, 0, 0, ⟨#[]⟩, []⟩, ⟨7, 3, 0, 0, 0, 0, ⟨#[]⟩, []⟩, ⟨9, 3, 0, 0, 0, 0, ⟨#[102]⟩, [3]⟩], ⟨3, 3, 0, 0⟩⟩]⟩
def cU : LUnit := ⟨[], [cF, cM]⟩
theorem cU_mem {f : LFlow} (h : f ∈ cU.flows) : f = cF ∨ f = cM := by simpa [cU] using h
theorem cU_ok : UnitOk cU where
  sizes := fun a ha => by cases ha
  arrs := by decide
  fls := by decide
  good := fun s hs => by
    have h : s = (⟨#[102]⟩ : ByteArray) ∨ s = (⟨#[109, 97, 105, 110]⟩ : ByteArray) := by simpa [allNames, cU, cF, cM] using hs
    rcases h with rfl | rfl
    · exact .inr (.inl rfl)
    · exact .inl rfl
  nodup := by simp [allNames, cU, cF, cM]
  main := ⟨1, by decide, by decide, by decide⟩
  nums := fun f hf => by rcases cU_mem hf with rfl | rfl <;> decide
  lens := fun f hf b hb => by
    rcases cU_mem hf with rfl | rfl
    · exact of_decide_eq_true (List.all_eq_true.1 (show cF.blocks.all (fun b => decide (b.ins.length ≤ 1000)) = true by decide) b hb)
    · exact of_decide_eq_true (List.all_eq_true.1 (show cM.blocks.all (fun b => decide (b.ins.length ≤ 1000)) = true by decide) b hb)
  blocks := fun f hf => by rcases cU_mem hf with rfl | rfl <;> decide

/-- so many steps lead from one state to another one -/
def Goes (n : Nat) (m m' : MRun) : Prop := ∀ r, runM cU (n + r) m = runM cU r m'
theorem Goes.refl (m : MRun) : Goes 0 m m := fun r => by rw [Nat.zero_add]
theorem Goes.trans {a b : Nat} {m m' m'' : MRun} (h : Goes a m m') (k : Goes b m' m'') : Goes (a + b) m m'' := fun r => by rw [Nat.add_assoc, h, k]
theorem Goes.one {m m' : MRun} (h : m.status = 0) (e : stepM cU { m with steps := m.steps + 1 } = m') : Goes 1 m m' := fun r => by rw [Nat.add_comm, runM_succ, if_pos h, e]
theorem two_add {a b : Int} (h0 : -1000000 ≤ a + b) (h1 : a + b ≤ 1000000) : Ar.two 1 a b = a + b := by
  show wrap64 (a + b) = a + b
  unfold wrap64
  omega
theorem two_sub {a b : Int} (h0 : -1000000 ≤ a - b) (h1 : a - b ≤ 1000000) : Ar.two 2 a b = a - b := by
  show wrap64 (a - b) = a - b
  unfold wrap64
  omega
/-- the calls and what was told -/
def cR (inp : List Int) (calls : List MCall) (out : List Int) (sp : Int) : MRun := ⟨[], inp, calls, 0, 0, out, sp⟩

/-! ### the loop -/
def cL (d k acc : Int) (sp : Int) : MRun := cR [d] [⟨cM, [k, acc, 1, 0], 1, 0, 0⟩] [] sp
theorem loop_start (k d : Int) : Goes 3 (startRun cU [k, d]) (cL d k 0 3) := by
  have h1 : Goes 1 (startRun cU [k, d]) (cR [d] [⟨cM, [k, 0, 0, 0], 0, 1, 0⟩] [] 1) := Goes.one rfl rfl
  have h2 : Goes 1 (cR [d] [⟨cM, [k, 0, 0, 0], 0, 1, 0⟩] [] 1) (cR [d] [⟨cM, [k, 0, 1, 0], 0, 2, 0⟩] [] 2) := Goes.one rfl rfl
  have h3 : Goes 1 (cR [d] [⟨cM, [k, 0, 1, 0], 0, 2, 0⟩] [] 2) (cL d k 0 3) := Goes.one rfl rfl
  exact (h1.trans h2).trans h3
theorem loop_test (d k acc sp : Int) : Goes 1 (cL d k acc sp) (cR [d] [⟨cM, [k, acc, 1, 0], if k ≠ 0 then 2 else 3, 0, 0⟩] [] (sp + 1)) := Goes.one rfl rfl
theorem loop_round (d k acc sp : Int) (h0 : 1 ≤ k) (h1 : k ≤ 100) (h2 : 0 ≤ acc) (h3 : acc ≤ 10000) : Goes 4 (cL d k acc sp) (cL d (k - 1) (acc + k) (sp + 4)) := by
  have e1 := loop_test d k acc sp
  rw [if_pos (by omega)] at e1
  have e2 : Goes 1 (cR [d] [⟨cM, [k, acc, 1, 0], 2, 0, 0⟩] [] (sp + 1)) (cR [d] [⟨cM, [k, acc + k, 1, 0], 2, 1, 0⟩] [] (sp + 1 + 1)) := Goes.one rfl (by
    rw [← two_add (a := acc) (b := k) (by omega) (by omega)]; rfl)
  have e3 : Goes 1 (cR [d] [⟨cM, [k, acc + k, 1, 0], 2, 1, 0⟩] [] (sp + 1 + 1)) (cR [d] [⟨cM, [k - 1, acc + k, 1, 0], 2, 2, 0⟩] [] (sp + 1 + 1 + 1)) := Goes.one rfl (by
    rw [← two_sub (a := k) (b := 1) (by omega) (by omega)]; rfl)
  have e4 : Goes 1 (cR [d] [⟨cM, [k - 1, acc + k, 1, 0], 2, 2, 0⟩] [] (sp + 1 + 1 + 1)) (cL d (k - 1) (acc + k) (sp + 1 + 1 + 1 + 1)) := Goes.one rfl rfl
  have h := ((e1.trans e2).trans e3).trans e4
  have es : sp + 1 + 1 + 1 + 1 = sp + 4 := by omega
  rw [es] at h
  exact h
def tri : Nat → Nat
  | 0 => 0
  | n + 1 => n + 1 + tri n
theorem tri_le : ∀ n, n ≤ 100 → tri n ≤ n * 100
  | 0, _ => Nat.le_refl _
  | n + 1, h => by have := tri_le n (by omega); unfold tri; omega
theorem loop_all (d : Int) : ∀ (k : Nat) (acc sp : Int), k ≤ 100 → 0 ≤ acc → acc + tri k ≤ 10000 → Goes (4 * k) (cL d k acc sp) (cL d 0 (acc + tri k) (sp + 4 * k))
  | 0, acc, sp, _, _, _ => by
    have e1 : acc + ((tri 0 : Nat) : Int) = acc := by show acc + ((0 : Nat) : Int) = acc; omega
    have e2 : sp + 4 * ((0 : Nat) : Int) = sp := by omega
    rw [e1, e2]
    exact Goes.refl _
  | k + 1, acc, sp, hk, h0, h1 => by
    have ht : ((tri (k + 1) : Nat) : Int) = (k : Int) + 1 + (tri k : Int) := by show ((k + 1 + tri k : Nat) : Int) = _; omega
    rw [ht] at h1
    have a := loop_round d ((k + 1 : Nat) : Int) acc sp (by omega) (by omega) h0 (by omega)
    have b := loop_all d k (acc + ((k + 1 : Nat) : Int)) (sp + 4) (by omega) (by omega) (by omega)
    have e1 : ((k + 1 : Nat) : Int) - 1 = (k : Int) := by omega
    rw [e1] at a
    have c := a.trans b
    have e2 : 4 + 4 * k = 4 * (k + 1) := by omega
    have e3 : acc + ((k + 1 : Nat) : Int) + ((tri k : Nat) : Int) = acc + ((tri (k + 1) : Nat) : Int) := by rw [ht]; omega
    have e4 : sp + 4 + 4 * (k : Int) = sp + 4 * ((k + 1 : Nat) : Int) := by omega
    rw [e2, e3, e4] at c
    exact c

/-! ### the calls -/
def fNew (n i : Int) : MCall := ⟨cF, [n, 0, 0], 0, 0, i⟩
def fWait (n i : Int) : MCall := ⟨cF, [n, 1, n - 1], 1, 3, i⟩
def fBack (n i x : Int) : MCall := ⟨cF, [n, 1, x], 1, 3, i⟩
def mWait (acc x : Int) : MCall := ⟨cM, [0, acc, 1, x], 3, 3, 0⟩
theorem main_calls (d acc sp : Int) : Goes 4 (cL d 0 acc sp) (cR [] [fNew d 3, mWait acc d] [acc] (sp + 4)) := by
  have e1 := loop_test d 0 acc sp
  rw [if_neg (by omega)] at e1
  have e2 : Goes 1 (cR [d] [⟨cM, [0, acc, 1, 0], 3, 0, 0⟩] [] (sp + 1)) (cR [d] [⟨cM, [0, acc, 1, 0], 3, 1, 0⟩] [acc] (sp + 1 + 1)) := Goes.one rfl rfl
  have e3 : Goes 1 (cR [d] [⟨cM, [0, acc, 1, 0], 3, 1, 0⟩] [acc] (sp + 1 + 1)) (cR [] [⟨cM, [0, acc, 1, d], 3, 2, 0⟩] [acc] (sp + 1 + 1 + 1)) := Goes.one rfl rfl
  have e4 : Goes 1 (cR [] [⟨cM, [0, acc, 1, d], 3, 2, 0⟩] [acc] (sp + 1 + 1 + 1)) (cR [] [fNew d 3, mWait acc d] [acc] (sp + 1 + 1 + 1 + 1)) := Goes.one rfl rfl
  have h := ((e1.trans e2).trans e3).trans e4
  have es : sp + 1 + 1 + 1 + 1 = sp + 4 := by omega
  rw [es] at h
  exact h
theorem f_test (n i : Int) (S : List MCall) (out : List Int) (sp : Int) : Goes 1 (cR [] (fNew n i :: S) out sp) (cR [] (⟨cF, [n, 0, 0], if n ≠ 0 then 1 else 2, 0, i⟩ :: S) out (sp + 1)) := Goes.one rfl rfl
theorem f_three (n i : Int) (S : List MCall) (out : List Int) (sp : Int) (h0 : 1 ≤ n) (h1 : n ≤ 100) : Goes 3 (cR [] (fNew n i :: S) out sp) (cR [] (⟨cF, [n, 1, n - 1], 1, 2, i⟩ :: S) out (sp + 3)) := by
  have e1 := f_test n i S out sp
  rw [if_pos (by omega)] at e1
  have e2 : Goes 1 (cR [] (⟨cF, [n, 0, 0], 1, 0, i⟩ :: S) out (sp + 1)) (cR [] (⟨cF, [n, 1, 0], 1, 1, i⟩ :: S) out (sp + 1 + 1)) := Goes.one rfl rfl
  have e3 : Goes 1 (cR [] (⟨cF, [n, 1, 0], 1, 1, i⟩ :: S) out (sp + 1 + 1)) (cR [] (⟨cF, [n, 1, n - 1], 1, 2, i⟩ :: S) out (sp + 1 + 1 + 1)) := Goes.one rfl (by
    rw [← two_sub (a := n) (b := 1) (by omega) (by omega)]; rfl)
  have h := (e1.trans e2).trans e3
  have es : sp + 1 + 1 + 1 = sp + 3 := by omega
  rw [es] at h
  exact h
theorem f_call (n i : Int) (S : List MCall) (out : List Int) (sp : Int) : Goes 1 (cR [] (⟨cF, [n, 1, n - 1], 1, 2, i⟩ :: S) out sp) (if S.length + 1 ≥ 50 then (cR [] (fWait n i :: S) out (sp + 1)).stop 4 0 else cR [] (fNew (n - 1) 2 :: fWait n i :: S) out (sp + 1)) := Goes.one rfl rfl
theorem f_down (n i : Int) (S : List MCall) (out : List Int) (sp : Int) (h0 : 1 ≤ n) (h1 : n ≤ 100) (hs : S.length ≤ 48) : Goes 4 (cR [] (fNew n i :: S) out sp) (cR [] (fNew (n - 1) 2 :: fWait n i :: S) out (sp + 4)) := by
  have a := f_three n i S out sp h0 h1
  have b := f_call n i S out (sp + 3)
  rw [if_neg (by omega)] at b
  have h := a.trans b
  have es : sp + 3 + 1 = sp + 4 := by omega
  rw [es] at h
  exact h
theorem f_deep (n i : Int) (S : List MCall) (out : List Int) (sp : Int) (h0 : 1 ≤ n) (h1 : n ≤ 100) (hs : S.length = 49) : Goes 4 (cR [] (fNew n i :: S) out sp) ((cR [] (fWait n i :: S) out (sp + 4)).stop 4 0) := by
  have a := f_three n i S out sp h0 h1
  have b := f_call n i S out (sp + 3)
  rw [if_pos (by omega)] at b
  have h := a.trans b
  have es : sp + 3 + 1 = sp + 4 := by omega
  rw [es] at h
  exact h
/-- the calls that wait, when so many have been made -/
def cWaits (d acc : Int) : Nat → List MCall
  | 0 => [mWait acc d]
  | j + 1 => fWait (d - j) (if j = 0 then 3 else 2) :: cWaits d acc j
theorem cWaits_len (d acc : Int) : ∀ j, (cWaits d acc j).length = j + 1
  | 0 => rfl
  | j + 1 => by unfold cWaits; simp [cWaits_len d acc j]
theorem all_down (d acc : Int) (hd : d ≤ 100) (sp : Int) : ∀ j : Nat, (j : Int) ≤ d → j ≤ 48 → Goes (4 * j) (cR [] (fNew d 3 :: cWaits d acc 0) [acc] sp) (cR [] (fNew (d - j) (if j = 0 then 3 else 2) :: cWaits d acc j) [acc] (sp + 4 * j))
  | 0, _, _ => by
    have e1 : d - ((0 : Nat) : Int) = d := by omega
    have e2 : sp + 4 * ((0 : Nat) : Int) = sp := by omega
    rw [e1, e2]
    exact Goes.refl _
  | j + 1, h0, h1 => by
    have a := all_down d acc hd sp j (by omega) (by omega)
    have b := f_down (d - j) (if j = 0 then 3 else 2) (cWaits d acc j) [acc] (sp + 4 * j) (by omega) (by omega) (by rw [cWaits_len]; omega)
    have c := a.trans b
    have e1 : d - (j : Int) - 1 = d - ((j + 1 : Nat) : Int) := by omega
    have e2 : sp + 4 * (j : Int) + 4 = sp + 4 * ((j + 1 : Nat) : Int) := by omega
    have e3 : 4 * j + 4 = 4 * (j + 1) := by omega
    rw [e1, e2, e3] at c
    exact c
/-- x is handed back to the call that cWaits first -/
def backs (d acc : Int) : Nat → Int → List MCall
  | 0, x => [mWait acc x]
  | j + 1, x => fBack (d - j) (if j = 0 then 3 else 2) x :: cWaits d acc j
theorem f_zero (d acc : Int) (j : Nat) (sp : Int) (hj : (j : Int) = d) : Goes 2 (cR [] (fNew (d - j) (if j = 0 then 3 else 2) :: cWaits d acc j) [acc] sp) (cR [] (backs d acc j 0) [acc] (sp + 2)) := by
  have e0 : d - (j : Int) = 0 := by omega
  rw [e0]
  have e1 := f_test 0 (if j = 0 then 3 else 2) (cWaits d acc j) [acc] sp
  rw [if_neg (show ¬ ((0 : Int) ≠ 0) from fun h => h rfl)] at e1
  have e2 : Goes 1 (cR [] (⟨cF, [0, 0, 0], 2, 0, if j = 0 then 3 else 2⟩ :: cWaits d acc j) [acc] (sp + 1)) (cR [] (backs d acc j 0) [acc] (sp + 1 + 1)) := Goes.one rfl (by
    cases j with
    | zero => rfl
    | succ j => rfl)
  have h := e1.trans e2
  have es : sp + 1 + 1 = sp + 2 := by omega
  rw [es] at h
  exact h
theorem f_up (d acc : Int) (j : Nat) (x sp : Int) (h0 : 0 ≤ x) (h1 : x ≤ 100) : Goes 2 (cR [] (backs d acc (j + 1) x) [acc] sp) (cR [] (backs d acc j (x + 1)) [acc] (sp + 2)) := by
  have e1 : Goes 1 (cR [] (backs d acc (j + 1) x) [acc] sp) (cR [] (⟨cF, [d - j, 1, x + 1], 1, 4, if j = 0 then 3 else 2⟩ :: cWaits d acc j) [acc] (sp + 1)) := Goes.one rfl (by
    rw [← two_add (a := x) (b := 1) (by omega) (by omega)]; rfl)
  have e2 : Goes 1 (cR [] (⟨cF, [d - j, 1, x + 1], 1, 4, if j = 0 then 3 else 2⟩ :: cWaits d acc j) [acc] (sp + 1)) (cR [] (backs d acc j (x + 1)) [acc] (sp + 1 + 1)) := Goes.one rfl (by
    cases j with
    | zero => rfl
    | succ j => rfl)
  have h := e1.trans e2
  have es : sp + 1 + 1 = sp + 2 := by omega
  rw [es] at h
  exact h
theorem all_up (d acc : Int) : ∀ (j : Nat) (x sp : Int), 0 ≤ x → x + j ≤ 100 → Goes (2 * j) (cR [] (backs d acc j x) [acc] sp) (cR [] (backs d acc 0 (x + j)) [acc] (sp + 2 * j))
  | 0, x, sp, _, _ => by
    have e1 : x + ((0 : Nat) : Int) = x := by omega
    have e2 : sp + 2 * ((0 : Nat) : Int) = sp := by omega
    rw [e1, e2]
    exact Goes.refl _
  | j + 1, x, sp, h0, h1 => by
    have a := f_up d acc j x sp h0 (by omega)
    have b := all_up d acc j (x + 1) (sp + 2) (by omega) (by omega)
    have c := a.trans b
    have e1 : x + 1 + (j : Int) = x + ((j + 1 : Nat) : Int) := by omega
    have e2 : sp + 2 + 2 * (j : Int) = sp + 2 * ((j + 1 : Nat) : Int) := by omega
    have e3 : 2 + 2 * j = 2 * (j + 1) := by omega
    rw [e1, e2, e3] at c
    exact c
theorem last_step (acc x sp : Int) : Goes 1 (cR [] [mWait acc x] [acc] sp) ⟨[], [], [], 1, x, [acc], sp + 1⟩ := Goes.one rfl rfl

/-- the whole run, told -/
structure CountX (k d : Nat) (st co sp : Int) (acc : Int) : Prop where
  status : (runU cU [(k : Int), (d : Int)] 10000).status = st
  code : (runU cU [(k : Int), (d : Int)] 10000).code = co
  steps : (runU cU [(k : Int), (d : Int)] 10000).steps = sp
  out : (runU cU [(k : Int), (d : Int)] 10000).out = [acc]
theorem count_begin (k d : Nat) (hk : k ≤ 100) : Goes (3 + 4 * k + 4) (startRun cU [(k : Int), (d : Int)]) (cR [] [fNew d 3, mWait (tri k) d] [(tri k : Int)] (3 + 4 * k + 4)) := by
  have a := loop_start (k : Int) (d : Int)
  have hl := tri_le k hk
  have b := loop_all (d : Int) k 0 3 hk (Int.le_refl _) (by omega)
  have e1 : (0 : Int) + (tri k : Int) = tri k := by omega
  rw [e1] at b
  exact (a.trans b).trans (main_calls (d : Int) (tri k) (3 + 4 * k))
theorem count_done {k d : Nat} (hk : k ≤ 100) (hd : d ≤ 48) : CountX k d 1 d (3 + 4 * k + 4 + 4 * d + 2 + 2 * d + 1) (tri k) := by
  have a := count_begin k d hk
  have b := all_down (d : Int) (tri k) (by omega) (3 + 4 * k + 4) d (Int.le_refl _) hd
  have c := f_zero (d : Int) (tri k) d (3 + 4 * k + 4 + 4 * d) rfl
  have e := all_up (d : Int) (tri k) d 0 (3 + 4 * k + 4 + 4 * d + 2) (Int.le_refl _) (by omega)
  have e0 : (0 : Int) + (d : Int) = d := by omega
  rw [e0] at e
  have f := last_step (tri k) d (3 + 4 * k + 4 + 4 * d + 2 + 2 * d)
  have g := (((a.trans b).trans c).trans e).trans f
  have hr : runU cU [(k : Int), (d : Int)] 10000 = ⟨[], [], [], 1, d, [(tri k : Int)], 3 + 4 * k + 4 + 4 * d + 2 + 2 * d + 1⟩ := by
    have h := g (10000 - (3 + 4 * k + 4 + 4 * d + 2 + 2 * d + 1))
    rw [show 3 + 4 * k + 4 + 4 * d + 2 + 2 * d + 1 + (10000 - (3 + 4 * k + 4 + 4 * d + 2 + 2 * d + 1)) = 10000 by omega] at h
    unfold runU
    rw [h]
    exact runM_end (by show ¬ (1 : Int) = 0; decide) _
  refine ⟨?_, ?_, ?_, ?_⟩ <;> rw [hr]
theorem count_deep {k d : Nat} (hk : k ≤ 100) (hd : 48 < d) (hd2 : d ≤ 100) : ∃ sp, CountX k d 4 0 sp (tri k) := by
  have a := count_begin k d hk
  have b := all_down (d : Int) (tri k) (by omega) (3 + 4 * k + 4) 48 (by omega) (Nat.le_refl _)
  have c := f_deep ((d : Int) - 48) 2 (cWaits (d : Int) (tri k) 48) [(tri k : Int)] (3 + 4 * k + 4 + 4 * 48) (by omega) (by omega) (cWaits_len _ _ _)
  have g := (a.trans b).trans c
  have hr : runU cU [(k : Int), (d : Int)] 10000 = (cR [] (fWait ((d : Int) - 48) 2 :: cWaits (d : Int) (tri k) 48) [(tri k : Int)] (3 + 4 * k + 4 + 4 * 48 + 4)).stop 4 0 := by
    have h := g (10000 - (3 + 4 * k + 4 + 4 * 48 + 4))
    rw [show 3 + 4 * k + 4 + 4 * 48 + 4 + (10000 - (3 + 4 * k + 4 + 4 * 48 + 4)) = 10000 by omega] at h
    unfold runU
    rw [h]
    exact runM_end (by show ¬ (4 : Int) = 0; decide) _
  refine ⟨_, ?_, ?_, rfl, ?_⟩ <;> rw [hr] <;> rfl
theorem tri_half (k : Nat) (hk : k ≤ 100) : ((k : Int) * ((k : Int) + 1)).tdiv 2 = tri k :=
  have h : ∀ k : Fin 101, ((k.val : Int) * ((k.val : Int) + 1)).tdiv 2 = tri k.val := by decide
  h ⟨k, by omega⟩
end Go.Proofs.Ytknccacfhknnaaa
