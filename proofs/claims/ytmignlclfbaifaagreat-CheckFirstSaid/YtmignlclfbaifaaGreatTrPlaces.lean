/- Places of names: plain laws of 'CheckPlaces'. -/
import Derived.Test.YtmignlclfbaifaaGreatTrWrong
namespace Go.Proofs.YtmignlclfbaifaaGreat

/-- the first place of which q holds; below 0: there is none -/
def findP {α : Type} (q : α → Bool) : List α → Int
  | [] => -1
  | x :: l => if q x then 0 else if findP q l < 0 then -1 else findP q l + 1
theorem findP_at {α : Type} {q : α → Bool} : ∀ {l : List α} {i : Nat} (hi : i < l.length), q l[i] = true → (∀ (j : Nat) (hj : j < l.length), j < i → q l[j] = false) → findP q l = (i : Int)
  | x :: l, 0, _, h, _ => by
    have h' : q x = true := h
    simp [findP, h']
  | x :: l, i + 1, hi, h, h0 => by
    have hx : q x = false := h0 0 (Nat.succ_pos _) (Nat.succ_pos _)
    have hr := findP_at (l := l) (i := i) (by simpa using hi) h (fun j hj hji => h0 (j + 1) (by simpa using hj) (by omega))
    unfold findP
    rw [hx, hr, if_neg (by decide), if_neg (by omega)]
    omega
theorem findP_none {α : Type} {q : α → Bool} : ∀ {l : List α}, (∀ x ∈ l, q x = false) → findP q l = -1
  | [], _ => rfl
  | x :: l, h => by
    have hx := h x (by simp)
    have hr := findP_none (l := l) fun y hy => h y (by simp [hy])
    unfold findP
    rw [hx, hr, if_neg (by decide), if_pos (by decide)]
def placeL (p : LProg) (s : ByteArray) : Int := findP (fun f : LFunc => decide (f.name = s)) p.funcs
def arrayL (p : LProg) (s : ByteArray) : Int := findP (fun a : ByteArray × Int => decide (a.1 = s)) p.arrays
theorem place_at {p : LProg} (h : OkP p) {i : Nat} (hi : i < p.funcs.length) : placeL p p.funcs[i].name = (i : Int) := by
  refine findP_at hi (decide_eq_true rfl) fun j hj hji => decide_eq_false fun e => ?_
  have hn := funcs_nodup h.gl
  have e2 : (p.funcs.map (·.name))[j]'(by simpa using hj) = (p.funcs.map (·.name))[i]'(by simpa using hi) := by simpa using e
  have := (List.getElem_inj hn).1 e2
  omega
theorem array_at {p : LProg} (h : OkP p) {i : Nat} (hi : i < p.arrays.length) : arrayL p p.arrays[i].1 = (i : Int) := by
  refine findP_at hi (decide_eq_true rfl) fun j hj hji => decide_eq_false fun e => ?_
  have hn : (p.arrays.map (·.1)).Nodup := (List.nodup_append.1 h.gl).1
  have e2 : (p.arrays.map (·.1))[j]'(by simpa using hj) = (p.arrays.map (·.1))[i]'(by simpa using hi) := by simpa using e
  have := (List.getElem_inj hn).1 e2
  omega
theorem array_none {p : LProg} (h : OkP p) {i : Nat} (hi : i < p.funcs.length) : arrayL p p.funcs[i].name = -1 :=
  findP_none fun a ha => by
    have := List.any_eq_false.1 (no_arr h.gl (List.getElem_mem hi)) a ha
    simpa using this
theorem place_none {p : LProg} (h : OkP p) {i : Nat} (hi : i < p.arrays.length) : placeL p p.arrays[i].1 = -1 :=
  findP_none fun f hf => decide_eq_false fun e => (List.nodup_append.1 h.gl).2.2 p.arrays[i].1 (List.mem_map.2 ⟨_, List.getElem_mem hi, rfl⟩) f.name (List.mem_map.2 ⟨f, hf, rfl⟩) e.symm
theorem place_out {p : LProg} {s : ByteArray} (h : s ∉ globalsL p) : placeL p s = -1 :=
  findP_none fun f hf => decide_eq_false fun e => h (by unfold globalsL; rw [← e]; simp only [List.mem_append, List.mem_map]; exact .inr ⟨f, hf, rfl⟩)
theorem array_out {p : LProg} {s : ByteArray} (h : s ∉ globalsL p) : arrayL p s = -1 :=
  findP_none fun a ha => decide_eq_false fun e => h (by unfold globalsL; rw [← e]; simp only [List.mem_append, List.mem_map]; exact .inl ⟨a, ha, rfl⟩)
theorem empty_out {p : LProg} (h : OkP p) : (⟨#[]⟩ : ByteArray) ∉ globalsL p := fun hs => absurd (h.names _ hs) (by decide)
end Go.Proofs.YtmignlclfbaifaaGreat
