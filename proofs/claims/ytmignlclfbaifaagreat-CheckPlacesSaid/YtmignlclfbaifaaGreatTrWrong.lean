/- The wrong statements of chapter 5's laws, and what is told of them. Plain laws of 'CheckWrong', 'CheckTwice', 'CheckFirst', 'CheckMade', 'CheckPlaces'. -/
import Derived.Test.YtmignlclfbaifaaGreatTrLaws
namespace Go.Proofs.YtmignlclfbaifaaGreat

/-- a made program, as counterprooflaw03.Prog makes it: names of four characters at most -/
structure MadeP (p : LProg) : Prop where
  ok : OkP p
  small : ∀ s ∈ globalsL p, s.size ≤ 4
  smallV : ∀ f ∈ p.funcs, ∀ s ∈ f.params ++ f.locals, s.size ≤ 4
  few : p.funcs.length ≤ 3
  fewA : p.arrays.length ≤ 2

def strangeN : ByteArray := strOf [115, 116, 114, 97, 110, 103, 101]
def oneX : LExpr := ⟨1, 0, 1, ⟨#[]⟩, []⟩
def strangeX : LExpr := ⟨2, 0, 0, strangeN, []⟩
def callX (nm : ByteArray) (x : LExpr) : LExpr := ⟨5, 0, 0, nm, [x]⟩
def indexX (nm : ByteArray) (x : LExpr) : LExpr := ⟨6, 0, 0, nm, [x]⟩
def wrongL : List LStmt := [lone 5 ⟨#[]⟩ [], lone 6 ⟨#[]⟩ [], lone 1 strangeN [oneX], lone 2 mainN [oneX, oneX], lone 8 ⟨#[]⟩ [strangeX], lone 10 ⟨#[]⟩ [callX mainN oneX], lone 3 ⟨#[]⟩ [indexX strangeN strangeX], lone 7 ⟨#[]⟩ [callX strangeN strangeX]]
def wantL : List Int := [53, 53, 51, 51, 51, 52, 51, 51]

section
variable {p : LProg}
theorem no_arr (h : (globalsL p).Nodup) {f : LFunc} (hf : f ∈ p.funcs) : p.arrays.any (fun a => decide (a.1 = f.name)) = false := by
  rw [List.any_eq_false]
  intro a ha e
  have hd := (List.nodup_append.1 h).2.2
  exact hd a.1 (List.mem_map.2 ⟨a, ha, rfl⟩) f.name (List.mem_map.2 ⟨f, hf, rfl⟩) (of_decide_eq_true e)
theorem out_arr {s : ByteArray} (h : s ∉ globalsL p) : p.arrays.any (fun a => decide (a.1 = s)) = false := by
  rw [List.any_eq_false]
  intro a ha e
  exact h (by unfold globalsL; rw [← of_decide_eq_true e]; simp only [List.mem_append, List.mem_map]; exact .inl ⟨a, ha, rfl⟩)
theorem out_fun {s : ByteArray} (h : s ∉ globalsL p) : p.funcs.find? (fun f => decide (f.name = s)) = none := by
  rw [List.find?_eq_none]
  intro f hf e
  exact h (by unfold globalsL; rw [← of_decide_eq_true e]; simp only [List.mem_append, List.mem_map]; exact .inr ⟨f, hf, rfl⟩)
theorem out_vars {vars : List ByteArray} {s : ByteArray} (h : s ∉ vars) : hasS vars s = false := by
  cases e : hasS vars s with
  | false => rfl
  | true => exact absurd (hasS_iff.1 e) h
theorem big_out {l : List ByteArray} (h : ∀ s ∈ l, s.size ≤ 4) : strangeN ∉ l := fun hs => absurd (h _ hs) (by decide)
theorem bad_wrong (hgl : (globalsL p).Nodup) (hm : ∃ f ∈ p.funcs, f.name = mainN ∧ f.params = []) (hg : strangeN ∉ globalsL p) {vars : List ByteArray} (hv : strangeN ∉ vars) {D : Nat} (hD : 4 ≤ D) {i : Nat} (hi : i < wrongL.length) : stmtE p vars D wrongL[i] false = wantL[i]'hi := by
  obtain ⟨d, rfl⟩ : ∃ d, D = d + 1 + 1 := ⟨D - 2, by omega⟩
  obtain ⟨f, hf, hfn, hfp⟩ := hm
  have a1 := no_arr hgl hf
  have f1 := find_name (funcs_nodup hgl) hf
  rw [hfn] at a1 f1
  have a2 := out_arr hg
  have f2 := out_fun hg
  have v2 := out_vars hv
  have hl : i < 8 := hi
  rcases (by omega : i = 0 ∨ i = 1 ∨ i = 2 ∨ i = 3 ∨ i = 4 ∨ i = 5 ∨ i = 6 ∨ i = 7) with rfl | rfl | rfl | rfl | rfl | rfl | rfl | rfl
  · rfl
  · rfl
  · show stmtE p vars _ (lone 1 strangeN [oneX]) false = 51
    simp [stmtE, lone, LStmt.kind, LStmt.name, v2]
  · show stmtE p vars _ (lone 2 mainN [oneX, oneX]) false = 51
    show (if (if p.arrays.any (fun a => decide (a.1 = mainN)) then (0 : Int) else 51) ≠ 0 then (if p.arrays.any (fun a => decide (a.1 = mainN)) then (0 : Int) else 51) else exprsE p vars (d + 1 + 1) [oneX, oneX]) = 51
    rw [a1]; rfl
  · show stmtE p vars _ (lone 8 ⟨#[]⟩ [strangeX]) false = 51
    simp [stmtE, lone, LStmt.kind, LStmt.args, exprsE, firstE, ownE, strangeX, LExpr.kind, LExpr.name, v2]
  · show stmtE p vars _ (lone 10 ⟨#[]⟩ [callX mainN oneX]) false = 52
    have e : ownE p vars (callX mainN oneX) = 52 := by
      show (match p.funcs.find? (fun f => decide (f.name = mainN)) with | none => (51 : Int) | some f => if f.params.length = 1 then 0 else 52) = 52
      rw [f1]
      show (if f.params.length = 1 then (0 : Int) else 52) = 52
      rw [hfp]; rfl
    simp [stmtE, lone, LStmt.kind, LStmt.args, exprsE, firstE, e]
  · show stmtE p vars _ (lone 3 ⟨#[]⟩ [indexX strangeN strangeX]) false = 51
    have e : ownE p vars (indexX strangeN strangeX) = 51 := by
      show (if p.arrays.any (fun a => decide (a.1 = strangeN)) then (0 : Int) else 51) = 51
      rw [a2]; rfl
    simp [stmtE, lone, LStmt.kind, LStmt.args, exprsE, firstE, e]
  · show stmtE p vars _ (lone 7 ⟨#[]⟩ [callX strangeN strangeX]) false = 51
    have e : ownE p vars (callX strangeN strangeX) = 51 := by
      show (match p.funcs.find? (fun f => decide (f.name = strangeN)) with | none => (51 : Int) | some f => if f.params.length = 1 then 0 else 52) = 51
      rw [f2]
    simp [stmtE, lone, LStmt.kind, LStmt.args, exprsE, firstE, e]
theorem want_ne {i : Nat} (hi : i < wantL.length) : wantL[i] ≠ 0 := by
  have hl : i < 8 := hi
  rcases (by omega : i = 0 ∨ i = 1 ∨ i = 2 ∨ i = 3 ∨ i = 4 ∨ i = 5 ∨ i = 6 ∨ i = 7) with rfl | rfl | rfl | rfl | rfl | rfl | rfl | rfl <;> simp [wantL]
theorem bad_right {D : Nat} (hD : 4 ≤ D) {i : Nat} (hi : i < wrongL.length) : stmtB D 40 wrongL[i] = true := by
  obtain ⟨d, rfl⟩ : ∃ d, D = d + 1 + 1 := ⟨D - 2, by omega⟩
  have hl : i < 8 := hi
  have n1 : nameB strangeN = true := by decide
  have n2 : nameB mainN = true := by decide
  have x1 : ∀ d, (deepE 40 oneX && wellE (d + 1) oneX) = true := fun d => by simp [deepE, wellE, oneX, bareE, LExpr.args, LExpr.kind, LExpr.n, LExpr.op, LExpr.name]
  have y1 : ∀ d, wellE (d + 1) oneX = true := fun d => (Bool.and_eq_true _ _ ▸ x1 d).2
  have y2 : ∀ d, wellE (d + 1) strangeX = true := fun d => by simp [wellE, strangeX, bareE, LExpr.args, LExpr.kind, LExpr.n, LExpr.op, LExpr.name, n1]
  rcases (by omega : i = 0 ∨ i = 1 ∨ i = 2 ∨ i = 3 ∨ i = 4 ∨ i = 5 ∨ i = 6 ∨ i = 7) with rfl | rfl | rfl | rfl | rfl | rfl | rfl | rfl
  all_goals simp [wrongL, stmtB, lone, bareS, LStmt.kind, LStmt.name, LStmt.args, LStmt.thn, LStmt.els, n1, n2, deepE, oneX, strangeX, callX, indexX, wellE, bareE, LExpr.args, LExpr.kind, LExpr.n, LExpr.op, LExpr.name]
/-- CheckWrong -/
theorem check_wrong (h : MadeP p) {D : Nat} (hD : 4 ≤ D) {k : Nat} (hk : k < p.funcs.length) {i : Nat} (hi : i < wrongL.length) :
    checkE D (bodyP p k (p.funcs[k].body ++ [wrongL[i]])) = (wantL[i]'hi, (k : Int), ((allL D p.funcs[k].body false).length : Int)) := by
  have hf := List.getElem_mem hk
  have hb : ∀ s ∈ p.funcs[k].body ++ [wrongL[i]], stmtB D 40 s = true := fun s hs => by
    rcases List.mem_append.1 hs with h1 | h1
    · exact ok_body h.ok hD hf s h1
    · obtain rfl := List.mem_singleton.1 h1
      exact bad_right hD hi
  have ha := body_alike p k (p.funcs[k].body ++ [wrongL[i]])
  obtain ⟨kk, nm, l, e⟩ : ∃ kk nm l, wrongL[i] = lone kk nm l := by
    have hl : i < 8 := hi
    rcases (by omega : i = 0 ∨ i = 1 ∨ i = 2 ∨ i = 3 ∨ i = 4 ∨ i = 5 ∨ i = 6 ∨ i = 7) with rfl | rfl | rfl | rfl | rfl | rfl | rfl | rfl <;> exact ⟨_, _, _, rfl⟩
  have hw : stmtE (bodyP p k (p.funcs[k].body ++ [wrongL[i]])) (p.funcs[k].params ++ p.funcs[k].locals) D (wrongL[i]) false = wantL[i]'hi := bad_wrong (alike_nodup ha h.ok.gl) (alike_main h.ok.main _ _) (by rw [ha.globals]; exact big_out h.small) (big_out (h.smallV _ hf)) hD hi
  refine check_body h.ok hD hk hb ?_ (want_ne hi)
  rw [e] at hw ⊢
  have h2 := wrong_behind (r := []) (funcs_nodup (alike_nodup ha h.ok.gl)) ((h.ok.funs _ hf).alike ha) hD (k := kk) (nm := nm) (l := l) (by rw [e, hw]; exact want_ne hi)
  rw [e, hw] at h2
  exact h2

end
end Go.Proofs.YtmignlclfbaifaaGreat
