/- What check.Check tells of made programs that were turned, or into which something wrong was put. Plain laws of 'CheckMade', 'CheckWrong', 'CheckTwice', 'CheckPlaces', 'CheckFirst'. -/
import Derived.Test.YtmignlclfbaifaaGreatTrMade
namespace Go.Proofs.YtmignlclfbaifaaGreat

/-! ### what is wrong with one function -/
theorem funcsE_at {D : Nat} {p : LProg} : ∀ {l : List LFunc} (k0 : Nat) {k : Nat} (hk : k < l.length) {e n : Int}, (∀ (j : Nat) (hj : j < l.length), j < k → (functionE D p l[j]).1 = 0) → functionE D p l[k] = (e, n) → e ≠ 0 → funcsE D p k0 l = (e, ((k0 + k : Nat) : Int), n)
  | [], _, _, hk, _, _, _, _, _ => absurd hk (Nat.not_lt_zero _)
  | x :: l, k0, 0, _, e, n, _, h, he => by
    have h' : functionE D p x = (e, n) := h
    unfold funcsE
    rw [h', if_pos he]
    rfl
  | x :: l, k0, k + 1, hk, e, n, h0, h, he => by
    unfold funcsE
    have hx : (functionE D p x).1 = 0 := h0 0 (Nat.succ_pos _) (Nat.succ_pos _)
    rw [if_neg (by rw [hx]; decide)]
    have hr := funcsE_at (k0 + 1) (k := k) (by simpa using hk) (fun j hj hjk => h0 (j + 1) (by simpa using hj) (by omega)) h he
    rw [hr, show k0 + 1 + k = k0 + (k + 1) by omega]
theorem check_at {D : Nat} {p : LProg} (hr : rightB D p = true) (hg : (globalsL p).Nodup) (hm : ∃ f ∈ p.funcs, f.name = mainN ∧ f.params = []) {k : Nat} (hk : k < p.funcs.length) {e n : Int} (h0 : ∀ (j : Nat) (hj : j < p.funcs.length), j < k → (functionE D p p.funcs[j]).1 = 0) (h : functionE D p p.funcs[k] = (e, n)) (he : e ≠ 0) : checkE D p = (e, (k : Int), n) := by
  obtain ⟨f, hf, hfn, hfp⟩ := hm
  unfold checkE
  rw [hr, show twiceB (globalsL p) = false by unfold twiceB; rw [decide_eq_true hg]; rfl]
  have e1 := find_name (funcs_nodup hg) hf
  rw [hfn] at e1
  show (match p.funcs.find? (fun f => decide (f.name = mainN)) with | none => _ | some f => _) = _
  rw [e1]
  show (if 0 < f.params.length then _ else _) = _
  rw [hfp, if_neg (by decide)]
  have := funcsE_at (D := D) (p := p) 0 hk h0 h he
  rw [this, Nat.zero_add]
theorem check_twice {D : Nat} {p : LProg} (hr : rightB D p = true) (hg : ¬ (globalsL p).Nodup) : checkE D p = (50, 0, 0) := by
  unfold checkE
  rw [hr, show twiceB (globalsL p) = true by unfold twiceB; rw [decide_eq_false hg]; rfl]
  rfl

/-! ### two programs of the same names -/
def headF (f : LFunc) : ByteArray × Nat := (f.name, f.params.length)
structure Alike (p q : LProg) : Prop where
  arrs : q.arrays = p.arrays
  funs : q.funcs.map headF = p.funcs.map headF
theorem Alike.globals {p q : LProg} (h : Alike p q) : globalsL q = globalsL p := by
  have e : ∀ l : List LFunc, l.map (·.name) = (l.map headF).map (·.1) := fun l => by rw [List.map_map]; rfl
  unfold globalsL
  rw [h.arrs, e, e, h.funs]
theorem Alike.scp {p q : LProg} (h : Alike p q) (f : LFunc) : scpOf q f = scpOf p f := by
  have e := h.funs
  unfold scpOf
  rw [h.arrs]
  exact congrArg _ e
theorem OkF.alike {p q : LProg} {f : LFunc} (h : OkF p f) (ha : Alike p q) : OkF q f :=
  ⟨h.vars, fun s hs => by rw [ha.globals]; exact h.out s hs, h.few, fun s hs => by rw [ha.scp]; exact h.body s hs⟩
/-- function k with another body -/
def bodyP (p : LProg) (k : Nat) (b : List LStmt) : LProg := { p with funcs := p.funcs.modify k fun f => { f with body := b } }
theorem body_alike (p : LProg) (k : Nat) (b : List LStmt) : Alike p (bodyP p k b) := by
  refine ⟨rfl, ?_⟩
  show (p.funcs.modify k _).map headF = _
  apply List.ext_getElem
  · simp
  · intro i h1 h2
    simp [List.getElem_modify]
    split <;> rfl
theorem body_len (p : LProg) (k : Nat) (b : List LStmt) : (bodyP p k b).funcs.length = p.funcs.length := by simp [bodyP]
theorem body_at (p : LProg) {k : Nat} (hk : k < p.funcs.length) (b : List LStmt) : (bodyP p k b).funcs[k]'(by rw [body_len]; exact hk) = { p.funcs[k] with body := b } := by simp [bodyP]
theorem body_ne (p : LProg) {k j : Nat} (hj : j < p.funcs.length) (h : k ≠ j) (b : List LStmt) : (bodyP p k b).funcs[j]'(by rw [body_len]; exact hj) = p.funcs[j] := by simp [bodyP, h]
theorem body_mem {p : LProg} {k : Nat} {b : List LStmt} {f : LFunc} (hf : f ∈ (bodyP p k b).funcs) : f ∈ p.funcs ∨ ∃ (hk : k < p.funcs.length), f = { p.funcs[k] with body := b } := by
  obtain ⟨i, hi, rfl⟩ := List.getElem_of_mem hf
  rw [body_len] at hi
  by_cases h : k = i
  · subst h; exact .inr ⟨hi, body_at p hi b⟩
  · exact .inl (by rw [body_ne p hi h b]; exact List.getElem_mem _)

/-! ### a body with something wrong in it -/
theorem allL_append (d : Nat) (l r : List LStmt) (loop : Bool) : allL d (l ++ r) loop = allL d l loop ++ allL d r loop := by
  cases d with
  | zero => rfl
  | succ d => simp [allL, List.flatMap_append]
theorem firstAt_pre {α : Type} {f : α → Int} : ∀ {l r : List α} (k : Nat), (∀ x ∈ l, f x = 0) → firstAt f k (l ++ r) = firstAt f (k + l.length) r
  | [], _, _, _ => rfl
  | x :: l, r, k, h => by
    rw [List.cons_append, show firstAt f k (x :: (l ++ r)) = if f x ≠ 0 then (f x, (k : Int)) else firstAt f (k + 1) (l ++ r) from rfl, if_neg (by rw [h x (by simp)]; decide)]
    have := firstAt_pre (l := l) (r := r) (k + 1) fun y hy => h y (by simp [hy])
    rw [this, List.length_cons, show k + 1 + l.length = k + (l.length + 1) by omega]
theorem firstAt_hit {α : Type} {f : α → Int} {x : α} {r : List α} (k : Nat) (h : f x ≠ 0) : firstAt f k (x :: r) = (f x, (k : Int)) := by
  unfold firstAt
  rw [if_pos h]
/-- a statement without others in it -/
def lone (k : Int) (nm : ByteArray) (l : List LExpr) : LStmt := ⟨k, nm, l, [], []⟩
theorem allL_lone (d : Nat) (k : Int) (nm : ByteArray) (l : List LExpr) (r : List LStmt) (loop : Bool) : allL (d + 1) (lone k nm l :: r) loop = (lone k nm l, loop) :: allL (d + 1) r loop := by
  have e1 : allL d (lone k nm l).thn (loop || decide ((lone k nm l).kind = 4)) = [] := by cases d <;> rfl
  have e2 : allL d (lone k nm l).els loop = [] := by cases d <;> rfl
  show ((lone k nm l :: r).flatMap _) = _
  rw [List.flatMap_cons, e1, e2]
  rfl
/-- wrong behind a body that is fine -/
theorem wrong_behind {p : LProg} (hn : (p.funcs.map (·.name)).Nodup) {f : LFunc} (h : OkF p f) {D : Nat} (hD : 4 ≤ D) {k : Int} {nm : ByteArray} {l : List LExpr} {r : List LStmt} (hw : stmtE p (f.params ++ f.locals) D (lone k nm l) false ≠ 0) :
    functionE D p { f with body := f.body ++ lone k nm l :: r } = (stmtE p (f.params ++ f.locals) D (lone k nm l) false, ((allL D f.body false).length : Int)) := by
  unfold functionE
  have hh := ok_head h
  rw [show (twiceB (f.params ++ f.locals) || (f.params ++ f.locals).any (fun s => hasS (globalsL p) s)) = false from hh]
  obtain ⟨d, rfl⟩ : ∃ d, D = d + 1 := ⟨D - 1, by omega⟩
  show firstAt (fun x => stmtE p (f.params ++ f.locals) (d + 1) x.1 x.2) 0 (allL (d + 1) (f.body ++ lone k nm l :: r) false) = _
  have hz : ∀ x ∈ allL (d + 1) f.body false, (fun x : LStmt × Bool => stmtE p (f.params ++ f.locals) (d + 1) x.1 x.2) x = 0 := made_all (c := scpOf p f) hn (fun _ h => h) (fun _ h => h) (fun _ h => h) hD h.body
  rw [allL_append, firstAt_pre 0 hz, allL_lone, firstAt_hit (f := fun x : LStmt × Bool => stmtE p (f.params ++ f.locals) (d + 1) x.1 x.2) _ hw, Nat.zero_add]
/-- wrong ahead of all -/
theorem wrong_ahead {p : LProg} {f : LFunc} (h : OkF p f) {D : Nat} (hD : 4 ≤ D) {k : Int} {nm : ByteArray} {l : List LExpr} {r : List LStmt} (hw : stmtE p (f.params ++ f.locals) D (lone k nm l) false ≠ 0) :
    functionE D p { f with body := lone k nm l :: r } = (stmtE p (f.params ++ f.locals) D (lone k nm l) false, 0) := by
  unfold functionE
  have hh := ok_head h
  rw [show (twiceB (f.params ++ f.locals) || (f.params ++ f.locals).any (fun s => hasS (globalsL p) s)) = false from hh]
  obtain ⟨d, rfl⟩ : ∃ d, D = d + 1 := ⟨D - 1, by omega⟩
  show firstAt (fun x => stmtE p (f.params ++ f.locals) (d + 1) x.1 x.2) 0 (allL (d + 1) (lone k nm l :: r) false) = _
  rw [allL_lone, firstAt_hit (f := fun x : LStmt × Bool => stmtE p (f.params ++ f.locals) (d + 1) x.1 x.2) _ hw]
  rfl
theorem alike_nodup {p q : LProg} (h : Alike p q) (hg : (globalsL p).Nodup) : (globalsL q).Nodup := by rw [h.globals]; exact hg
theorem alike_main {p : LProg} (hm : ∃ f ∈ p.funcs, f.name = mainN ∧ f.params = []) (k : Nat) (b : List LStmt) : ∃ f ∈ (bodyP p k b).funcs, f.name = mainN ∧ f.params = [] := by
  obtain ⟨f, hf, h1, h2⟩ := hm
  obtain ⟨i, hi, rfl⟩ := List.getElem_of_mem hf
  have hi' : i < (bodyP p k b).funcs.length := by rw [body_len]; exact hi
  by_cases h : k = i
  · subst h
    refine ⟨_, List.getElem_mem hi', ?_⟩
    rw [body_at p hi b]
    exact ⟨h1, h2⟩
  · refine ⟨_, List.getElem_mem hi', ?_⟩
    rw [body_ne p hi h b]
    exact ⟨h1, h2⟩
theorem right_body {p : LProg} (h : OkP p) {D : Nat} (hD : 4 ≤ D) {k : Nat} {b : List LStmt} (hb : ∀ s ∈ b, stmtB D 40 s = true) : rightB D (bodyP p k b) = true := by
  have h0 := ok_right h hD
  unfold rightB at h0 ⊢
  simp only [Bool.and_eq_true, List.all_eq_true] at h0 ⊢
  refine ⟨h0.1, fun f hf => ?_⟩
  rcases body_mem hf with h1 | ⟨hk, rfl⟩
  · exact h0.2 f h1
  · have h2 := h0.2 _ (List.getElem_mem hk)
    unfold funcB at h2 ⊢
    simp only [Bool.and_eq_true, List.all_eq_true] at h2 ⊢
    exact ⟨h2.1, hb⟩
theorem ok_body {p : LProg} (h : OkP p) {D : Nat} (hD : 4 ≤ D) {f : LFunc} (hf : f ∈ p.funcs) : ∀ s ∈ f.body, stmtB D 40 s = true := fun s hs => made_stmtB hD (by decide) ((h.funs f hf).body s hs)
/-- of the functions of a program in which one function's body is another one, that function is the first that is wrong -/
theorem check_body {p : LProg} (h : OkP p) {D : Nat} (hD : 4 ≤ D) {k : Nat} (hk : k < p.funcs.length) {b : List LStmt} (hb : ∀ s ∈ b, stmtB D 40 s = true) {e n : Int} (hf : functionE D (bodyP p k b) { p.funcs[k] with body := b } = (e, n)) (he : e ≠ 0) : checkE D (bodyP p k b) = (e, (k : Int), n) := by
  have ha := body_alike p k b
  refine check_at (right_body h hD hb) (alike_nodup ha h.gl) (alike_main h.main k b) (by rw [body_len]; exact hk) (fun j hj hjk => ?_) (by rw [body_at p hk b]; exact hf) he
  rw [body_len] at hj
  rw [body_ne p hj (by omega) b, ok_function (funcs_nodup (alike_nodup ha h.gl)) ((h.funs _ (List.getElem_mem hj)).alike ha) hD]
end Go.Proofs.YtmignlclfbaifaaGreat
