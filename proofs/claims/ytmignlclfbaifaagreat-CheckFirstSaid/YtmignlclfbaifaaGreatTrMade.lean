/- Programs that are made of what there is: they may be, and nothing is wrong with them. Plain laws. -/
import Derived.Test.YtmignlclfbaifaaGreatTrPlain
namespace Go.Proofs.YtmignlclfbaifaaGreat

/-- what there is where an expression stands: variables, arrays, functions with how many params -/
structure Scp where
  vars : List ByteArray
  arrs : List ByteArray
  funs : List (ByteArray × Nat)
/-- an expression at most d deep that is made of what there is -/
def madeE (c : Scp) : Nat → LExpr → Prop
  | 0, _ => False
  | d + 1, e => bareE e = true ∧ (e.kind = 2 → e.name ∈ c.vars) ∧ (e.kind = 6 → e.name ∈ c.arrs) ∧ (e.kind = 5 → (e.name, e.args.length) ∈ c.funs) ∧ ∀ x ∈ e.args, madeE c d x
def madeS (c : Scp) : Nat → Bool → LStmt → Prop
  | 0, _, _ => False
  | d + 1, loop, s => bareS s = true ∧ (s.kind = 5 ∨ s.kind = 6 → loop = true) ∧ (s.kind = 1 → s.name ∈ c.vars) ∧ (s.kind = 2 → s.name ∈ c.arrs) ∧ (∀ e ∈ s.args, madeE c 4 e) ∧ (∀ x ∈ s.thn, madeS c d (loop || decide (s.kind = 4)) x) ∧ (∀ x ∈ s.els, madeS c d loop x)
structure Scp.Sub (c c' : Scp) : Prop where
  vars : ∀ x ∈ c.vars, x ∈ c'.vars
  arrs : ∀ x ∈ c.arrs, x ∈ c'.arrs
  funs : ∀ x ∈ c.funs, x ∈ c'.funs
theorem made_sub {c c' : Scp} (h : c.Sub c') : ∀ {d d' : Nat}, d ≤ d' → ∀ {e : LExpr}, madeE c d e → madeE c' d' e
  | 0, _, _, _, he => he.elim
  | d + 1, 0, hd, _, _ => absurd hd (Nat.not_succ_le_zero d)
  | d + 1, d' + 1, hd, _, ⟨h1, h2, h3, h4, h5⟩ => ⟨h1, fun k => h.vars _ (h2 k), fun k => h.arrs _ (h3 k), fun k => h.funs _ (h4 k), fun x hx => made_sub h (by omega) (h5 x hx)⟩
theorem mades_sub {c c' : Scp} (h : c.Sub c') : ∀ {d d' : Nat}, d ≤ d' → ∀ {loop : Bool} {s : LStmt}, madeS c d loop s → madeS c' d' loop s
  | 0, _, _, _, _, he => he.elim
  | d + 1, 0, hd, _, _, _ => absurd hd (Nat.not_succ_le_zero d)
  | d + 1, d' + 1, hd, _, _, ⟨h1, h2, h3, h4, h5, h6, h7⟩ => ⟨h1, h2, fun k => h.vars _ (h3 k), fun k => h.arrs _ (h4 k), fun x hx => made_sub h (Nat.le_refl _) (h5 x hx), fun x hx => mades_sub h (by omega) (h6 x hx), fun x hx => mades_sub h (by omega) (h7 x hx)⟩
theorem made_well {c : Scp} : ∀ {d D : Nat}, d ≤ D → ∀ {e : LExpr}, madeE c d e → wellE D e = true
  | 0, _, _, _, he => he.elim
  | d + 1, 0, hd, _, _ => absurd hd (Nat.not_succ_le_zero d)
  | d + 1, D + 1, hd, e, ⟨h1, _, _, _, h5⟩ => by
    show (bareE e && e.args.all (wellE D)) = true
    rw [h1, Bool.true_and, List.all_eq_true]
    exact fun x hx => made_well (by omega) (h5 x hx)
theorem made_deep {c : Scp} : ∀ {d m : Nat}, d ≤ m → ∀ {e : LExpr}, madeE c d e → deepE m e = true
  | 0, _, _, _, he => he.elim
  | d + 1, 0, hd, _, _ => absurd hd (Nat.not_succ_le_zero d)
  | d + 1, m + 1, hd, e, ⟨_, _, _, _, h5⟩ => by
    show e.args.all (deepE m) = true
    rw [List.all_eq_true]
    exact fun x hx => made_deep (by omega) (h5 x hx)
theorem made_stmtB {c : Scp} {D : Nat} (hD : 4 ≤ D) : ∀ {d m : Nat}, d ≤ m → ∀ {loop : Bool} {s : LStmt}, madeS c d loop s → stmtB D m s = true
  | 0, _, _, _, _, he => he.elim
  | d + 1, 0, hd, _, _, _ => absurd hd (Nat.not_succ_le_zero d)
  | d + 1, m + 1, hd, _, s, ⟨h1, _, _, _, h5, h6, h7⟩ => by
    show (bareS s && s.args.all (fun e => deepE 40 e && wellE D e) && s.thn.all (stmtB D m) && s.els.all (stmtB D m)) = true
    simp only [Bool.and_eq_true, List.all_eq_true]
    exact ⟨⟨⟨h1, fun e he => ⟨made_deep (by omega) (h5 e he), made_well hD (h5 e he)⟩⟩, fun x hx => made_stmtB hD (by omega) (h6 x hx)⟩, fun x hx => made_stmtB hD (by omega) (h7 x hx)⟩

/-! ### programs with nothing wrong -/
def mainN : ByteArray := strOf [109, 97, 105, 110]
def scpOf (p : LProg) (f : LFunc) : Scp := ⟨f.params ++ f.locals, p.arrays.map (·.1), p.funcs.map fun g => (g.name, g.params.length)⟩
structure OkF (p : LProg) (f : LFunc) : Prop where
  vars : (f.params ++ f.locals).Nodup
  out : ∀ s ∈ f.params ++ f.locals, nameB s = true ∧ s ∉ globalsL p
  few : f.params.length ≤ 6
  body : ∀ s ∈ f.body, madeS (scpOf p f) 4 false s
structure OkP (p : LProg) : Prop where
  gl : (globalsL p).Nodup
  names : ∀ s ∈ globalsL p, nameB s = true
  sizes : ∀ a ∈ p.arrays, 1 ≤ a.2 ∧ a.2 ≤ 1048576
  main : ∃ f ∈ p.funcs, f.name = mainN ∧ f.params = []
  funs : ∀ f ∈ p.funcs, OkF p f

theorem funcs_nodup {p : LProg} (h : (globalsL p).Nodup) : (p.funcs.map (·.name)).Nodup := (List.nodup_append.1 h).2.1
theorem find_name {l : List LFunc} (hn : (l.map (·.name)).Nodup) {f : LFunc} (hf : f ∈ l) : l.find? (fun g => decide (g.name = f.name)) = some f := by
  induction l with
  | nil => cases hf
  | cons a r ih =>
    rw [List.map_cons, List.nodup_cons] at hn
    rw [List.find?_cons]
    rcases List.mem_cons.1 hf with rfl | hr
    · simp
    · have hne : a.name ≠ f.name := fun e => hn.1 (e ▸ List.mem_map.2 ⟨f, hr, rfl⟩)
      rw [decide_eq_false hne]
      exact ih hn.2 hr
theorem firstE_zero {α : Type} {f : α → Int} : ∀ {l : List α}, (∀ x ∈ l, f x = 0) → firstE f l = 0
  | [], _ => rfl
  | x :: l, h => by
    unfold firstE
    rw [if_neg (by rw [h x (by simp)]; decide)]
    exact firstE_zero fun y hy => h y (by simp [hy])
theorem made_own {p : LProg} (hn : (p.funcs.map (·.name)).Nodup) {vars : List ByteArray} {c : Scp} (hv : ∀ x ∈ c.vars, x ∈ vars) (ha : ∀ x ∈ c.arrs, x ∈ p.arrays.map (·.1)) (hf : ∀ x ∈ c.funs, x ∈ p.funcs.map fun g => (g.name, g.params.length)) {d : Nat} {e : LExpr} (h : madeE c (d + 1) e) : ownE p vars e = 0 := by
  obtain ⟨_, h2, h3, h4, _⟩ := h
  unfold ownE
  by_cases k2 : e.kind = 2
  · rw [if_pos k2, if_pos (hasS_iff.2 (hv _ (h2 k2)))]
  · rw [if_neg k2]
    by_cases k6 : e.kind = 6
    · rw [if_pos k6, if_pos]
      obtain ⟨a, ha1, ha2⟩ := List.mem_map.1 (ha _ (h3 k6))
      exact List.any_eq_true.2 ⟨a, ha1, decide_eq_true ha2⟩
    · rw [if_neg k6]
      by_cases k5 : e.kind = 5
      · rw [if_pos k5]
        obtain ⟨g, hg1, hg2⟩ := List.mem_map.1 (hf _ (h4 k5))
        injection hg2 with e1 e2
        rw [← e1, find_name hn hg1]
        show (if g.params.length = e.args.length then 0 else 52) = (0 : Int)
        rw [if_pos e2]
      · rw [if_neg k5]
theorem made_exprs {p : LProg} (hn : (p.funcs.map (·.name)).Nodup) {vars : List ByteArray} {c : Scp} (hv : ∀ x ∈ c.vars, x ∈ vars) (ha : ∀ x ∈ c.arrs, x ∈ p.arrays.map (·.1)) (hf : ∀ x ∈ c.funs, x ∈ p.funcs.map fun g => (g.name, g.params.length)) : ∀ {d D : Nat}, d ≤ D → ∀ {l : List LExpr}, (∀ e ∈ l, madeE c d e) → exprsE p vars D l = 0
  | 0, 0, _, _, _ => rfl
  | d + 1, 0, hd, _, _ => absurd hd (Nat.not_succ_le_zero d)
  | 0, D + 1, _, l, h => firstE_zero fun x hx => (h x hx).elim
  | d + 1, D + 1, hd, l, h => firstE_zero fun x hx => by
    rw [if_neg (by rw [made_own hn hv ha hf (h x hx)]; decide)]
    exact made_exprs hn hv ha hf (by omega) (h x hx).2.2.2.2
theorem made_stmt {p : LProg} (hn : (p.funcs.map (·.name)).Nodup) {vars : List ByteArray} {c : Scp} (hv : ∀ x ∈ c.vars, x ∈ vars) (ha : ∀ x ∈ c.arrs, x ∈ p.arrays.map (·.1)) (hf : ∀ x ∈ c.funs, x ∈ p.funcs.map fun g => (g.name, g.params.length)) {D : Nat} (hD : 4 ≤ D) {d : Nat} {loop : Bool} {s : LStmt} (h : madeS c (d + 1) loop s) : stmtE p vars D s loop = 0 := by
  obtain ⟨_, h2, h3, h4, h5, _⟩ := h
  have hx := made_exprs hn hv ha hf hD h5
  have key : (if s.kind = 5 ∨ s.kind = 6 then (if loop then 0 else 53) else if s.kind = 1 then (if hasS vars s.name then 0 else 51) else if s.kind = 2 then (if p.arrays.any (fun a => decide (a.1 = s.name)) then 0 else 51) else 0 : Int) = 0 := by
    by_cases k5 : s.kind = 5 ∨ s.kind = 6
    · rw [if_pos k5, if_pos (h2 k5)]
    · rw [if_neg k5]
      by_cases k1 : s.kind = 1
      · rw [if_pos k1, if_pos (hasS_iff.2 (hv _ (h3 k1)))]
      · rw [if_neg k1]
        by_cases k2 : s.kind = 2
        · rw [if_pos k2, if_pos]
          obtain ⟨a, ha1, ha2⟩ := List.mem_map.1 (ha _ (h4 k2))
          exact List.any_eq_true.2 ⟨a, ha1, decide_eq_true ha2⟩
        · rw [if_neg k2]
  unfold stmtE
  rw [key]
  show (if (0 : Int) ≠ 0 then 0 else exprsE p vars D s.args) = 0
  rw [if_neg (by decide)]
  exact hx
theorem made_all {p : LProg} (hn : (p.funcs.map (·.name)).Nodup) {vars : List ByteArray} {c : Scp} (hv : ∀ x ∈ c.vars, x ∈ vars) (ha : ∀ x ∈ c.arrs, x ∈ p.arrays.map (·.1)) (hf : ∀ x ∈ c.funs, x ∈ p.funcs.map fun g => (g.name, g.params.length)) {D : Nat} (hD : 4 ≤ D) : ∀ {d m : Nat} {l : List LStmt} {loop : Bool}, (∀ s ∈ l, madeS c d loop s) → ∀ x ∈ allL m l loop, stmtE p vars D x.1 x.2 = 0
  | _, 0, _, _, _, x, hx => by cases hx
  | 0, m + 1, l, loop, h, x, hx => by
    obtain ⟨s, hs, _⟩ := List.mem_flatMap.1 hx
    exact (h s hs).elim
  | d + 1, m + 1, l, loop, h, x, hx => by
    obtain ⟨s, hs, hx⟩ := List.mem_flatMap.1 hx
    rcases List.mem_cons.1 hx with rfl | hx
    · exact made_stmt hn hv ha hf hD (h s hs)
    · obtain ⟨_, _, _, _, _, h6, h7⟩ := h s hs
      rcases List.mem_append.1 hx with hx | hx
      · exact made_all hn hv ha hf hD h6 x hx
      · exact made_all hn hv ha hf hD h7 x hx
theorem firstAt_zero {α : Type} {f : α → Int} : ∀ {l : List α} (k : Nat), (∀ x ∈ l, f x = 0) → firstAt f k l = (0, 0)
  | [], _, _ => rfl
  | x :: l, k, h => by
    unfold firstAt
    rw [if_neg (by rw [h x (by simp)]; decide)]
    exact firstAt_zero (k + 1) fun y hy => h y (by simp [hy])
theorem ok_head {p : LProg} {f : LFunc} (h : OkF p f) : (twiceB (f.params ++ f.locals) || (f.params ++ f.locals).any (fun s => hasS (globalsL p) s)) = false := by
  rw [Bool.or_eq_false_iff]
  refine ⟨by unfold twiceB; rw [decide_eq_true h.vars]; rfl, ?_⟩
  rw [List.any_eq_false]
  intro s hs
  exact fun e => (h.out s hs).2 (hasS_iff.1 e)
theorem ok_function {p : LProg} (hn : (p.funcs.map (·.name)).Nodup) {f : LFunc} (h : OkF p f) {D : Nat} (hD : 4 ≤ D) : functionE D p f = (0, 0) := by
  unfold functionE
  rw [ok_head h]
  exact firstAt_zero 0 fun x hx => made_all hn (fun _ h => h) (fun _ h => h) (fun _ h => h) hD h.body x hx
theorem funcsE_zero {D : Nat} {p : LProg} : ∀ {l : List LFunc} (k : Nat), (∀ f ∈ l, (functionE D p f).1 = 0) → funcsE D p k l = (0, 0, 0)
  | [], _, _ => rfl
  | x :: l, k, h => by
    unfold funcsE
    rw [if_neg (by rw [h x (by simp)]; decide)]
    exact funcsE_zero (k + 1) fun y hy => h y (by simp [hy])
theorem ok_funcB {p : LProg} {f : LFunc} (hnm : nameB f.name = true) (h : OkF p f) {D : Nat} (hD : 4 ≤ D) : funcB D f = true := by
  unfold funcB
  simp only [Bool.and_eq_true, List.all_eq_true, decide_eq_true_eq]
  exact ⟨⟨⟨⟨hnm, fun s hs => (h.out s (by simp [hs])).1⟩, fun s hs => (h.out s (by simp [hs])).1⟩, h.few⟩, fun s hs => made_stmtB hD (by decide) (h.body s hs)⟩
theorem ok_right {p : LProg} (h : OkP p) {D : Nat} (hD : 4 ≤ D) : rightB D p = true := by
  unfold rightB
  simp only [Bool.and_eq_true, List.all_eq_true, decide_eq_true_eq]
  exact ⟨fun a ha => ⟨h.names _ (by unfold globalsL; simp only [List.mem_append, List.mem_map]; exact .inl ⟨a, ha, rfl⟩), h.sizes a ha⟩, fun f hf => ok_funcB (h.names _ (by unfold globalsL; simp only [List.mem_append, List.mem_map]; exact .inr ⟨f, hf, rfl⟩)) (h.funs f hf) hD⟩
theorem ok_check {p : LProg} (h : OkP p) {D : Nat} (hD : 4 ≤ D) : checkE D p = (0, 0, 0) := by
  have hn := funcs_nodup h.gl
  obtain ⟨f, hf, hfn, hfp⟩ := h.main
  unfold checkE
  rw [ok_right h hD, show twiceB (globalsL p) = false by unfold twiceB; rw [decide_eq_true h.gl]; rfl]
  have e := find_name hn hf
  rw [hfn] at e
  show (match p.funcs.find? (fun f => decide (f.name = mainN)) with | none => _ | some f => _) = _
  rw [e]
  show (if 0 < f.params.length then _ else _) = _
  rw [hfp, if_neg (by decide)]
  exact funcsE_zero 0 fun g hg => by rw [ok_function hn (h.funs g hg) hD]
end Go.Proofs.YtmignlclfbaifaaGreat
