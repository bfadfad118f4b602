/- What is told of names that are there twice, of what is wrong first, of functions in another order. Plain laws of 'CheckTwice', 'CheckFirst', 'CheckMade'. -/
import Derived.Test.YtmignlclfbaifaaGreatTrWrong
namespace Go.Proofs.YtmignlclfbaifaaGreat

section
variable {p : LProg}
/-! ### wrong first -/
theorem right_body' {D : Nat} (h0 : rightB D p = true) {k : Nat} {b : List LStmt} (hb : ∀ s ∈ b, stmtB D 40 s = true) : rightB D (bodyP p k b) = true := by
  unfold rightB at h0 ⊢
  simp only [Bool.and_eq_true, List.all_eq_true] at h0 ⊢
  refine ⟨h0.1, fun f hf => ?_⟩
  rcases body_mem hf with h1 | ⟨hk, rfl⟩
  · exact h0.2 f h1
  · have h2 := h0.2 _ (List.getElem_mem hk)
    unfold funcB at h2 ⊢
    simp only [Bool.and_eq_true, List.all_eq_true] at h2 ⊢
    exact ⟨h2.1, hb⟩
theorem alike_main' {q : LProg} (ha : Alike p q) (hm : ∃ f ∈ p.funcs, f.name = mainN ∧ f.params = []) : ∃ f ∈ q.funcs, f.name = mainN ∧ f.params = [] := by
  obtain ⟨f, hf, h1, h2⟩ := hm
  have hx : headF f ∈ q.funcs.map headF := by rw [ha.funs]; exact List.mem_map.2 ⟨f, hf, rfl⟩
  obtain ⟨g, hg, e⟩ := List.mem_map.1 hx
  injection e with e1 e2
  exact ⟨g, hg, e1.trans h1, List.eq_nil_of_length_eq_zero (by rw [e2, h2]; rfl)⟩
theorem check_ahead (h : MadeP p) {D : Nat} (hD : 4 ≤ D) {q : LProg} (ha : Alike p q) (hr : rightB D q = true) {k : Nat} (hk : k < p.funcs.length) (hkq : k < q.funcs.length) (hj : ∀ (j : Nat) (h1 : j < q.funcs.length) (h2 : j < p.funcs.length), j < k → q.funcs[j] = p.funcs[j]) {i : Nat} (hi : i < wrongL.length) {r : List LStmt} (hq : q.funcs[k] = { p.funcs[k] with body := wrongL[i] :: r }) : checkE D q = (wantL[i]'hi, (k : Int), 0) := by
  have hf := List.getElem_mem hk
  obtain ⟨kk, nm, l, e⟩ : ∃ kk nm l, wrongL[i] = lone kk nm l := by
    have hl : i < 8 := hi
    rcases (by omega : i = 0 ∨ i = 1 ∨ i = 2 ∨ i = 3 ∨ i = 4 ∨ i = 5 ∨ i = 6 ∨ i = 7) with rfl | rfl | rfl | rfl | rfl | rfl | rfl | rfl <;> exact ⟨_, _, _, rfl⟩
  have hw : stmtE q (p.funcs[k].params ++ p.funcs[k].locals) D (wrongL[i]) false = wantL[i]'hi := bad_wrong (alike_nodup ha h.ok.gl) (alike_main' ha h.ok.main) (by rw [ha.globals]; exact big_out h.small) (big_out (h.smallV _ hf)) hD hi
  refine check_at hr (alike_nodup ha h.ok.gl) (alike_main' ha h.ok.main) hkq (fun j hj1 hjk => ?_) ?_ (want_ne hi)
  · have h2 : j < p.funcs.length := by omega
    rw [hj j hj1 h2 hjk, ok_function (funcs_nodup (alike_nodup ha h.ok.gl)) ((h.ok.funs _ (List.getElem_mem h2)).alike ha) hD]
  · rw [hq, e]
    rw [e] at hw
    have h2 := wrong_ahead (r := r) ((h.ok.funs _ hf).alike ha) hD (k := kk) (nm := nm) (l := l) (by rw [hw]; exact want_ne hi)
    rw [hw] at h2
    exact h2
/-! ### a name that is there twice -/
theorem twice_arr (h : MadeP p) {D : Nat} (hD : 4 ≤ D) {s : ByteArray} (hs : s ∈ globalsL p) : checkE D { p with arrays := p.arrays ++ [(s, 1)] } = (50, 0, 0) := by
  have h0 := ok_right h.ok hD
  refine check_twice ?_ fun hn => ?_
  · unfold rightB at h0 ⊢
    simp only [Bool.and_eq_true, List.all_eq_true] at h0 ⊢
    refine ⟨fun a ha => ?_, h0.2⟩
    rcases List.mem_append.1 ha with h1 | h1
    · exact h0.1 a h1
    · obtain rfl := List.mem_singleton.1 h1
      exact ⟨h.ok.names s hs, by show decide (1 ≤ (1 : Int) ∧ (1 : Int) ≤ 1048576) = true; decide⟩
  · have hn' : (p.arrays.map (·.1) ++ [s] ++ p.funcs.map (·.name)).Nodup := by
      have e : (p.arrays ++ [(s, (1 : Int))]).map (·.1) ++ p.funcs.map (·.name) = p.arrays.map (·.1) ++ [s] ++ p.funcs.map (·.name) := by simp
      rw [← e]; exact hn
    rw [List.nodup_append] at hn'
    rcases List.mem_append.1 (show s ∈ p.arrays.map (·.1) ++ p.funcs.map (·.name) from hs) with h1 | h1
    · have h2 := hn'.1
      rw [List.nodup_append] at h2
      exact h2.2.2 s h1 s (by simp) rfl
    · exact hn'.2.2 s (by simp) s h1 rfl
theorem twice_fun (h : MadeP p) {D : Nat} (hD : 4 ≤ D) {s : ByteArray} (hs : s ∈ globalsL p) : checkE D { p with funcs := p.funcs ++ [⟨s, [], [], []⟩] } = (50, 0, 0) := by
  have h0 := ok_right h.ok hD
  refine check_twice ?_ fun hn => ?_
  · unfold rightB at h0 ⊢
    simp only [Bool.and_eq_true, List.all_eq_true] at h0 ⊢
    refine ⟨h0.1, fun f hf => ?_⟩
    rcases List.mem_append.1 hf with h1 | h1
    · exact h0.2 f h1
    · obtain rfl := List.mem_singleton.1 h1
      unfold funcB
      simp [h.ok.names s hs]
  · have hn' : (p.arrays.map (·.1) ++ p.funcs.map (·.name) ++ [s]).Nodup := by
      have e : p.arrays.map (·.1) ++ (p.funcs ++ [(⟨s, [], [], []⟩ : LFunc)]).map (·.name) = p.arrays.map (·.1) ++ p.funcs.map (·.name) ++ [s] := by simp
      rw [← e]; exact hn
    rw [List.nodup_append] at hn'
    exact hn'.2.2 s hs s (by simp) rfl
def localP (p : LProg) (k : Nat) (s : ByteArray) : LProg := { p with funcs := p.funcs.modify k fun f => { f with locals := f.locals ++ [s] } }
theorem local_len (p : LProg) (k : Nat) (s : ByteArray) : (localP p k s).funcs.length = p.funcs.length := by simp [localP]
theorem local_at (p : LProg) {k : Nat} (hk : k < p.funcs.length) (s : ByteArray) : (localP p k s).funcs[k]'(by rw [local_len]; exact hk) = { p.funcs[k] with locals := p.funcs[k].locals ++ [s] } := by simp [localP]
theorem local_ne (p : LProg) {k j : Nat} (hj : j < p.funcs.length) (h : k ≠ j) (s : ByteArray) : (localP p k s).funcs[j]'(by rw [local_len]; exact hj) = p.funcs[j] := by simp [localP, h]
theorem local_alike (p : LProg) (k : Nat) (s : ByteArray) : Alike p (localP p k s) := by
  refine ⟨rfl, ?_⟩
  show (p.funcs.modify k _).map headF = _
  apply List.ext_getElem
  · simp
  · intro i h1 h2
    simp [List.getElem_modify]
    split <;> rfl
theorem twice_local (h : MadeP p) {D : Nat} (hD : 4 ≤ D) {k : Nat} (hk : k < p.funcs.length) {s : ByteArray} (hs : s ∈ globalsL p) : checkE D (localP p k s) = (50, (k : Int), 0) := by
  have ha := local_alike p k s
  have h0 := ok_right h.ok hD
  refine check_at ?_ (alike_nodup ha h.ok.gl) (alike_main' ha h.ok.main) (by rw [local_len]; exact hk) (fun j hj hjk => ?_) ?_ (by decide)
  · unfold rightB at h0 ⊢
    simp only [Bool.and_eq_true, List.all_eq_true] at h0 ⊢
    refine ⟨h0.1, fun f hf => ?_⟩
    obtain ⟨i, hi, rfl⟩ := List.getElem_of_mem hf
    rw [local_len] at hi
    by_cases e : k = i
    · subst e
      rw [local_at p hi s]
      have h2 := h0.2 _ (List.getElem_mem hi)
      unfold funcB at h2 ⊢
      simp only [Bool.and_eq_true, List.all_eq_true, List.mem_append, List.mem_singleton] at h2 ⊢
      refine ⟨⟨⟨h2.1.1.1, fun x hx => ?_⟩, h2.1.2⟩, h2.2⟩
      rcases hx with hx | rfl
      · exact h2.1.1.2 x hx
      · exact h.ok.names _ hs
    · rw [local_ne p hi e s]; exact h0.2 _ (List.getElem_mem hi)
  · rw [local_len] at hj
    rw [local_ne p hj (by omega) s, ok_function (funcs_nodup (alike_nodup ha h.ok.gl)) ((h.ok.funs _ (List.getElem_mem hj)).alike ha) hD]
  · rw [local_at p hk s]
    unfold functionE
    rw [if_pos]
    rw [Bool.or_eq_true]
    refine .inr (List.any_eq_true.2 ⟨s, by simp, hasS_iff.2 ?_⟩)
    rw [ha.globals]; exact hs
/-! ### functions in another order -/
theorem ok_turn {l r : List LFunc} (hp : p.funcs = l ++ r) (h : OkP p) : OkP { p with funcs := r ++ l } := by
  have hmem : ∀ f, f ∈ r ++ l ↔ f ∈ p.funcs := fun f => by rw [hp]; simp [or_comm]
  have hgm : ∀ s, s ∈ globalsL { p with funcs := r ++ l } ↔ s ∈ globalsL p := fun s => by
    unfold globalsL
    simp only [List.mem_append, List.mem_map]
    constructor
    · rintro (h1 | ⟨f, hf, e⟩)
      · exact .inl h1
      · exact .inr ⟨f, (hmem f).1 (List.mem_append.2 hf), e⟩
    · rintro (h1 | ⟨f, hf, e⟩)
      · exact .inl h1
      · exact .inr ⟨f, List.mem_append.1 ((hmem f).2 hf), e⟩
  refine ⟨?_, fun s hs => h.names s ((hgm s).1 hs), h.sizes, ?_, fun f hf => ?_⟩
  · have h0 := h.gl
    unfold globalsL at h0 ⊢
    have e : (p.arrays.map (·.1) ++ (r ++ l).map (·.name)).Perm (p.arrays.map (·.1) ++ p.funcs.map (·.name)) := by
      refine List.Perm.append_left _ ?_
      rw [hp, List.map_append, List.map_append]
      exact List.perm_append_comm
    exact e.nodup_iff.2 h0
  · obtain ⟨f, hf, e⟩ := h.main
    exact ⟨f, (hmem f).2 hf, e⟩
  · have h1 := h.funs f ((hmem f).1 hf)
    refine ⟨h1.vars, fun s hs => ⟨(h1.out s hs).1, fun hg => (h1.out s hs).2 ((hgm s).1 hg)⟩, h1.few, fun s hs => mades_sub (c := scpOf p f) (c' := scpOf { p with funcs := r ++ l } f) ⟨fun _ h => h, fun _ h => h, fun x hx => ?_⟩ (Nat.le_refl _) (h1.body s hs)⟩
    obtain ⟨g, hg, e⟩ := List.mem_map.1 hx
    exact List.mem_map.2 ⟨g, (hmem g).2 hg, e⟩
end
end Go.Proofs.YtmignlclfbaifaaGreat
