/- Units one of whose blocks may not be: what chapter 10's statement puts in is told, at its place. -/
import Derived.Test.YtnpnhdmfdhnmfaaGreatDoorIrCheckBad
import Derived.Test.YtnpnhdmfdhnmfaaGreatDoorIrFit
namespace Go.Proofs.YtnpnhdmfdhnmfaaGreatDoor
open Go.RowKit

/-- what a call wants hangs on the functions' names and params alone -/
theorem find_params (s : ByteArray) : ∀ (l m : List LFlow), l.map (fun f => (f.name, f.params)) = m.map (fun f => (f.name, f.params)) → (l.find? fun f => decide (f.name = s)).map (·.params) = (m.find? fun f => decide (f.name = s)).map (·.params)
  | [], [], _ => rfl
  | [], _ :: _, h => by simp at h
  | _ :: _, [], h => by simp at h
  | a :: l, b :: m, h => by
    rw [List.map_cons, List.map_cons] at h
    injection h with h1 h2
    have hn : a.name = b.name := congrArg Prod.fst h1
    have hp : a.params = b.params := congrArg Prod.snd h1
    rw [List.find?_cons, List.find?_cons, hn]
    by_cases hs : b.name = s
    · rw [decide_eq_true hs]; simp [hp]
    · rw [decide_eq_false hs]; exact find_params s l m h2
theorem callOk_congr {u v : LUnit} (h : u.flows.map (fun f => (f.name, f.params)) = v.flows.map (fun f => (f.name, f.params))) (vals : Int) (s : ByteArray) (args : List Int) : callOk u vals s args = callOk v vals s args := by
  have hp := find_params s u.flows v.flows h
  unfold callOk
  cases h1 : u.flows.find? (fun f => decide (f.name = s)) with
  | none =>
    rw [h1] at hp
    cases h2 : v.flows.find? (fun f => decide (f.name = s)) with
    | none => rfl
    | some g => rw [h2] at hp; cases hp
  | some f =>
    rw [h1] at hp
    cases h2 : v.flows.find? (fun f => decide (f.name = s)) with
    | none => rw [h2] at hp; cases hp
    | some g =>
      rw [h2] at hp
      have hpp : f.params = g.params := by injection hp
      show (decide ((args.length : Int) = f.params) && _) = (decide ((args.length : Int) = g.params) && _)
      rw [hpp]
theorem insOk_congr {u v : LUnit} (ha : u.arrays = v.arrays) (h : u.flows.map (fun f => (f.name, f.params)) = v.flows.map (fun f => (f.name, f.params))) (vals : Int) (x : LIns) : insOk u vals x = insOk v vals x := by
  unfold insOk namedOk
  rw [ha, callOk_congr h]
theorem blockBad_congr {u v : LUnit} (ha : u.arrays = v.arrays) (h : u.flows.map (fun f => (f.name, f.params)) = v.flows.map (fun f => (f.name, f.params))) (f g : LFlow) (hv : f.values = g.values) (hl : f.blocks.length = g.blocks.length) (b : LBlock) : blockBad u f b = blockBad v g b := by
  unfold blockBad
  rw [hl, hv]
  congr 2
  funext x
  rw [insOk_congr ha h]
/-- function k's block i is another one -/
def wrF (f : LFlow) (i : Nat) (b : LBlock) : LFlow := { f with blocks := f.blocks.set i b }
def wrU (raw : List LBlock) (k i : Nat) (b : LBlock) : LUnit := { arrays := fitArrays, flows := (fitFlows raw 3).set k (wrF (fitFl raw k) i b) }
theorem fitFlows_at (raw : List LBlock) (k : Nat) (hk : k < 3) : (fitFlows raw 3)[k]? = some (fitFl raw k) := by
  rcases (by omega : k = 0 ∨ k = 1 ∨ k = 2) with rfl | rfl | rfl <;> rfl
theorem wr_names (raw : List LBlock) (k i : Nat) (b : LBlock) (hk : k < 3) : (wrU raw k i b).flows.map (fun f => (f.name, f.params)) = (fitU raw).flows.map (fun f => (f.name, f.params)) := by
  rcases (by omega : k = 0 ∨ k = 1 ∨ k = 2) with rfl | rfl | rfl <;> rfl
theorem wr_at (raw : List LBlock) (k i : Nat) (b : LBlock) (hk : k < 3) (j : Nat) (hj : j < (wrU raw k i b).flows.length) : (wrU raw k i b).flows[j] = if j = k then wrF (fitFl raw k) i b else fitFl raw j := by
  have hl : (wrU raw k i b).flows.length = 3 := by show ((fitFlows raw 3).set k _).length = 3; rw [List.length_set]; rfl
  have hj3 : j < 3 := by omega
  have h : (wrU raw k i b).flows[j]? = some (if j = k then wrF (fitFl raw k) i b else fitFl raw j) := by
    show ((fitFlows raw 3).set k (wrF (fitFl raw k) i b))[j]? = _
    by_cases e : j = k
    · subst e
      rw [if_pos rfl, List.getElem?_set_self (by show j < 3; exact hj3)]
    · rw [if_neg e, List.getElem?_set_ne (Ne.symm e)]
      exact fitFlows_at raw j hj3
  rw [List.getElem?_eq_getElem hj] at h
  exact Option.some.inj h
theorem wr_mem (raw : List LBlock) (k i : Nat) (b : LBlock) (hk : k < 3) : ∀ f ∈ (wrU raw k i b).flows, f = wrF (fitFl raw k) i b ∨ ∃ j, j < 3 ∧ f = fitFl raw j := fun f hf => by
  obtain ⟨j, hj, rfl⟩ := List.getElem_of_mem hf
  rw [wr_at raw k i b hk j hj]
  by_cases e : j = k
  · rw [if_pos e]; exact .inl rfl
  · rw [if_neg e]
    have hl : (wrU raw k i b).flows.length = 3 := by show ((fitFlows raw 3).set k _).length = 3; rw [List.length_set]; rfl
    exact .inr ⟨j, by omega, rfl⟩
theorem cnt_le {l : List LBlock} {m : Nat} (h : ∀ b ∈ l, b.ins.length ≤ m) : insCount l ≤ m * l.length := by
  unfold insCount
  induction l with
  | nil => simp
  | cons a r ih =>
    have h1 := h a (by simp)
    have h2 := ih fun b hb => h b (by simp [hb])
    rw [List.map_cons, List.sum_cons, List.length_cons, Nat.mul_succ]
    omega
theorem wr_base (raw : List LBlock) (k i : Nat) (b : LBlock) (hk : k < 3) (hb : b.ins.length ≤ 7) : UnitB (wrU raw k i b) := by
  have hok := unit_fit raw
  have hn : allNames (wrU raw k i b) = allNames (fitU raw) := by
    have h := congrArg (List.map Prod.fst) (wr_names raw k i b hk)
    rw [List.map_map, List.map_map] at h
    show fitArrays.map (·.1) ++ (wrU raw k i b).flows.map (·.name) = fitArrays.map (·.1) ++ (fitU raw).flows.map (·.name)
    congr 1
  have hins : ∀ c ∈ (wrF (fitFl raw k) i b).blocks, c.ins.length ≤ 7 := fun c hc => by
    rcases List.mem_or_eq_of_mem_set hc with hc | rfl
    · have := fit_ins raw k c hc; omega
    · exact hb
  have hle := fit_le raw k
  have hpos := fit_pos raw k
  refine ⟨hok.sizes, hok.arrs, ?_, ?_, ?_, ?_, fun f hf => ?_, fun f hf c hc => ?_⟩
  · show ((fitFlows raw 3).set k _).length ≤ 500
    rw [List.length_set]; show 3 ≤ 500; omega
  · rw [hn]; exact hok.good
  · rw [hn]; exact hok.nodup
  · obtain ⟨im, him, hpl, hpr⟩ := hok.main
    have hl : (wrU raw k i b).flows.length = 3 := by show ((fitFlows raw 3).set k _).length = 3; rw [List.length_set]; rfl
    refine ⟨im, by rw [hl]; exact him, ?_, ?_⟩
    · rw [← hpl]
      unfold placeU findI
      have h := congrArg (List.map Prod.fst) (wr_names raw k i b hk)
      rw [List.map_map, List.map_map] at h
      have e1 : ∀ l : List LFlow, l.any (fun f => decide (f.name = sMain)) = (l.map (·.name)).any (fun s => decide (s = sMain)) := fun l => by rw [List.any_map]; rfl
      have e2 : ∀ l : List LFlow, l.findIdx (fun f => decide (f.name = sMain)) = (l.map (·.name)).findIdx (fun s => decide (s = sMain)) := fun l => by rw [List.findIdx_map]; rfl
      rw [e1, e2, e1, e2]
      have h' : (wrU raw k i b).flows.map (·.name) = (fitU raw).flows.map (·.name) := h
      rw [h']
    · have him3 : im < 3 := him
      have h := congrArg (fun l => l[im]?) (wr_names raw k i b hk)
      simp only [List.getElem?_map] at h
      rw [List.getElem?_eq_getElem (by rw [hl]; exact him), List.getElem?_eq_getElem him] at h
      injection h with h
      have hp : (wrU raw k i b).flows[im].params = (fitU raw).flows[im].params := congrArg Prod.snd h
      rw [hp]; exact hpr
  · rcases wr_mem raw k i b hk f hf with rfl | ⟨j, hj, rfl⟩
    · have hc := cnt_le hins
      have hlen : (wrF (fitFl raw k) i b).blocks.length = (fitFl raw k).blocks.length := List.length_set
      unfold flowBad
      refine decide_eq_false ?_
      show ¬ ((k : Int) < 0 ∨ (k : Int) > 6 ∨ (10 : Int) < (k : Int) ∨ (10 : Int) > 50000 ∨ (wrF (fitFl raw k) i b).blocks.length = 0 ∨ (wrF (fitFl raw k) i b).blocks.length > 20000 ∨ insCount (wrF (fitFl raw k) i b).blocks > 200000)
      rw [hlen] at hc ⊢
      omega
    · exact hok.nums _ (List.mem_of_getElem? (fitFlows_at raw j hj))
  · rcases wr_mem raw k i b hk f hf with rfl | ⟨j, hj, rfl⟩
    · have := hins c hc; omega
    · have := fit_ins raw j c hc; omega
theorem wr_bad (raw : List LBlock) (k i : Nat) (b : LBlock) (hk : k < 3) (hi : i < (fitFl raw k).blocks.length) (hb : blockBad (wrU raw k i b) (fitFl raw k) b = true) :
    (∀ (j : Nat) (h : j < k), ((wrU raw k i b).flows[j]'(by show j < ((fitFlows raw 3).set k _).length; rw [List.length_set]; show j < 3; omega)).blocks.any (blockBad (wrU raw k i b) ((wrU raw k i b).flows[j]'(by show j < ((fitFlows raw 3).set k _).length; rw [List.length_set]; show j < 3; omega))) = false) ∧
    (wrF (fitFl raw k) i b).blocks.any (blockBad (wrU raw k i b) (wrF (fitFl raw k) i b)) = true ∧ findI (blockBad (wrU raw k i b) (wrF (fitFl raw k) i b)) (wrF (fitFl raw k) i b).blocks = (i : Int) := by
  have hok := unit_fit raw
  have hnm := wr_names raw k i b hk
  have hlen : (wrF (fitFl raw k) i b).blocks.length = (fitFl raw k).blocks.length := List.length_set
  have hsame : ∀ c, blockBad (wrU raw k i b) (wrF (fitFl raw k) i b) c = blockBad (wrU raw k i b) (fitFl raw k) c := fun c => blockBad_congr (u := wrU raw k i b) (v := wrU raw k i b) rfl rfl (wrF (fitFl raw k) i b) (fitFl raw k) rfl hlen c
  have hgood : ∀ j, j < 3 → ∀ c ∈ (fitFl raw j).blocks, blockBad (wrU raw k i b) (fitFl raw j) c = false := fun j hj c hc => by
    rw [blockBad_congr (u := wrU raw k i b) (v := fitU raw) rfl hnm (fitFl raw j) (fitFl raw j) rfl rfl c]
    have h := hok.blocks _ (List.mem_of_getElem? (fitFlows_at raw j hj))
    have h2 := List.any_eq_false.1 h c hc
    simpa using h2
  have hat : (wrF (fitFl raw k) i b).blocks[i]'(by rw [hlen]; exact hi) = b := List.getElem_set_self (by show i < ((fitFl raw k).blocks.set i b).length; rw [List.length_set]; exact hi)
  have hany : (wrF (fitFl raw k) i b).blocks.any (blockBad (wrU raw k i b) (wrF (fitFl raw k) i b)) = true := by
    have hm := List.getElem_mem (l := (wrF (fitFl raw k) i b).blocks) (n := i) (by rw [hlen]; exact hi)
    rw [hat] at hm
    exact List.any_eq_true.2 ⟨b, hm, by rw [hsame]; exact hb⟩
  refine ⟨fun j hj => ?_, hany, ?_⟩
  · have e := wr_at raw k i b hk j (by show j < ((fitFlows raw 3).set k _).length; rw [List.length_set]; show j < 3; omega)
    rw [if_neg (by omega)] at e
    rw [e]
    refine List.any_eq_false.2 fun c hc => ?_
    rw [hgood j (by omega) c hc]; decide
  · unfold findI
    rw [if_pos hany]
    congr 1
    refine (List.findIdx_eq (by rw [hlen]; exact hi)).2 ⟨?_, fun j hj => ?_⟩
    · rw [hsame]
      show blockBad _ _ ((wrF (fitFl raw k) i b).blocks[i]'_) = true
      rw [hat]; exact hb
    · rw [hsame]
      have hj2 : j < (fitFl raw k).blocks.length := by omega
      have e : (wrF (fitFl raw k) i b).blocks[j]'(by rw [hlen]; exact hj2) = (fitFl raw k).blocks[j] := List.getElem_set_ne (fun e => by omega) _
      rw [e]
      exact hgood k hk _ (List.getElem_mem hj2)

/-! ### what may not be -/
def badIns (n : Int) : List LIns := [⟨0, 0, 0, 0, 0, 0, ⟨#[]⟩, []⟩, ⟨10, 0, 0, 0, 0, 0, ⟨#[]⟩, []⟩, ⟨1, n, 0, 0, 0, 0, ⟨#[]⟩, []⟩, ⟨2, 0, -n, 0, 0, 0, ⟨#[]⟩, []⟩, ⟨3, 0, 0, 0, 1, 0, ⟨#[]⟩, []⟩, ⟨4, 0, 0, 0, 18, 0, ⟨#[]⟩, []⟩, ⟨5, 0, 0, 0, 0, 0, ⟨#[109, 97, 105, 110]⟩, []⟩, ⟨6, 1, 0, 0, 0, 0, ⟨#[97]⟩, []⟩, ⟨7, 0, 0, 0, 0, n, ⟨#[]⟩, []⟩, ⟨9, 0, 0, 0, 0, 0, ⟨#[102]⟩, []⟩, ⟨9, 0, 0, 0, 0, 0, ⟨#[102]⟩, [n]⟩, ⟨8, 0, n, 0, 0, 0, ⟨#[]⟩, []⟩]
def badEnds (n : Int) : List LTerm := [⟨0, 0, 0, 0⟩, ⟨1, 0, n, 0⟩, ⟨3, -n, 0, 0⟩]
theorem placeIf_big {n : Int} (h : 10 ≤ n) : placeIf n 10 true = false := by unfold placeIf; rw [if_pos rfl]; exact decide_eq_false (by omega)
theorem placeIf_neg {n : Int} (h : 10 ≤ n) : placeIf (-n) 10 true = false := by unfold placeIf; rw [if_pos rfl]; exact decide_eq_false (by omega)
theorem callF (raw : List LBlock) (args : List Int) (h : args.length ≠ 1 ∨ args.any (fun n => !placeIf n 10 true) = true) : callOk (fitU raw) 10 ⟨#[102]⟩ args = false := by
  have hf : (fitU raw).flows.find? (fun f => decide (f.name = (⟨#[102]⟩ : ByteArray))) = some (fitFl raw 1) := rfl
  unfold callOk
  rw [hf]
  show (decide ((args.length : Int) = 1) && !args.any (fun n => !placeIf n 10 true)) = false
  rcases h with h | h
  · rw [decide_eq_false (by omega)]; rfl
  · rw [h]; simp
theorem badIns_bad (raw : List LBlock) (n : Int) (hn : 10 ≤ n) : ∀ x ∈ badIns n, insOk (fitU raw) 10 x = false := by
  intro x hx
  simp only [badIns, List.mem_cons, List.not_mem_nil, or_false] at hx
  have b1 := placeIf_big hn
  have b2 := placeIf_neg hn
  have b3 : decide (n = 0) = false := decide_eq_false (by omega)
  have c0 := callF raw [] (.inl (by decide))
  have c1 := callF raw [n] (.inr (by show (!placeIf n 10 true || false) = true; rw [b1]; rfl))
  rcases hx with rfl | rfl | rfl | rfl | rfl | rfl | rfl | rfl | rfl | rfl | rfl | rfl
  · rfl
  · rfl
  · unfold insOk; rw [show placeIf n 10 (hasD 1) = false from b1]; simp
  · unfold insOk; rw [show placeIf (-n) 10 (hasA 2) = false from b2]; simp
  · unfold insOk; rw [show opOk 3 1 = false from rfl]; simp
  · unfold insOk; rw [show opOk 4 18 = false from rfl]; simp
  · unfold insOk; rw [show namedOk (fitU raw) 10 ⟨5, 0, 0, 0, 0, 0, ⟨#[109, 97, 105, 110]⟩, []⟩ = false from rfl]; simp
  · rfl
  · unfold insOk; rw [show (decide ((7 : Int) = 1) || decide (n = 0)) = false from by rw [b3]; rfl]; simp
  · unfold insOk; rw [show namedOk (fitU raw) 10 ⟨9, 0, 0, 0, 0, 0, ⟨#[102]⟩, []⟩ = false from c0]; simp
  · unfold insOk; rw [show namedOk (fitU raw) 10 ⟨9, 0, 0, 0, 0, 0, ⟨#[102]⟩, [n]⟩ = false from c1]; simp
  · unfold insOk; rw [show placeIf n 10 (hasA 8) = false from b1]; simp
theorem badEnds_bad (nb n : Int) (hn : 10 ≤ n) (hb : nb ≤ 10) : ∀ t ∈ badEnds n, termOk nb 10 t = false := by
  intro t ht
  simp only [badEnds, List.mem_cons, List.not_mem_nil, or_false] at ht
  rcases ht with rfl | rfl | rfl
  · rfl
  · unfold termOk
    have h : placeIf n nb (decide ((1 : Int) = 1 ∨ (1 : Int) = 2)) = false := by
      show placeIf n nb true = false
      unfold placeIf; rw [if_pos rfl]; exact decide_eq_false (by omega)
    rw [show placeIf n nb (decide ((⟨1, 0, n, 0⟩ : LTerm).kind = 1 ∨ (⟨1, 0, n, 0⟩ : LTerm).kind = 2)) = false from h]; simp
  · unfold termOk
    rw [show placeIf (-n) 10 (decide ((⟨3, -n, 0, 0⟩ : LTerm).kind ≠ 1)) = false from placeIf_neg hn]; simp
theorem wr_ins (raw : List LBlock) (k i : Nat) (hk : k < 3) (n : Int) (hn : 10 ≤ n) (x : LIns) (hx : x ∈ badIns n) (ins : List LIns) (t : LTerm) : blockBad (wrU raw k i ⟨ins ++ [x], t⟩) (fitFl raw k) ⟨ins ++ [x], t⟩ = true := by
  rw [blockBad_congr (u := wrU raw k i ⟨ins ++ [x], t⟩) (v := fitU raw) rfl (wr_names raw k i _ hk) (fitFl raw k) (fitFl raw k) rfl rfl]
  unfold blockBad
  have h : (ins ++ [x]).any (fun x => !insOk (fitU raw) (fitFl raw k).values x) = true := by
    rw [List.any_append]
    show (_ || (!insOk (fitU raw) 10 x || false)) = true
    rw [badIns_bad raw n hn x hx]; simp
  show (_ || (ins ++ [x]).any _) = true
  rw [h]; simp
theorem wr_end (raw : List LBlock) (k i : Nat) (hk : k < 3) (n : Int) (hn : 10 ≤ n) (t : LTerm) (ht : t ∈ badEnds n) (ins : List LIns) : blockBad (wrU raw k i ⟨ins, t⟩) (fitFl raw k) ⟨ins, t⟩ = true := by
  rw [blockBad_congr (u := wrU raw k i ⟨ins, t⟩) (v := fitU raw) rfl (wr_names raw k i _ hk) (fitFl raw k) (fitFl raw k) rfl rfl]
  unfold blockBad
  have hle := fit_le raw k
  show (!termOk ((fitFl raw k).blocks.length : Int) 10 t || _) = true
  rw [badEnds_bad _ n hn (by omega) t ht]; simp
end Go.Proofs.YtnpnhdmfdhnmfaaGreatDoor
