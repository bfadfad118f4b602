/- The units that Fit makes may be, for ir.Check. -/
import Derived.Test.YtkpigkopjfkepaaGreatDoorPrIrCheck
import Derived.Test.YtkpigkopjfkepaaGreatDoorPrFlowSm
namespace Go.Proofs.YtkpigkopjfkepaaGreatDoor
open Go.RowKit
def fitK (k : Int) (x : LIns) : LIns :=
 {kind := k
  d := if k = 6 ∨ k = 8 then 0 else pk x.d 10
  a := if k = 1 ∨ k = 7 ∨ k = 9 then 0 else pk x.a 10
  b := if k = 4 ∨ k = 6 then pk x.b 10 else 0
  op := if k = 3 then 17 + pk x.op 3 else if k = 4 then 1 + pk x.op 16 else 0
  n := if k = 1 then x.n else 0
  name := if k = 5 ∨ k = 6 then arrName (pk x.n 2) else if k = 9 then fnName (pk x.n 3) else sNone
  args := if k = 9 then (List.range (pk x.n 3).toNat).map (fitArg x) else [] }
theorem fitIns_K (x : LIns) : fitIns x = fitK (1 + pk x.kind 9) x := rfl
theorem fitU_names (raw : List LBlock) : allNames (fitU raw) = [sA, sB, sMain, sF, sG] := by
 unfold allNames fitU fitArrays fitFlows
 rfl
theorem fitU_flows (raw : List LBlock) : (fitU raw).flows = [fitFl raw 0, fitFl raw 1, fitFl raw 2] := rfl
theorem s_ne : sMain ≠ sF ∧ sMain ≠ sG ∧ sF ≠ sG ∧ sA ≠ sB := by decide
theorem name_fl (raw : List LBlock) (k : Nat) : (fitFl raw k).name = fnName k := rfl
theorem call_fit (raw : List LBlock) (x : LIns) : callOk (fitU raw) 10 (fnName (pk x.n 3)) ((List.range (pk x.n 3).toNat).map (fitArg x)) = true := by
 obtain ⟨n1, n2, n3, _⟩ := s_ne
 have h0 := pk_lo x.n 3 (by omega)
 have h1 := pk_hi x.n 3 (by omega)
 have hargs : ((List.range (pk x.n 3).toNat).map (fitArg x)).any (fun n => !placeIf n 10 true) = false := by
  rw [List.any_eq_false]
  intro n hn
  obtain ⟨i, _, rfl⟩ := List.mem_map.1 hn
  have := pk_small (wrap64 (x.a + wrap64 (i * x.b)))
  have e : placeIf (fitArg x i) 10 true = true := by unfold placeIf; rw [if_pos rfl]; exact decide_eq_true this
  rw [e]; decide
 have hlen : ((List.range (pk x.n 3).toNat).map (fitArg x)).length = (pk x.n 3).toNat := by simp
 generalize (List.range (pk x.n 3).toNat).map (fitArg x) = ag at *
 unfold callOk
 rw [fitU_flows]
 rcases (by omega : pk x.n 3 = 0 ∨ pk x.n 3 = 1 ∨ pk x.n 3 = 2) with h | h | h
 ·rw [h] at hlen ⊢
  rw [List.find?_cons_of_pos (by rw [name_fl]; exact decide_eq_true rfl)]
  show (decide ((ag.length : Int) = 0) && !ag.any (fun n => !placeIf n 10 true)) = true
  rw [hargs, hlen]; rfl
 ·rw [h] at hlen ⊢
  rw [List.find?_cons_of_neg (by rw [name_fl]; exact fun e => n1 (of_decide_eq_true e)), List.find?_cons_of_pos (by rw [name_fl]; exact decide_eq_true rfl)]
  show (decide ((ag.length : Int) = 1) && !ag.any (fun n => !placeIf n 10 true)) = true
  rw [hargs, hlen]; rfl
 ·rw [h] at hlen ⊢
  rw [List.find?_cons_of_neg (by rw [name_fl]; exact fun e => n2 (of_decide_eq_true e)), List.find?_cons_of_neg (by rw [name_fl]; exact fun e => n3 (of_decide_eq_true e)), List.find?_cons_of_pos (by rw [name_fl]; exact decide_eq_true rfl)]
  show (decide ((ag.length : Int) = 2) && !ag.any (fun n => !placeIf n 10 true)) = true
  rw [hargs, hlen]; rfl
theorem arr_fit (raw : List LBlock) (n : Int) : (fitU raw).arrays.any (fun a => decide (a.1 = arrName n)) = true := by
 show ([(sA, 4), (sB, 10)] : List (ByteArray × Int)).any (fun a => decide (a.1 = arrName n)) = true
 unfold arrName
 by_cases h : n = 0 <;> simp [h]
theorem place_in {n top : Int} (h : 0 ≤ n ∧ n < top) : placeIf n top true = true := by unfold placeIf; rw [if_pos rfl]; exact decide_eq_true h
theorem ins_fit (raw : List LBlock) (x : LIns) : insOk (fitU raw) 10 (fitIns x) = true := by
 rw [fitIns_K]
 have hk := fitIns_kind x
 rw [fitIns_K] at hk
 replace hk : 1 ≤ 1 + pk x.kind 9 ∧ 1 + pk x.kind 9 ≤ 9 := hk
 generalize 1 + pk x.kind 9 = k at *
 have hd := place_in (pk_small x.d)
 have ha := place_in (pk_small x.a)
 have hb := place_in (pk_small x.b)
 have hc := call_fit raw x
 have hr := arr_fit raw (pk x.n 2)
 have h3 := pk_lo x.op 3 (by omega)
 have h4 := pk_hi x.op 3 (by omega)
 have h5 := pk_lo x.op 16 (by omega)
 have h6 := pk_hi x.op 16 (by omega)
 have ho : opOk 3 (17 + pk x.op 3) = true := by unfold opOk; rw [if_pos rfl]; exact decide_eq_true (by omega)
 have ht : opOk 4 (1 + pk x.op 16) = true := by unfold opOk; rw [if_neg (by decide), if_pos rfl]; exact decide_eq_true (by omega)
 obtain ⟨h1, h2⟩ := hk
 rcases kind_cases k with (rfl | rfl | rfl | rfl | rfl | rfl | rfl | rfl | rfl) | h
 ·unfold insOk
  show ((((((true && placeIf (pk x.d 10) 10 true) && placeIf 0 10 false) && placeIf 0 10 false) && true) && true) && true) = true
  rw [hd]; rfl
 ·show ((((((true && placeIf (pk x.d 10) 10 true) && placeIf (pk x.a 10) 10 true) && placeIf 0 10 false) && true) && true) && true) = true
  rw [hd, ha]; rfl
 ·show ((((((true && placeIf (pk x.d 10) 10 true) && placeIf (pk x.a 10) 10 true) && placeIf 0 10 false) && opOk 3 (17 + pk x.op 3)) && true) && true) = true
  rw [hd, ha, ho]; rfl
 ·show ((((((true && placeIf (pk x.d 10) 10 true) && placeIf (pk x.a 10) 10 true) && placeIf (pk x.b 10) 10 true) && opOk 4 (1 + pk x.op 16)) && true) && true) = true
  rw [hd, ha, hb, ht]; rfl
 ·show ((((((true && placeIf (pk x.d 10) 10 true) && placeIf (pk x.a 10) 10 true) && placeIf 0 10 false) && true) && true) && (true && (fitU raw).arrays.any (fun a => decide (a.1 = arrName (pk x.n 2))))) = true
  rw [hd, ha, hr]; rfl
 ·show ((((((true && placeIf 0 10 false) && placeIf (pk x.a 10) 10 true) && placeIf (pk x.b 10) 10 true) && true) && true) && (true && (fitU raw).arrays.any (fun a => decide (a.1 = arrName (pk x.n 2))))) = true
  rw [ha, hb, hr]; rfl
 ·show ((((((true && placeIf (pk x.d 10) 10 true) && placeIf 0 10 false) && placeIf 0 10 false) && true) && true) && true) = true
  rw [hd]; rfl
 ·show ((((((true && placeIf 0 10 false) && placeIf (pk x.a 10) 10 true) && placeIf 0 10 false) && true) && true) && true) = true
  rw [ha]; rfl
 ·show ((((((true && placeIf (pk x.d 10) 10 true) && placeIf 0 10 false) && placeIf 0 10 false) && true) && true) && callOk (fitU raw) 10 (fnName (pk x.n 3)) ((List.range (pk x.n 3).toNat).map (fitArg x))) = true
  rw [hd, hc]; rfl
 ·omega
theorem term_fit (t : LTerm) (n : Nat) (hn : 0 < n) : termOk n 10 (fitTerm t n) = true := by
 have ha := fitTerm_a t n
 have hto := fitTerm_to t n (by omega)
 have hel := fitTerm_els t n (by omega)
 have hk := fitTerm_kind t n
 have h1 : (fitTerm t n).kind = 1 → (fitTerm t n).a = 0 := fun h => if_pos h
 have h2 : ¬ (fitTerm t n).kind ≤ 2 → (fitTerm t n).to = 0 := fun h => if_neg h
 have h3 : (fitTerm t n).kind ≠ 2 → (fitTerm t n).els = 0 := fun h => if_neg h
 generalize fitTerm t n = u at *
 obtain ⟨k, a, tt, els⟩ := u
 replace hk : 1 ≤ k ∧ k ≤ 4 := hk
 replace ha : 0 ≤ a ∧ a < 10 := ha
 replace hto : 0 ≤ tt ∧ tt < (n : Int) := hto
 replace hel : 0 ≤ els ∧ els < (n : Int) := hel
 replace h1 : k = 1 → a = 0 := h1
 replace h2 : ¬ k ≤ 2 → tt = 0 := h2
 replace h3 : k ≠ 2 → els = 0 := h3
 show (decide (1 ≤ k ∧ k ≤ 4) && placeIf a 10 (decide (k ≠ 1)) && placeIf tt n (decide (k = 1 ∨ k = 2)) && placeIf els n (decide (k = 2))) = true
 unfold placeIf
 rcases (by omega : k = 1 ∨ k = 2 ∨ k = 3 ∨ k = 4) with rfl | rfl | rfl | rfl <;> simp at h1 h2 h3 ⊢ <;> omega
theorem block_fit (raw : List LBlock) (k : Nat) (b : LBlock) (hb : b ∈ (fitFl raw k).blocks) : blockBad (fitU raw) (fitFl raw k) b = false := by
 obtain ⟨y, _, rfl⟩ := List.mem_map.1 hb
 have h1 : termOk (fitFl raw k).blocks.length 10 (fitBlock y (orOne (picks raw k 8)).length).term = true := by
  rw [fit_len]; exact term_fit y.term _ (orOne_pos _)
 have h2 : (fitBlock y (orOne (picks raw k 8)).length).ins.any (fun x => !insOk (fitU raw) 10 x) = false := by
  rw [List.any_eq_false]
  intro x hx
  obtain ⟨z, _, rfl⟩ := List.mem_map.1 hx
  rw [ins_fit]; decide
 unfold blockBad
 show (!termOk (fitFl raw k).blocks.length 10 (fitBlock y (orOne (picks raw k 8)).length).term || (fitBlock y (orOne (picks raw k 8)).length).ins.any (fun x => !insOk (fitU raw) 10 x)) = false
 rw [h1, h2]; rfl
theorem flowBad_fit (raw : List LBlock) (k : Nat) (hk : k < 3) : flowBad (fitFl raw k) = false := by
 have h1 := fit_pos raw k
 have h2 := fit_le raw k
 have h3 := insCount_le (l := (fitFl raw k).blocks) (fun b hb => by have := fit_ins raw k b hb; omega)
 unfold flowBad
 refine decide_eq_false ?_
 show ¬ ((k : Int) < 0 ∨ (k : Int) > 6 ∨ (10 : Int) < (k : Int) ∨ (10 : Int) > 50000 ∨ (fitFl raw k).blocks.length = 0 ∨ (fitFl raw k).blocks.length > 20000 ∨ insCount (fitFl raw k).blocks > 200000)
 omega
theorem mem_fit {raw : List LBlock} {f : LFlow} (h : f ∈ (fitU raw).flows) : ∃ k, k < 3 ∧ f = fitFl raw k := by
 obtain ⟨k, hk, rfl⟩ := List.mem_map.1 h
 exact ⟨k, List.mem_range.1 hk, rfl⟩
theorem unit_fit (raw : List LBlock) : UnitOk (fitU raw) where
 sizes := by intro a ha; have ha' : a ∈ ([(sA, 4), (sB, 10)] : List (ByteArray × Int)) := ha; simp at ha'; rcases ha' with rfl | rfl <;> simp
 arrs := by show 2 ≤ 500; omega
 fls := by show 3 ≤ 500; omega
 good := by rw [fitU_names]; intro s hs; unfold NameG; simp at hs; rcases hs with h | h | h | h | h <;> simp [h]
 nodup := by rw [fitU_names]; decide
 main := ⟨0, by show 0 < 3; omega, by unfold placeU findI; rw [fitU_flows]; simp [name_fl, List.findIdx_cons]; rfl, by show (0 : Int) ≤ 0; omega⟩
 nums := fun f hf => by obtain ⟨k, hk, rfl⟩ := mem_fit hf; exact flowBad_fit raw k hk
 lens := fun f hf b hb => by obtain ⟨k, hk, rfl⟩ := mem_fit hf; have := fit_ins raw k b hb; omega
 blocks := fun f hf => by obtain ⟨k, hk, rfl⟩ := mem_fit hf; rw [List.any_eq_false]; intro b hb; rw [block_fit raw k b hb]; decide
end Go.Proofs.YtkpigkopjfkepaaGreatDoor
