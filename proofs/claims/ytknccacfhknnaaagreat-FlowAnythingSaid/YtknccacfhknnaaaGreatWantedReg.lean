/- The region at the end of a round of flow.wanted: 'again = out[i].add(s.rising()...) || again'. -/
import Derived.Test.YtknccacfhknnaaaGreatWantedPlain
import Derived.Laws.EntriesVeiled
namespace Go.Proofs.YtknccacfhknnaaaGreat
open Go.RowKit Go.Shelf Go.Maps
attribute [local go_sem] Oper.semAt_some

/-- region k of a code -/
def regOf (k : Nat) : Code → Option Code
  | .region i ops d => if i = k then some (.region i ops d) else none
  | .seq a b => (regOf k a).or (regOf k b)
  | .cond _ a b => (regOf k a).or (regOf k b)
  | .block _ b => regOf k b
  | .loop b => regOf k b
  | .rangeFunc _ _ a b => (regOf k a).or (regOf k b)
  | .scope b => regOf k b
  | _ => none

theorem add_to (b : Nat) {S Sx : Int → Bool} (l : List Int) (hl : ∀ k ∈ l, placeP k = true) (hSx : addS S l = Sx) (v : Value) (w : World) (hS : MSet w b S) (hv : SlR w (fun x => x < w.heap.size ∧ x ≠ b) 1 RInt v l) :
    Calls Tryz.prog 54 #[.map (some b), v] w fun e w' => e = .returned (.bool (decide (cnt S < cnt Sx))) ∧ w.grownBy w' (some b) ∧ MSet w' b Sx := by
  subst hSx
  exact add_any b S l hl v w hS hv

/-- what the region leaves -/
def RegPost (bx ab : Nat) (Sx : Int → Bool) (v : Bool) (Y : World) (e : Exit) (_ : Act) (Z : World) : Prop :=
  e = .normal ∧ ∃ w5 w6, Below Y.heap.size Y w5 ∧ w5.grownBy w6 (some bx) ∧ MSet w6 bx Sx ∧ Z = w6.setCell ⟨ab, 0, none⟩ (.bool v)

set_option maxRecDepth 100000 in
set_option maxHeartbeats 2000000 in
theorem reg17 (c : Code) (hc : (Tryz.f27.body.bind (regOf 17)) = some c) (l : Nat) (x ob g n bx sb sg ab : Nat) (ag : Bool) (S T Sx : Int → Bool) (Y : World) (a : Act) (u0 u1 u2 u4 u7 u9 u10 u11 u12 u13 u14 u15 u16 u17 u18 u19 u20 u21 u22 u23 u24 u25 u26 u27 u28 u29 u30 u31 u32 u33 u34 u35 u36 u37 u38 u39 u40 u41 u42 u43 u44 u45 u46 u47 u48 u49 u50 u51 u52 u53 : Value)
    (ha : a = { tmps := #[u0, u1, u2, .pointer (some ⟨ob, 0, none⟩), u4, .pointer (some ⟨ab, 0, none⟩), .int .i64 (x : Int), u7, .pointer (some ⟨sb, 0, none⟩), u9, u10, u11, u12, u13, u14, u15, u16, u17, u18, u19, u20, u21, u22, u23, u24, u25, u26, u27, u28, u29, u30, u31, u32, u33, u34, u35, u36, u37, u38, u39, u40, u41, u42, u43, u44, u45, u46, u47, u48, u49, u50, u51, u52, u53], defers := [] })
    (hS : MSet Y sg T) (hSx : addS S (riseL T) = Sx) (hm : MSet Y bx S) (hbx : Blk Y ab 4 #[.bool ag]) (hne : bx ≠ ab)
    (o0 : Y.cell? ⟨ob, 0, none⟩ = some (.slice (some ⟨g, 0, none⟩) n n)) (r0 : Y.cell? ⟨g, x, none⟩ = some (.map (some bx))) (s0 : Y.cell? ⟨sb, 0, none⟩ = some (.map (some sg))) (hx : x < n) :
    c.wpIn (Fence.wide.inRound l) 7 Tryz.prog (RegPost bx ab Sx (decide (cnt S < cnt Sx) || ag) Y) a Y := by
  have hob : ob < Y.heap.size := World.block_lt_of_cell? Y _ o0
  have hg : g < Y.heap.size := World.block_lt_of_cell? Y _ r0
  have hbxl := hm.lt
  have habl := hbx.lt
  have a0 : Y.cell? ⟨ab, 0, none⟩ = some (.bool ag) := hbx.cell 0
  have az : Y.frozen? ⟨ab, 0, none⟩ = false := hbx.frozen 0
  have hxi : ((x : Nat) : Int) < (n : Int) := by omega
  have hplace : ∀ k ∈ riseL T, placeP k = true := fun k hk => (mem_riseL.1 hk).1
  have HR1 := Lib.hid (rising_any sg _ Y.drew (hS.same rfl))
  have HPL := Lib.hid hplace
  have HSX := Lib.hid hSx
  have HM := Lib.hid hm
  have HB := Lib.hid hbx
  have hf29 : Fence.wide.fn 28 := trivial
  have hf50 : Fence.wide.fn 54 := trivial
  have hcc : Tryz.f27.body.bind (regOf 17) = some c := hc
  simp only [Tryz.f27, regOf, Option.bind_some, Nat.reduceEqDiff, ↓reduceIte, Option.none_or, Option.or_none, Option.some.injEq] at hcc
  subst ha
  subst hcc
  clear hc hplace hSx hm hbx hS
  by_cases hnew : cnt S < cnt Sx
  · have dn : decide (cnt S < cnt Sx) = true := decide_eq_true hnew
    rw [dn, Bool.true_or]
    clear hnew
    have hmx : Tryz.prog.follows .mixedOrders = true := by kernel_rfl
    gi_region_with_o (first | (gi_at_call 28; refine (CallsIn.inRound l (callsIn_wide.2 HR1.out)).mono ?_; rintro e w5 ⟨v5, rfl, hb5', hs5⟩; obtain ⟨A5, c5, hv5, _, _⟩ := hs5.val; subst hv5; have hb5 := below_undrew hb5'; have o5 := (hb5.cell (p := ⟨ob, 0, none⟩) hob).trans o0; have r5 := (hb5.cell (p := ⟨g, x, none⟩) hg).trans r0; have bx5 := HB.out.below hb5 HB.out.lt; have a5 : w5.cell? ⟨ab, 0, none⟩ = some (.bool ag) := bx5.cell 0; have HA := Lib.hid (add_to bx _ HPL.out HSX.out _ w5 (HM.out.kept (grown_of_below (row := none) hb5) (by simp)) (hs5.imp (fun b hb => ⟨hb.2, by have h0 : Y.heap.size ≤ b := hb.1; omega⟩) (Keeps.refl _ _) (fun _ _ _ h => h))); have HB5 := Lib.hid hb5; have HX5 := Lib.hid bx5; clear hb5' hb5 bx5 hs5) | (gi_at_call 54; refine (CallsIn.inRound l (callsIn_wide.2 HA.out)).mono ?_; rintro e w6 ⟨rfl, hg6, hm6⟩; have bx6 := HX5.out.grown hg6 (fun e => by injection e with e; omega); have a6 : w6.cell? ⟨ab, 0, none⟩ = some (.bool ag) := bx6.cell 0; have az6 : w6.frozen? ⟨ab, 0, none⟩ = false := bx6.frozen 0; have HG6 := Lib.hid hg6; have HM6 := Lib.hid hm6; clear hg6 hm6 bx6))
    all_goals exact ⟨rfl, _, _, HB5.out, HG6.out, HM6.out, rfl⟩
  · have dn : decide (cnt S < cnt Sx) = false := decide_eq_false hnew
    rw [dn, Bool.false_or]
    clear hnew
    have hmx : Tryz.prog.follows .mixedOrders = true := by kernel_rfl
    gi_region_with_o (first | (gi_at_call 28; refine (CallsIn.inRound l (callsIn_wide.2 HR1.out)).mono ?_; rintro e w5 ⟨v5, rfl, hb5', hs5⟩; obtain ⟨A5, c5, hv5, _, _⟩ := hs5.val; subst hv5; have hb5 := below_undrew hb5'; have o5 := (hb5.cell (p := ⟨ob, 0, none⟩) hob).trans o0; have r5 := (hb5.cell (p := ⟨g, x, none⟩) hg).trans r0; have bx5 := HB.out.below hb5 HB.out.lt; have a5 : w5.cell? ⟨ab, 0, none⟩ = some (.bool ag) := bx5.cell 0; have HA := Lib.hid (add_to bx _ HPL.out HSX.out _ w5 (HM.out.kept (grown_of_below (row := none) hb5) (by simp)) (hs5.imp (fun b hb => ⟨hb.2, by have h0 : Y.heap.size ≤ b := hb.1; omega⟩) (Keeps.refl _ _) (fun _ _ _ h => h))); have HB5 := Lib.hid hb5; have HX5 := Lib.hid bx5; clear hb5' hb5 bx5 hs5) | (gi_at_call 54; refine (CallsIn.inRound l (callsIn_wide.2 HA.out)).mono ?_; rintro e w6 ⟨rfl, hg6, hm6⟩; have bx6 := HX5.out.grown hg6 (fun e => by injection e with e; omega); have a6 : w6.cell? ⟨ab, 0, none⟩ = some (.bool ag) := bx6.cell 0; have az6 : w6.frozen? ⟨ab, 0, none⟩ = false := bx6.frozen 0; have HG6 := Lib.hid hg6; have HM6 := Lib.hid hm6; clear hg6 hm6 bx6))
    all_goals exact ⟨rfl, _, _, HB5.out, HG6.out, HM6.out, rfl⟩
end Go.Proofs.YtknccacfhknnaaaGreat
