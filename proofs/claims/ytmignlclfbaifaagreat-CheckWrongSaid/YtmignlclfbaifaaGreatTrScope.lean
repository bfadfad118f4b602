/- The generator's scope: what there is in memory; name and array, where the scope is not free. Printed by wip/gen_trscope.py. -/
import Derived.Test.YtmignlclfbaifaaGreatTrSrc
namespace Go.Proofs.YtmignlclfbaifaaGreat
open Go.RowKit

/-- a row of the scope: arrays by their names, functions by their names and how many params -/
def RArrN (cs : List Value) (x : ByteArray) : Prop := ∃ sz : Int, cs = [.string x, .int .i64 sz]
def RFunN (cs : List Value) (x : ByteArray × Nat) : Prop := ∃ (Ap : Option Addr) (cp : Nat), cs = [.string x.1, .slice Ap x.2 cp, .slice none 0 0, .slice none 0 0]
/-- what there is may be -/
structure ScOk (c : Scp) : Prop where
  vars : ∀ x ∈ c.vars, nameB x = true
  arrs : ∀ x ∈ c.arrs, nameB x = true
  funs : ∀ x ∈ c.funs, nameB x.1 = true ∧ x.2 ≤ 6
  lv : c.vars.length ≤ 400
  la : c.arrs.length ≤ 400
  lf : c.funs.length ≤ 400
/-- where it lies: not in the source's block -/
structure ScAt (w : World) (sb : Nat) (c : Scp) (Av Aa Af : Option Addr) (cv ca cf : Nat) : Prop where
  vars : SlR w (fun b => b < w.heap.size ∧ b ≠ sb) 1 RStr (.slice Av c.vars.length cv) c.vars
  arrs : SlR w (fun b => b < w.heap.size ∧ b ≠ sb) 2 RArrN (.slice Aa c.arrs.length ca) c.arrs
  funs : SlR w (fun b => b < w.heap.size ∧ b ≠ sb) 4 RFunN (.slice Af c.funs.length cf) c.funs
theorem ScAt.grown {w w' : World} {sb : Nat} {c : Scp} {Av Aa Af : Option Addr} {cv ca cf : Nat} (h : ScAt w sb c Av Aa Af cv ca cf) (hg : w.grownBy w' (some sb)) : ScAt w' sb c Av Aa Af cv ca cf :=
  have up : ∀ b, (b < w.heap.size ∧ b ≠ sb) → (b < w'.heap.size ∧ b ≠ sb) := fun _ h => ⟨Nat.lt_of_lt_of_le h.1 hg.size, h.2⟩
  have kp : Keeps (fun b => b < w.heap.size ∧ b ≠ sb) w w' := fun b h => hg.block b h.1 (fun e => h.2 (Option.some.inj e))
  ⟨h.vars.imp up kp fun _ _ _ r => r, h.arrs.imp up kp fun _ _ _ r => r, h.funs.imp up kp fun _ _ _ r => r⟩
theorem ScAt.below {w w' : World} {sb : Nat} {c : Scp} {Av Aa Af : Option Addr} {cv ca cf : Nat} (h : ScAt w sb c Av Aa Af cv ca cf) (hb : Below w.heap.size w w') : ScAt w' sb c Av Aa Af cv ca cf := h.grown (grown_below' hb)
theorem SrcAt.next_ {w w' : World} {sb : Nat} (h : SrcAt w sb) (hb : Below w.heap.size w w') : SrcAt w' sb := h.below hb
/-- a store into a block of the call's own -/
theorem grown_own {w X : World} {sb : Nat} (h : w.grownBy X (some sb)) (g : Nat) (hg : w.heap.size ≤ g) (o : Nat) (v : Value) : w.grownBy (X.setCell ⟨g, o, none⟩ v) (some sb) :=
  ⟨h.os, h.tape, h.output, by simpa [World.setCell] using h.size, fun k hk hne => (Below.heap_setCell X ⟨g, o, none⟩ v k (by show k ≠ g; omega)).trans (h.block k hk hne)⟩
section
set_option maxHeartbeats 4000000
variable {w : World} {sb : Nat} {c : Scp} {Av Aa Af : Option Addr} {cv ca cf : Nat}
theorem gname_any (hs : SrcAt w sb) (l : List ByteArray) (Al : Option Addr) (cl : Nat) (hl : SlR w (fun b => b < w.heap.size ∧ b ≠ sb) 1 RStr (.slice Al l.length cl) l) (hn : 0 < l.length) (v1 v2 v3 v4 : Value) :
    Calls Tryz.prog 40 #[.agg #[v1, v2, v3, .bool false, v4], .pointer (some ⟨sb, 0, none⟩), .slice Al l.length cl] w fun e w' => (∃ s, s ∈ l ∧ e = .returned (.string s)) ∧ SrcAt w' sb ∧ w.grownBy w' (some sb) := by
  obtain ⟨b, off, c', hform, _, hlm, hbl, hel⟩ := hl.form hn
  obtain ⟨rfl, rfl⟩ : Al = some ⟨b, off, none⟩ ∧ cl = c' := by injection hform with h1 _ h2; exact ⟨h1, h2⟩
  have HEL : Hid (∀ (k : Nat) (hk : k < l.length) (X : World), w.grownBy X (some sb) → X.cell? ⟨b, off + k, none⟩ = some (.string l[k])) := Lib.hid (fun k hk X hX => by
    obtain ⟨cs, _, hcs, hcell⟩ := hel k hk
    obtain rfl : cs = [.string l[k]] := hcs
    have h := (hcell.keep (hX.block b hbl.1 (fun e => hbl.2 (Option.some.inj e)))).at_ (j := 0) rfl
    simpa using h)
  have HSRC := Lib.hid hs
  have hlen := hl.len_le
  unfold maxLen at hlen
  clear hl hel hform hs hbl
  have dn : ((l.length : Int) == 0) = false := by rw [beq_dec]; exact decide_eq_false (by omega)
  have BA : Hid (∀ o, Below w.heap.size w (w.alloc o)) := Lib.hid (fun o => below1 w o)
  go_enter Tryz.func40, Tryz.ntmps40
  go_wp2_with (go_at_call 21; refine (next_any _ sb l.length hn (HSRC.out.below (BA.out _))).mono ?_; rintro e w1 ⟨⟨k, hk, rfl⟩, hs1, hg1⟩; have HG1 : Hid (w.grownBy w1 (some sb)) := Lib.hid ((grown_below' (row := some sb) (BA.out _)).trans hg1); have ck := HEL.out k hk w1 HG1.out; have HS1 := Lib.hid hs1; obtain ⟨nm, hnm⟩ : ∃ nm, nm = l[k] := ⟨_, rfl⟩; rw [← hnm] at ck; have HNM := Lib.hid hnm; clear hs1 hg1 hnm)
  go_ret
  exact ⟨⟨nm, by rw [HNM.out]; exact List.getElem_mem _, rfl⟩, HS1.out, HG1.out⟩
theorem garray_any (hs : SrcAt w sb) (hc : ScAt w sb c Av Aa Af cv ca cf) (hn : 0 < c.arrs.length) (v1 v3 v4 : Value) :
    Calls Tryz.prog 25 #[.agg #[v1, .slice Aa c.arrs.length ca, v3, .bool false, v4], .pointer (some ⟨sb, 0, none⟩)] w fun e w' => (∃ s sz, s ∈ c.arrs ∧ e = .returned (.agg #[.string s, .int .i64 sz])) ∧ SrcAt w' sb ∧ w.grownBy w' (some sb) := by
  obtain ⟨b, off, c', hform, _, hlm, hbl, hel⟩ := hc.arrs.form hn
  obtain ⟨rfl, rfl⟩ : Aa = some ⟨b, off, none⟩ ∧ ca = c' := by injection hform with h1 _ h2; exact ⟨h1, h2⟩
  have hlen := hc.arrs.len_le
  unfold maxLen at hlen
  have dn : ((c.arrs.length : Int) == 0) = false := by rw [beq_dec]; exact decide_eq_false (by omega)
  have HW0 := Lib.hid (fun (X : World) (hX : w.grownBy X (some sb)) (k : Nat) (hk : k < c.arrs.length) => (show ∃ sz, X.cell? ⟨b, off + k * 2, none⟩ = some (.string c.arrs[k]) ∧ X.cell? ⟨b, off + k * 2 + 1, none⟩ = some (.int .i64 sz) from by
    obtain ⟨cs, _, ⟨sz, rfl⟩, hcell⟩ := hel k hk
    have hk2 := hcell.keep (hX.block b hbl.1 (fun e => hbl.2 (Option.some.inj e)))
    exact ⟨sz, by have h := hk2.at_ (j := 0) rfl; simpa using h, by have h := hk2.at_ (j := 1) rfl; simpa using h⟩))
  have HSS := Lib.hid hs
  have hsl := hs.lt
  clear hel hform hs hc hbl
  go_enter Tryz.func25, Tryz.ntmps25
  go_upto_region 3 with fail
  refine wp_world ?_
  intro W hW
  have hB : Below w.heap.size w W := by rw [← hW]; exact below2 _ _ _
  have hG : Blk W w.heap.size 61 #[v1, .slice (some ⟨b, off, none⟩) c.arrs.length ca, v3, .bool false, v4] := by rw [← hW]; exact (Blk.new _ _ _).alloc _
  have hR : Blk W (w.heap.size + 1) 53 #[.string ⟨#[]⟩, .int .i64 0] := by rw [← hW]; exact Blk.new_at _ _ _ (by simp)
  have HEL : Hid (∀ (k : Nat) (hk : k < c.arrs.length) (X : World), W.grownBy X (some sb) → ∃ sz, X.cell? ⟨b, off + k * 2, none⟩ = some (.string c.arrs[k]) ∧ X.cell? ⟨b, off + k * 2 + 1, none⟩ = some (.int .i64 sz)) := Lib.hid (fun k hk X hX => HW0.out X ((grown_below' (row := some sb) hB).trans hX) k hk)
  have HRES : Hid (∀ X, W.grownBy X (some sb) → Blk X (w.heap.size + 1) 53 #[.string ⟨#[]⟩, .int .i64 0]) := Lib.hid (fun X hX => hR.grown hX (fun e => by have := Option.some.inj e; omega))
  have SO : Hid (∀ X, W.grownBy X (some sb) → (fun X => X.cell? ⟨w.heap.size, 1, none⟩ = some (.slice (some ⟨b, off, none⟩) c.arrs.length ca)) X) := Lib.hid (fun X hX => (hG.grown hX (fun e => by have := Option.some.inj e; omega)).cell 1)
  have HSRC : Hid (SrcAt W.drew sb) := Lib.hid ((HSS.out.below hB).below (Below.refl _ _).drew)
  have HG0 : Hid (W.grownBy W.drew (some sb)) := Lib.hid (grown_below' (Below.refl _ _).drew)
  have HB := Lib.hid hB
  clear hW hB hG hR HW0
  refine wp_region_L (by kernel_rfl) 9 (fun X => X.cell? ⟨w.heap.size, 1, none⟩ = some (.slice (some ⟨b, off, none⟩) c.arrs.length ca)) (SO.out _ HG0.out) (fun hHeld => ?_)
  have HS0 := Lib.hid hHeld
  clear hHeld
  change wpAnyL _ _ _ _ _ 9 10 (Array.replicate 10 false) _ _
  obtain ⟨X0, hX0⟩ : ∃ X0, W.drew = X0 := ⟨_, rfl⟩
  rw [hX0] at HG0 HS0 HSRC ⊢
  clear hX0
  refine tj 0 20 (.pointer (some ⟨w.heap.size, 1, none⟩)) HS0.out rfl rfl ?_
  try simp only [sA, sB, sC]
  refine tS 1 21 (.slice (some ⟨b, off, none⟩) c.arrs.length ca) [9] HS0.out rfl rfl ?_ ?_
  · intro w2 hSw; obtain g0 := hSw; go_simp
  try simp only [sA, sB, sC]
  refine tj 2 22 (.pointer (some ⟨sb, 0, none⟩)) HS0.out rfl rfl ?_
  try simp only [sA, sB, sC]
  refine tj 3 23 (.pointer (some ⟨w.heap.size, 1, none⟩)) HS0.out rfl rfl ?_
  try simp only [sA, sB, sC]
  refine tS 4 24 (.slice (some ⟨b, off, none⟩) c.arrs.length ca) [9] HS0.out rfl rfl ?_ ?_
  · intro w2 hSw; obtain g0 := hSw; go_simp
  try simp only [sA, sB, sC]
  refine tj 5 25 (.int .i64 (c.arrs.length : Int)) HS0.out rfl rfl ?_
  try simp only [sA, sB, sC]
  refine wpAnyL_ready (rs := [6]) (by kernel_rfl) (by simp) ?_
  refine AllReadyL.cons rfl (fun K hK => ?_) AllReadyL.nil
  go_simp
  refine (next_any X0 sb c.arrs.length hn HSRC.out).mono ?_
  rintro e X1 ⟨⟨k, hk, rfl⟩, hs1, hg1⟩
  have HG1 : Hid (W.grownBy X1 (some sb)) := Lib.hid (HG0.out.trans hg1)
  have HS1_ := Lib.hid hs1
  obtain ⟨sz, c0, c1⟩ := HEL.out k hk X1 HG1.out
  have r0 : X1.cell? ⟨w.heap.size + 1, 0, none⟩ = some (.string ⟨#[]⟩) := (HRES.out X1 HG1.out).cell 0
  have r1 : X1.cell? ⟨w.heap.size + 1, 1, none⟩ = some (.int .i64 0) := (HRES.out X1 HG1.out).cell 1
  have f0 := (HRES.out X1 HG1.out).frozen 0
  have f1 := (HRES.out X1 HG1.out).frozen 1
  obtain ⟨nm, hnm⟩ : ∃ nm, nm = c.arrs[k] := ⟨_, rfl⟩
  rw [← hnm] at c0
  have HNM := Lib.hid hnm
  clear hg1 hs1 hnm
  refine hK.out _ _ (SO.out _ HG1.out) (fun hHeld => ?_)
  have HS1 := Lib.hid hHeld
  clear hK K hHeld
  try simp only [sA, sB, sC]
  refine tj 7 27 (.pointer (some ⟨b, off + k * 2, none⟩)) HS1.out rfl rfl ?_
  try simp only [sA, sB, sC]
  refine wpAnyL_ready (rs := [8]) (by kernel_rfl) (by simp) ?_
  refine AllReadyL.cons rfl (fun K hK => ?_) AllReadyL.nil
  go_simp
  refine hK.out _ _ (SO.out _ HG1.out) (fun hHeld => ?_)
  have HS2 := Lib.hid hHeld
  clear hK K hHeld
  try simp only [sA, sB, sC]
  refine wpAnyL_ready (rs := [9]) (by kernel_rfl) (by simp) ?_
  refine AllReadyL.last rfl (by kernel_rfl) (fun K hK => ?_)
  go_simp
  refine hK.out _ _ ?_
  clear hK K
  try simp only [sA, sB, sC]
  refine wpAnyL_done (by kernel_rfl) ?_ _
  go_wp2
  refine bodyPost_ret (v := .agg #[.string nm, .int .i64 sz]) (results_cell_row (p := 4) (ty := 53) (by kernel_rfl) _ _ (w.heap.size + 1) 53 _ (0, 0) _ rfl (((HRES.out X1 HG1.out).set_ 0 _).set_ 1 _) Tryz.underlying53 rfl (by kernel_rfl)) rfl ?_
  have hne : sb ≠ w.heap.size + 1 := by omega
  have hB1 : w.grownBy X1 (some sb) := (grown_below' (row := some sb) HB.out).trans HG1.out
  exact ⟨⟨nm, by rw [HNM.out]; exact List.getElem_mem _, sz, rfl⟩, (HS1_.out.grown (grown_set X1 ⟨w.heap.size + 1, 0, none⟩ _) (fun g e => by have e2 : w.heap.size + 1 = g := Option.some.inj e; omega)).grown (grown_set _ ⟨w.heap.size + 1, 1, none⟩ _) (fun g e => by have e2 : w.heap.size + 1 = g := Option.some.inj e; omega), grown_own (grown_own hB1 (w.heap.size + 1) (by omega) 0 _) (w.heap.size + 1) (by omega) 1 _⟩
end
end Go.Proofs.YtmignlclfbaifaaGreat
