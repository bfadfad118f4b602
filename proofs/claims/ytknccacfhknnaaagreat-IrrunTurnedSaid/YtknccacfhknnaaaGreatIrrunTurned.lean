/- Blocks in another order, and values by other numbers, make no difference: the walk of 'IrrunTurnedSaid', with no condition. -/
import Derived.Test.YtknccacfhknnaaaGreatTurned
namespace Go.Proofs.YtknccacfhknnaaaGreat
open Go.RowKit
open Go.Deep

/-- the first i functions, turned -/
structure TurnFl (raw : List LBlock) (b t i : Nat) (fl : List LFlow) : Prop where
  len : fl.length = i
  at_ : ∀ j, j < i → ∃ bs, TurnedL (fitFl raw j).blocks j b t bs ∧ fl[j]? = some (turnF (fitFl raw j) bs)
/-- the world in the loop over the functions -/
structure LT (raw : List LBlock) (b t : Nat) (W4 : World) (va : Value) (i : Nat) (v : Value) (fl : List LFlow) (css : List (List Value)) (wr : World) : Prop where
  below : Below W4.heap.size W4 wr
  vB : Blk wr W4.heap.size 28 #[va, v]
  own : OwnL wr (W4.heap.size + 1) 35 4 RFlow v fl css
  fls : TurnFl raw b t i fl

/-- one function more is turned -/
theorem LT.next {raw : List LBlock} {b t i : Nat} {W4 : World} {va : Value} {v : Value} {fl : List LFlow} {css : List (List Value)} {wr : World} (h : LT raw b t W4 va i v fl css wr) {X1 X2 X3 : World} {bs : List LBlock} {g gp cp n0 : Nat} {f : LFlow} (hf : f = fitFl raw i) (hn0 : wr.heap.size ≤ n0)
    (hT : TurnedL f.blocks i b t bs) (hs1 : SlR X1 (fun b => n0 ≤ b ∧ b < X1.heap.size) 5 (RBlock X1 (fun b => n0 ≤ b ∧ b < X1.heap.size)) (.slice (some ⟨g, 0, none⟩) f.blocks.length f.blocks.length) bs)
    (hx2 : Below wr.heap.size wr X2) (h12 : Below X1.heap.size X1 X2) (hv3 : Blk X3 W4.heap.size 28 #[va, v]) (hg : X2.grownBy X3 v.ownBlock) (hown : X3.ownsRow (W4.heap.size + 1) 35 4 (.slice (some ⟨gp, 0, none⟩) (i + 1) cp) (i + 1) (css.flatten ++ [.string f.name, .int .i64 f.params, .int .i64 f.values, .slice (some ⟨g, 0, none⟩) f.blocks.length f.blocks.length])) (hat : v.ownBlock = some gp ∨ X2.heap.size ≤ gp) :
    LT raw b t W4 va (i + 1) (.slice (some ⟨gp, 0, none⟩) (i + 1) cp) (fl ++ [turnF f bs]) (css ++ [[.string f.name, .int .i64 f.params, .int .i64 f.values, .slice (some ⟨g, 0, none⟩) f.blocks.length f.blocks.length]]) (X3.setCell ⟨W4.heap.size, 1, none⟩ (.slice (some ⟨gp, 0, none⟩) (i + 1) cp)) := by
  have hbase : ∀ k, v.ownBlock = some k → W4.heap.size + 1 ≤ k ∧ k < wr.heap.size := h.own.lt
  have hW : W4.heap.size < wr.heap.size := h.vB.lt
  have hlen := h.fls.len
  have hk : Keeps (fun k => W4.heap.size + 1 ≤ k ∧ k < wr.heap.size) wr X2 := fun k hk => hx2.block k hk.2
  have hsub : ∀ k, n0 ≤ k ∧ k < X1.heap.size → W4.heap.size + 1 ≤ k ∧ k < X2.heap.size ∧ v.ownBlock ≠ some k := fun k hk => ⟨by omega, by have := h12.size; omega, fun e => by have := (hbase k e).2; omega⟩
  have hkk : Keeps (fun k => n0 ≤ k ∧ k < X1.heap.size) X1 X2 := fun k hk => h12.block k hk.2
  have hsn := OwnL.snoc (x := turnF f bs) (cs := [.string f.name, .int .i64 f.params, .int .i64 f.values, .slice (some ⟨g, 0, none⟩) f.blocks.length f.blocks.length]) mono_flow h.own hk hx2.size rfl (by rw [hlen]; exact hown) hg hat ⟨_, rfl, hs1.imp hsub hkk (fun _ _ _ r => r.imp hsub hkk)⟩
  rw [hlen] at hsn
  have hB : Below W4.heap.size W4 X3 := (h.below.trans (hx2.mono h.below.size)).grown hg (by have := hx2.size; omega) (fun k e => by have := (hbase k e).1; omega)
  refine ⟨hB.setCell (Nat.le_refl _) _, hv3.set_ 1 _, hsn.keep mono_flow (snoc_put (by simp) _) (by simp [World.setCell]), ?_, ?_⟩
  · rw [List.length_append, hlen]; rfl
  · intro j hj
    by_cases hji : j < i
    · obtain ⟨bs', h1, h2⟩ := h.fls.at_ j hji
      exact ⟨bs', h1, by rw [List.getElem?_append_left (by rw [hlen]; exact hji)]; exact h2⟩
    · obtain rfl : j = i := by omega
      subst hf
      exact ⟨bs, hT, by rw [List.getElem?_append_right (by rw [hlen]; exact Nat.le_refl _), hlen, Nat.sub_self]; rfl⟩

/-- the three functions, turned -/
theorem TurnFl.three {raw : List LBlock} {b t : Nat} {fl : List LFlow} (h : TurnFl raw b t 3 fl) : ∃ bs0 bs1 bs2, TurnedL (fitFl raw 0).blocks 0 b t bs0 ∧ TurnedL (fitFl raw 1).blocks 1 b t bs1 ∧ TurnedL (fitFl raw 2).blocks 2 b t bs2 ∧ fl = [turnF (fitFl raw 0) bs0, turnF (fitFl raw 1) bs1, turnF (fitFl raw 2) bs2] := by
  obtain ⟨bs0, h0, e0⟩ := h.at_ 0 (by omega)
  obtain ⟨bs1, h1, e1⟩ := h.at_ 1 (by omega)
  obtain ⟨bs2, h2, e2⟩ := h.at_ 2 (by omega)
  refine ⟨bs0, bs1, bs2, h0, h1, h2, ?_⟩
  obtain ⟨l, e⟩ : ∃ l, l = fl := ⟨_, rfl⟩
  have hlen := h.len
  match fl, hlen with
  | [a, b', c], _ =>
    simp at e0 e1 e2
    rw [e0, e1, e2]

set_option maxRecDepth 100000 in
set_option maxHeartbeats 16000000 in
theorem irrunTurned_walk (vr vin : Value) (by_ turn steps : Int) (raw : List LBlock) (hI : ∀ x ∈ raw, x.I) (inp : List Int) (_hlen : (inp.length + 0) * 8 ≤ 140737488355328) (w : World) (hsl : SlR w (· < w.heap.size) 5 (RBlock w (· < w.heap.size)) vr raw) (hin : SlR w (· < w.heap.size) 1 RInt vin inp) (wb : (Lit.int .i64 by_).wf = true) (wt : (Lit.int .i64 turn).wf = true) (ws : (Lit.int .i64 steps).wf = true) :
    Calls Tryz.prog 3 #[vr, vin, .int .i64 by_, .int .i64 turn, .int .i64 steps] w fun e w' => e = .returned (.bool true) ∧ Below w.heap.size w w' := by
  obtain ⟨Ai, ci, hvi, hil, hic⟩ := hin.val
  subst hvi
  obtain ⟨io, io'⟩ := i64_of_wf wb
  obtain ⟨ko, ko'⟩ := i64_of_wf wt
  obtain ⟨jo, jo'⟩ := i64_of_wf ws
  have HAW := Lib.hid (awake11_any w)
  have HFIT := Lib.hid (fun (X : World) (hb : Below w.heap.size w X) => fit_any raw hI vr X (hsl.imp (fun _ h => Nat.lt_of_lt_of_le h hb.size) (fun b h => hb.block b h) (fun _ _ _ r => r.imp (fun _ h => Nat.lt_of_lt_of_le h hb.size) (fun b h => hb.block b h))))
  have HPS := Lib.hid (fun w2 => pick11_any steps 301 jo jo' (by omega) w2)
  have HPB := Lib.hid (fun w2 => pick11_any by_ 8 io io' (by omega) w2)
  have HPT := Lib.hid (fun w2 => pick11_any turn 8 ko ko' (by omega) w2)
  have p0 := pk_lo steps 301 (by omega)
  have p1 := pk_hi steps 301 (by omega)
  have b0 := pk_lo by_ 8 (by omega)
  have b1 := pk_hi by_ 8 (by omega)
  have t0 := pk_lo turn 8 (by omega)
  have t1 := pk_hi turn 8 (by omega)
  generalize pk steps 301 = nn at *
  generalize pk by_ 8 = bb at *
  generalize pk turn 8 = tt at *
  obtain ⟨n, rfl⟩ := Int.eq_ofNat_of_zero_le p0
  obtain ⟨b, rfl⟩ := Int.eq_ofNat_of_zero_le b0
  obtain ⟨tn, rfl⟩ := Int.eq_ofNat_of_zero_le t0
  have hn : n ≤ 300 := by omega
  have hb8 : b < 8 := by omega
  have ht8 : tn < 8 := by omega
  have HIN := Lib.hid hin
  clear p0 p1 b0 b1 t0 t1 hsl hin hI
  go_enter Tryz.func3, Tryz.ntmps3
  go_upto_region 3 with (first | (go_at_call 6; refine HAW.out.mono ?_; rintro e w2 ⟨rfl, hb2⟩) | (go_at_call 7; refine (HFIT.out _ hb2).mono ?_; rintro e w3 ⟨va, vf, css, rfl, hb3, hsa, hof⟩; obtain ⟨A1, c1, hva, _, _⟩ := hsa.val; obtain ⟨gf, cf, hvf⟩ := own_three hof; subst hva hvf))
  refine wp_world ?_
  intro W hW
  have hB : Below w.heap.size w W := by
    have h := hb2.trans (hb3.mono hb2.size)
    rw [← hW]; exact h.alloc h.size _
  have hU : Blk W w3.heap.size 28 #[.slice A1 (fitU raw).arrays.length c1, .slice (some ⟨gf, 0, none⟩) 3 cf] := by rw [← hW]; exact Blk.new w3 _ _
  have hA : SlR W (· < W.heap.size) 2 RArr (.slice A1 (fitU raw).arrays.length c1) (fitU raw).arrays := by rw [← hW]; exact hsa.imp (fun b hb => by have hb' := hb.2; simp; omega) (fun b hb => Below.heap_alloc w3 _ b hb.2) (fun _ _ _ r => r)
  have hO : OwnL W (w2.heap.size + 4) 35 4 RFlow (.slice (some ⟨gf, 0, none⟩) 3 cf) (fitFlows raw 3) css := by rw [← hW]; exact hof.below mono_flow (below1 _ _)
  have hI1 : SlR W (· < W.heap.size) 1 RInt (.slice Ai inp.length ci) inp := HIN.out.imp (fun b hb => Nat.lt_of_lt_of_le hb hB.size) (fun b hb => hB.block b hb) (fun _ _ _ r => r)
  have hR1 : Calls Tryz.prog 9 #[.agg #[.slice A1 (fitU raw).arrays.length c1, .slice (some ⟨gf, 0, none⟩) 3 cf], .slice Ai inp.length ci, .int .i64 (n : Int)] W fun e X' => ∃ A c, e = .returned (.agg #[.int .i64 (runU (fitU raw) inp n).status, .int .i64 (runU (fitU raw) inp n).code, .slice A (runU (fitU raw) inp n).out.length c, .int .i64 (runU (fitU raw) inp n).steps]) ∧ Below W.heap.size W X' ∧ X'.ownsRow W.heap.size 3 1 (.slice A (runU (fitU raw) inp n).out.length c) (runU (fitU raw) inp n).out.length ((runU (fitU raw) inp n).out.map (Value.int .i64)) := fit_run hA (ownL_slr hO) inp n (by omega) _ W (Below.refl _ _) hI1
  obtain ⟨ma, hma⟩ : ∃ ma, ma = runU (fitU raw) inp n := ⟨_, rfl⟩
  rw [← hma] at hR1
  have HMA := Lib.hid hma
  have HR1 := Lib.hid hR1
  have u0 : W.cell? ⟨w3.heap.size, 0, none⟩ = some (.slice A1 (fitU raw).arrays.length c1) := hU.cell 0
  have u1 : W.cell? ⟨w3.heap.size, 1, none⟩ = some (.slice (some ⟨gf, 0, none⟩) 3 cf) := hU.cell 1
  have HA := Lib.hid hA
  have HO := Lib.hid hO
  have HU := Lib.hid hU
  have HB := Lib.hid hB
  have HI1 := Lib.hid hI1
  have hul := hU.lt
  clear hW hb2 hb3 hsa hof HAW HFIT hR1 hma hB hU hA hO hI1
  go_upto_region 5 with (first | (go_at_call 8; refine (HPS.out _).mono ?_; rintro e w' ⟨rfl, rfl⟩) | (go_at_call 9; refine HR1.out.mono ?_; rintro e w4 ⟨Aa, ca, rfl, hb4, ho4⟩))
  refine wp_world ?_
  intro W4 hW4
  have hB4 : Below W.heap.size W W4 := by rw [← hW4]; exact hb4.alloc hb4.size _
  have hRA : ResAt W4 W.heap.size w4.heap.size ma := by rw [← hW4]; exact ⟨Aa, ca, Blk.new w4 _ _, ho4.alloc _⟩
  have hral : w4.heap.size < W4.heap.size := by rw [← hW4]; simp
  have hU4 := HU.out.below hB4 hul
  have v0 : W4.cell? ⟨w3.heap.size, 0, none⟩ = some (.slice A1 (fitU raw).arrays.length c1) := hU4.cell 0
  have hul4 : w3.heap.size < W4.heap.size := hU4.lt
  have HB4 := Lib.hid hB4
  have HRA := Lib.hid hRA
  clear hW4 hb4 ho4 hB4 hRA hU4 u0 u1 HR1
  go_upto_region 7 with fail
  refine wp_world ?_
  intro W5 hW5
  have hB5 : Below W4.heap.size W4 W5 := by
    rw [← hW5]
    first
      | exact (Below.refl _ _).alloc (Nat.le_refl _) _
      | exact ((Below.refl _ _).alloc (Nat.le_refl _) _).setCell (Nat.le_refl _) _
  have hv5 : Blk W5 W4.heap.size 28 #[.slice A1 (fitU raw).arrays.length c1, .slice none 0 0] := by
    rw [← hW5]
    first
      | exact Blk.new W4 _ _
      | exact (Blk.new W4 _ _).set_ 0 _
  have HB5 := Lib.hid hB5
  have HV5 := Lib.hid hv5
  clear hW5 hB5 hv5 v0
  go_wp2_with fail
  go_loopw [16] (fun s wr => ∃ i : Nat, i ≤ 3 ∧ s = .int .i64 i ∧ ∃ v fl css2, LT raw b tn W4 (.slice A1 (fitU raw).arrays.length c1) i v fl css2 wr) (fun s _ => 3 - (intOf s).toNat)
  case atStart => exact ⟨0, by omega, rfl, _, [], [], HB5.out, HV5.out, OwnL.nil_ _ _ _ _ _, ⟨rfl, fun j hj => by omega⟩⟩
  case round =>
    obtain ⟨i, hi, rfl, v, fl, css2, hl⟩ := hrel
    have hBW : Below W.heap.size W wr := HB4.out.trans (hl.below.mono HB4.out.size)
    have hUr := HU.out.below hBW hul
    have u1 : wr.cell? ⟨w3.heap.size, 1, none⟩ = some (.slice (some ⟨gf, 0, none⟩) 3 cf) := hUr.cell 1
    obtain ⟨Av, cv, hv⟩ := own_form hl.own.row
    rw [hl.fls.len] at hv
    subst hv
    have HL := Lib.hid hl
    have HBW := Lib.hid hBW
    by_cases hlt : i < 3
    · have e1 : decide ((i : Int) < 3) = true := decide_eq_true (by omega)
      have hO := HO.out.below mono_flow hBW
      have hkc : i < css.length := by rw [hO.len]; simp [fitFlows]; omega
      have hkl : i < (fitFlows raw 3).length := by simp [fitFlows]; omega
      have hel := hO.elems i hkc hkl
      rw [show (fitFlows raw 3)[i] = fitFl raw i by simp [fitFlows]] at hel
      obtain ⟨vb, hcs, hbl⟩ := hel
      obtain ⟨Ab, cb, hvb, _, _⟩ := hbl.val
      subst hvb
      have q0 : wr.cell? ⟨gf, i * 4, none⟩ = some (.string (fitFl raw i).name) := hO.cell (i := 0) hkc (by rw [hcs]; rfl)
      have q1 : wr.cell? ⟨gf, i * 4 + 1, none⟩ = some (.int .i64 (fitFl raw i).params) := hO.cell (i := 1) hkc (by rw [hcs]; rfl)
      have q2 : wr.cell? ⟨gf, i * 4 + 2, none⟩ = some (.int .i64 (fitFl raw i).values) := hO.cell (i := 2) hkc (by rw [hcs]; rfl)
      have q3 : wr.cell? ⟨gf, i * 4 + 3, none⟩ = some (.slice Ab (fitFl raw i).blocks.length cb) := hO.cell (i := 3) hkc (by rw [hcs]; rfl)
      have hfp : (fitFl raw i).params = (i : Int) := rfl
      have hfv : (fitFl raw i).values = 10 := rfl
      have HTU0 := Lib.hid (fun (X : World) (hb : Below wr.heap.size wr X) => turned_any (fitFl raw i) i b tn hlt hb8 ht8 hfp hfv (fit_le raw i) (fit_pos raw i) (blkG_fit raw i) _ X (hbl.imp (ok' := (· < X.heap.size)) (fun _ h => Nat.lt_of_lt_of_le h.2.1 hb.size) (fun k h => hb.block k h.2.1) (fun _ _ _ r => r.imp (fun _ h => Nat.lt_of_lt_of_le h.2.1 hb.size) (fun k h => hb.block k h.2.1))))
      have hle := fit_le raw i
      obtain ⟨f, hf⟩ : ∃ f, f = fitFl raw i := ⟨_, rfl⟩
      rw [← hf] at q0 q1 q2 q3 hle HTU0
      have HF := Lib.hid hf
      have HTU := HTU0
      have hgl : gf < wr.heap.size := (hO.lt gf rfl).2
      have hul2 : w3.heap.size < wr.heap.size := hUr.lt
      have hvl : W4.heap.size < wr.heap.size := hl.vB.lt
      have hgl4 : gf < W4.heap.size := by have := (HO.out.lt gf rfl).2; have := HB4.out.size; omega
      have hw1 : wr.cell? ⟨W4.heap.size, 1, none⟩ = some (.slice Av i cv) := hl.vB.cell 1
      have hrow : wr.ownsRow (W4.heap.size + 1) 35 4 (.slice Av i cv) i css2.flatten := by have h := hl.own.row; rw [hl.fls.len] at h; exact h
      have hne : ∀ k, (Value.slice Av i cv).ownBlock = some k → W4.heap.size + 1 ≤ k := fun k e => (hrow.lt k e).1
      have SO : Hid (∀ X, Below wr.heap.size wr X → (fun w2 => w2.cell? ⟨w3.heap.size, 1, none⟩ = some (.slice (some ⟨gf, 0, none⟩) 3 cf) ∧ w2.cell? ⟨gf, i * 4, none⟩ = some (.string f.name) ∧ w2.cell? ⟨gf, i * 4 + 1, none⟩ = some (.int .i64 f.params) ∧ w2.cell? ⟨gf, i * 4 + 2, none⟩ = some (.int .i64 f.values) ∧ w2.cell? ⟨gf, i * 4 + 3, none⟩ = some (.slice Ab f.blocks.length cb) ∧ w2.cell? ⟨W4.heap.size, 1, none⟩ = some (.slice Av i cv)) X) := Lib.hid (fun X hb => ⟨(hb.cell (p := ⟨w3.heap.size, 1, none⟩) hul2).trans u1, (hb.cell (p := ⟨gf, i * 4, none⟩) hgl).trans q0, (hb.cell (p := ⟨gf, i * 4 + 1, none⟩) hgl).trans q1, (hb.cell (p := ⟨gf, i * 4 + 2, none⟩) hgl).trans q2, (hb.cell (p := ⟨gf, i * 4 + 3, none⟩) hgl).trans q3, (hb.cell (p := ⟨W4.heap.size, 1, none⟩) hvl).trans hw1⟩)
      have HOV : Hid (∀ X, Below wr.heap.size wr X → X.ownsRow (W4.heap.size + 1) 35 4 (.slice Av i cv) i css2.flatten) := Lib.hid (fun X hb => hrow.kept (grown_below' (row := none) hb) (Classical.em _))
      have hkp : ∀ X2 X3, Below wr.heap.size wr X2 → X2.grownBy X3 (Value.slice Av i cv).ownBlock → ∀ k, k < W4.heap.size + 1 → k < wr.heap.size → X3.heap[k]? = X2.heap[k]? := fun X2 X3 hb hg k hk hk2 => hg.block k (by have := hb.size; omega) (fun e => by have := hne k e.symm; omega)
      have SOG : Hid (∀ X2 X3, Below wr.heap.size wr X2 → X2.grownBy X3 (Value.slice Av i cv).ownBlock → (fun w2 => w2.cell? ⟨w3.heap.size, 1, none⟩ = some (.slice (some ⟨gf, 0, none⟩) 3 cf) ∧ w2.cell? ⟨gf, i * 4, none⟩ = some (.string f.name) ∧ w2.cell? ⟨gf, i * 4 + 1, none⟩ = some (.int .i64 f.params) ∧ w2.cell? ⟨gf, i * 4 + 2, none⟩ = some (.int .i64 f.values) ∧ w2.cell? ⟨gf, i * 4 + 3, none⟩ = some (.slice Ab f.blocks.length cb) ∧ w2.cell? ⟨W4.heap.size, 1, none⟩ = some (.slice Av i cv)) X3) := Lib.hid (fun X2 X3 hb hg => by
        obtain ⟨a0, a1, a2, a3, a4, a5⟩ := SO.out X2 hb
        have k1 := hkp X2 X3 hb hg w3.heap.size (by omega) hul2
        have k2 := hkp X2 X3 hb hg gf (by omega) hgl
        have k3 := hkp X2 X3 hb hg W4.heap.size (by omega) hvl
        exact ⟨(World.cell?_of_block (w := X2) (w' := X3) (a := ⟨w3.heap.size, 1, none⟩) k1).trans a0, (World.cell?_of_block (w := X2) (w' := X3) (a := ⟨gf, i * 4, none⟩) k2).trans a1, (World.cell?_of_block (w := X2) (w' := X3) (a := ⟨gf, i * 4 + 1, none⟩) k2).trans a2, (World.cell?_of_block (w := X2) (w' := X3) (a := ⟨gf, i * 4 + 2, none⟩) k2).trans a3, (World.cell?_of_block (w := X2) (w' := X3) (a := ⟨gf, i * 4 + 3, none⟩) k2).trans a4, (World.cell?_of_block (w := X2) (w' := X3) (a := ⟨W4.heap.size, 1, none⟩) k3).trans a5⟩)
      have HVB3 : Hid (∀ X2 X3, Below wr.heap.size wr X2 → X2.grownBy X3 (Value.slice Av i cv).ownBlock → Blk X3 W4.heap.size 28 #[.slice A1 (fitU raw).arrays.length c1, .slice Av i cv]) := Lib.hid (fun X2 X3 hb hg => (HL.out.vB.below hb hvl).keep (hkp X2 X3 hb hg W4.heap.size (by omega) hvl))
      have HVZ : Hid (∀ X2 X3, Below wr.heap.size wr X2 → X2.grownBy X3 (Value.slice Av i cv).ownBlock → X3.frozen? ⟨W4.heap.size, 1, none⟩ = false ∧ X3.cell? ⟨W4.heap.size, 1, none⟩ = some (.slice Av i cv)) := Lib.hid (fun X2 X3 hb hg => ⟨(HVB3.out X2 X3 hb hg).frozen 1, (HVB3.out X2 X3 hb hg).cell 1⟩)
      have hi3 : (i : Int) < 3 := by omega
      obtain ⟨zi, hj0, hj1, hj2, hj3⟩ := info_parts info_flow
      clear hO hkc hkl hcs hbl hfp hfv HTU0 hf hBW hUr hl hrow hkp q0 q1 q2 q3 hw1
      go_upto_region 10 with fail
      have hz0 : Below wr.heap.size wr wr.drew := (Below.refl _ _).drew
      refine wp_region_L (by kernel_rfl) 15 (fun w2 => w2.cell? ⟨w3.heap.size, 1, none⟩ = some (.slice (some ⟨gf, 0, none⟩) 3 cf) ∧ w2.cell? ⟨gf, i * 4, none⟩ = some (.string f.name) ∧ w2.cell? ⟨gf, i * 4 + 1, none⟩ = some (.int .i64 f.params) ∧ w2.cell? ⟨gf, i * 4 + 2, none⟩ = some (.int .i64 f.values) ∧ w2.cell? ⟨gf, i * 4 + 3, none⟩ = some (.slice Ab f.blocks.length cb) ∧ w2.cell? ⟨W4.heap.size, 1, none⟩ = some (.slice Av i cv)) (SO.out _ hz0) (fun hHeld => ?_)
      have HS0 := Lib.hid hHeld
      clear hHeld
      change wpAnyL _ _ _ _ _ 15 16 (Array.replicate 16 false) _ _
      generalize wr.drew = X0 at *
      have HZ0 := Lib.hid hz0
      clear hz0
      refine takeL 0 36 (.pointer (some ⟨W4.heap.size, 1, none⟩)) HS0.out rfl rfl (by kernel_rfl) (by kernel_rfl) (by kernel_rfl) (by decide) (fun _ _ _ h => h) (by kernel_rfl) ?_ ?_
      · intro w2; go_simp
      simp only [List.setIfInBounds_toArray, List.set_cons_zero, List.set_cons_succ]
      refine takeL_S 1 37 (.slice Av i cv) [15] HS0.out rfl rfl (by kernel_rfl) (by kernel_rfl) (by kernel_rfl) (by decide) (by kernel_rfl) (fun _ _ _ h => h) (by kernel_rfl) ?_ ?_
      · intro w2 hSw; obtain ⟨g0, g1, g2, g3, g4, g5⟩ := hSw; go_simp
      simp only [List.setIfInBounds_toArray, List.set_cons_zero, List.set_cons_succ]
      refine takeL 2 38 (.pointer (some ⟨w3.heap.size, 1, none⟩)) HS0.out rfl rfl (by kernel_rfl) (by kernel_rfl) (by kernel_rfl) (by decide) (fun _ _ _ h => h) (by kernel_rfl) ?_ ?_
      · intro w2; go_simp
      simp only [List.setIfInBounds_toArray, List.set_cons_zero, List.set_cons_succ]
      refine takeL_S 3 39 (.slice (some ⟨gf, 0, none⟩) 3 cf) [15] HS0.out rfl rfl (by kernel_rfl) (by kernel_rfl) (by kernel_rfl) (by decide) (by kernel_rfl) (fun _ _ _ h => h) (by kernel_rfl) ?_ ?_
      · intro w2 hSw; obtain ⟨g0, g1, g2, g3, g4, g5⟩ := hSw; go_simp
      simp only [List.setIfInBounds_toArray, List.set_cons_zero, List.set_cons_succ]
      refine takeL 4 40 (.int .i64 (i : Int)) HS0.out rfl rfl (by kernel_rfl) (by kernel_rfl) (by kernel_rfl) (by decide) (fun _ _ _ h => h) (by kernel_rfl) ?_ ?_
      · intro w2; go_simp
      simp only [List.setIfInBounds_toArray, List.set_cons_zero, List.set_cons_succ]
      refine takeL 5 41 (.pointer (some ⟨gf, i * 4, none⟩)) HS0.out rfl rfl (by kernel_rfl) (by kernel_rfl) (by kernel_rfl) (by decide) (fun _ _ _ h => h) (by kernel_rfl) ?_ ?_
      · intro w2; go_simp
      simp only [List.setIfInBounds_toArray, List.set_cons_zero, List.set_cons_succ]
      refine takeL_S 6 42 (.agg #[.string f.name, .int .i64 f.params, .int .i64 f.values, .slice Ab f.blocks.length cb]) [15] HS0.out rfl rfl (by kernel_rfl) (by kernel_rfl) (by kernel_rfl) (by decide) (by kernel_rfl) (fun _ _ _ h => h) (by kernel_rfl) ?_ ?_
      · intro w2 hSw; obtain ⟨g0, g1, g2, g3, g4, g5⟩ := hSw; go_simp
      simp only [List.setIfInBounds_toArray, List.set_cons_zero, List.set_cons_succ]
      refine takeL 7 43 (.int .i64 by_) HS0.out rfl rfl (by kernel_rfl) (by kernel_rfl) (by kernel_rfl) (by decide) (fun _ _ _ h => h) (by kernel_rfl) ?_ ?_
      · intro w2; go_simp
      simp only [List.setIfInBounds_toArray, List.set_cons_zero, List.set_cons_succ]
      refine takeL 9 45 (.int .i64 turn) HS0.out rfl rfl (by kernel_rfl) (by kernel_rfl) (by kernel_rfl) (by decide) (fun _ _ _ h => h) (by kernel_rfl) ?_ ?_
      · intro w2; go_simp
      simp only [List.setIfInBounds_toArray, List.set_cons_zero, List.set_cons_succ]
      refine wpAnyL_ready (rs := [8]) (by kernel_rfl) (by simp) ?_
      refine AllReadyL.cons rfl (fun K hK => ?_) AllReadyL.nil
      go_simp
      refine (HPB.out X0).mono ?_
      rintro e w' ⟨rfl, rfl⟩
      refine hK.out _ _ (SO.out _ HZ0.out) (fun hHeld => ?_)
      have HS1 := Lib.hid hHeld
      clear hK K hHeld
      try simp only [List.setIfInBounds_toArray, List.set_cons_zero, List.set_cons_succ]
      refine wpAnyL_ready (rs := [10]) (by kernel_rfl) (by simp) ?_
      refine AllReadyL.cons rfl (fun K hK => ?_) AllReadyL.nil
      go_simp
      refine (HPT.out X0).mono ?_
      rintro e w' ⟨rfl, rfl⟩
      refine hK.out _ _ (SO.out _ HZ0.out) (fun hHeld => ?_)
      have HS2 := Lib.hid hHeld
      clear hK K hHeld
      try simp only [List.setIfInBounds_toArray, List.set_cons_zero, List.set_cons_succ]
      refine wpAnyL_ready (rs := [11]) (by kernel_rfl) (by simp) ?_
      refine AllReadyL.cons rfl (fun K hK => ?_) AllReadyL.nil
      go_simp
      refine (HTU.out X0 HZ0.out).mono ?_
      rintro e X1 ⟨bs, g, rfl, hx1, htb, hsl1⟩
      have HZ1 := Lib.hid (HZ0.out.trans (hx1.mono HZ0.out.size))
      have hx01 : wr.heap.size ≤ X0.heap.size := HZ0.out.size
      have HTB := Lib.hid htb
      have HSL1 := Lib.hid hsl1
      clear hx1 htb hsl1
      refine hK.out _ _ (SO.out _ HZ1.out) (fun hHeld => ?_)
      have HS3 := Lib.hid hHeld
      clear hK K hHeld
      try simp only [List.setIfInBounds_toArray, List.set_cons_zero, List.set_cons_succ]
      refine wpAnyL_ready (rs := [12]) (by kernel_rfl) (by simp) ?_
      refine AllReadyL.cons rfl (fun K hK => ?_) AllReadyL.nil
      go_simp
      refine hK.out _ _ (SO.out _ (HZ1.out.alloc HZ1.out.size _)) (fun hHeld => ?_)
      have HS4 := Lib.hid hHeld
      clear hK K hHeld
      try simp only [List.setIfInBounds_toArray, List.set_cons_zero, List.set_cons_succ]
      have hz2 : Below wr.heap.size wr (X1.alloc (.cells #[.string f.name, .int .i64 f.params, .int .i64 f.values, .slice (some ⟨g, 0, none⟩) f.blocks.length f.blocks.length] 35)) := HZ1.out.alloc HZ1.out.size _
      have hn2 : Blk (X1.alloc (.cells #[.string f.name, .int .i64 f.params, .int .i64 f.values, .slice (some ⟨g, 0, none⟩) f.blocks.length f.blocks.length] 35)) X1.heap.size 35 #[.string f.name, .int .i64 f.params, .int .i64 f.values, .slice (some ⟨g, 0, none⟩) f.blocks.length f.blocks.length] := Blk.new X1 _ _
      have h12 : Below X1.heap.size X1 (X1.alloc (.cells #[.string f.name, .int .i64 f.params, .int .i64 f.values, .slice (some ⟨g, 0, none⟩) f.blocks.length f.blocks.length] 35)) := below1 _ _
      generalize (X1.alloc (.cells #[.string f.name, .int .i64 f.params, .int .i64 f.values, .slice (some ⟨g, 0, none⟩) f.blocks.length f.blocks.length] 35)) = X2 at *
      have HZ2 := Lib.hid hz2
      have HN2 := Lib.hid hn2
      have H12 := Lib.hid h12
      clear hz2 hn2 h12
      refine wpAnyL_ready (rs := [13]) (by kernel_rfl) (by simp) ?_
      refine AllReadyL.cons rfl (fun K hK => ?_) AllReadyL.nil
      have hsx : W4.heap.size + 1 ≤ X2.heap.size := by have := HZ2.out.size; omega
      refine step_append_lies _ (by rfl) _ _ _ (by rfl) (W4.heap.size + 1) 35 zi _ 4 56 Tryz.underlying26 hj0 hj1 hj2 hj3 rfl (by omega) (.slice Av i cv) i css2.flatten (by rfl) (HOV.out X2 HZ2.out) ⟨X1.heap.size, 0, none⟩ 1 1 [.string f.name, .int .i64 f.params, .int .i64 f.values, .slice (some ⟨g, 0, none⟩) f.blocks.length f.blocks.length] (by rfl) (by rfl) (World.news_of_block HN2.out) (by simp [Value.oneCell']) (by omega) (by unfold maxLen; omega) (by omega) hsx X2.heap.size rfl ?_
      intro gp cp X3 hown3 hgrow3 hat3 hlt3
      have HW3 := Lib.hid hown3
      have HG3 := Lib.hid hgrow3
      have HA3 := Lib.hid hat3
      have hS3 := (SOG.out X2 X3 HZ2.out hgrow3)
      clear hsx hown3 hgrow3 hat3
      refine hK.out _ _ (hS3) (fun hHeld => ?_)
      have HS5 := Lib.hid hHeld
      clear hK K hHeld
      try simp only [List.setIfInBounds_toArray, List.set_cons_zero, List.set_cons_succ]
      refine takeL 14 50 (.pointer (some ⟨W4.heap.size, 1, none⟩)) HS5.out rfl rfl (by kernel_rfl) (by kernel_rfl) (by kernel_rfl) (by decide) (fun _ _ _ h => h) (by kernel_rfl) ?_ ?_
      · intro w2; go_simp
      simp only [List.setIfInBounds_toArray, List.set_cons_zero, List.set_cons_succ]
      obtain ⟨vz0, vz1⟩ := HVZ.out X2 X3 HZ2.out HG3.out
      refine wpAnyL_ready (rs := [15]) (by kernel_rfl) (by simp) ?_
      refine AllReadyL.last rfl (by kernel_rfl) (fun K hK => ?_)
      go_simp
      refine hK.out _ _ ?_
      clear hK K
      try simp only [List.setIfInBounds_toArray, List.set_cons_zero, List.set_cons_succ]
      refine wpAnyL_done (by kernel_rfl) ?_ _
      go_wp2_with fail
      go_roundw
      case rel =>
        exact ⟨i + 1, by omega, by go_num, _, _, _, HL.out.next HF.out hx01 HTB.out HSL1.out HZ2.out H12.out (HVB3.out X2 X3 HZ2.out HG3.out) HG3.out HW3.out (HA3.out.imp id fun h => Nat.le_of_eq h.symm)⟩
      case measure => simp [intOf]; omega
    · obtain rfl : i = 3 := by omega
      have e1 : decide (((3 : Nat) : Int) < 3) = false := decide_eq_false (by omega)
      obtain ⟨bs0, bs1, bs2, hT0, hT1, hT2, hfl⟩ := hl.fls.three
      obtain ⟨u, hua, huf, huo, hur⟩ := turn_unit raw b tn hb8 ht8 bs0 bs1 bs2 hT0 hT1 hT2
      have hual : u.arrays.length = (fitU raw).arrays.length := by rw [hua]
      have hul3 : u.flows.length = 3 := by rw [huf]; rfl
      have hFr : SlR wr (· < wr.heap.size) 4 (RFlow wr (· < wr.heap.size)) (.slice Av 3 cv) u.flows := by
        rw [huf, ← hfl]; exact ownL_slr hl.own
      have hAr : SlR wr (· < wr.heap.size) 2 RArr (.slice A1 (fitU raw).arrays.length c1) (fitU raw).arrays := HA.out.imp (fun b hb => Nat.lt_of_lt_of_le hb hBW.size) (fun b hb => hBW.block b hb) (fun _ _ _ r => r)
      have hIr : SlR wr (· < wr.heap.size) 1 RInt (.slice Ai inp.length ci) inp := HI1.out.imp (fun b hb => Nat.lt_of_lt_of_le hb hBW.size) (fun b hb => hBW.block b hb) (fun _ _ _ r => r)
      obtain ⟨r1, r2, r3, r4⟩ := hur inp n
      rw [← HMA.out] at r1 r2 r3 r4
      have HR2 := Lib.hid (fun (X : World) (hb : Below wr.heap.size wr X) => (show Calls Tryz.prog 9 #[.agg #[.slice A1 (fitU raw).arrays.length c1, .slice Av 3 cv], .slice Ai inp.length ci, .int .i64 (n : Int)] X fun e X' => ∃ A c, e = .returned (.agg #[.int .i64 ma.status, .int .i64 ma.code, .slice A ma.out.length c, .int .i64 ma.steps]) ∧ Below X.heap.size X X' ∧ SlR X' (· < X'.heap.size) 1 RInt (.slice A ma.out.length c) ma.out from by
        have h := run_any u huo inp n (by omega) A1 Av c1 cv (.slice Ai inp.length ci) X (by rw [hua]; exact hAr.imp (fun _ h => Nat.lt_of_lt_of_le h hb.size) (fun b h => hb.block b h) (fun _ _ _ r => r)) (by rw [hul3]; exact hFr.imp (fun _ h => Nat.lt_of_lt_of_le h hb.size) (fun b h => hb.block b h) (fun _ _ _ r => r.imp (fun _ h => Nat.lt_of_lt_of_le h hb.size) (fun b h => hb.block b h))) (hIr.imp (fun _ h => Nat.lt_of_lt_of_le h hb.size) (fun b h => hb.block b h) (fun _ _ _ r => r))
        rw [hul3, hual] at h
        refine h.mono ?_
        rintro e X' ⟨vout, he, hb', ho⟩
        rw [r1, r2, r4] at he
        rw [r3] at ho
        obtain ⟨A, c, hv⟩ := own_form ho
        subst hv
        exact ⟨A, c, he, hb', slr_of_own ho⟩))
      obtain ⟨Aa, ca, hRa, hoa⟩ := HRA.out.keep hl.below
      have hsA := slr_of_own hoa
      have HSM := Lib.hid (fun (X : World) (hb : Below wr.heap.size wr X) (v : Value) (hv : SlR X (· < X.heap.size) 1 RInt v ma.out) => same_true ma.status ma.code ma.steps ma.out (.slice Aa ma.out.length ca) v X (hsA.imp (fun _ h => Nat.lt_of_lt_of_le h hb.size) (fun b h => hb.block b h) (fun _ _ _ r => r)) hv)
      have hral9 := hRa.lt
      have hvB := hl.vB
      have hul9 := hvB.lt
      have SO : Hid (∀ X, Below wr.heap.size wr X → (fun w2 => w2.cell? ⟨w4.heap.size, 0, none⟩ = some (.int .i64 ma.status) ∧ w2.cell? ⟨w4.heap.size, 1, none⟩ = some (.int .i64 ma.code) ∧ w2.cell? ⟨w4.heap.size, 2, none⟩ = some (.slice Aa ma.out.length ca) ∧ w2.cell? ⟨w4.heap.size, 3, none⟩ = some (.int .i64 ma.steps) ∧ w2.cell? ⟨W4.heap.size, 0, none⟩ = some (.slice A1 (fitU raw).arrays.length c1) ∧ w2.cell? ⟨W4.heap.size, 1, none⟩ = some (.slice Av 3 cv)) X) := Lib.hid (fun X hb => ⟨(hRa.below hb hral9).cell 0, (hRa.below hb hral9).cell 1, (hRa.below hb hral9).cell 2, (hRa.below hb hral9).cell 3, (hvB.below hb hul9).cell 0, (hvB.below hb hul9).cell 1⟩)
      clear hT0 hT1 hT2 hfl hua huf huo hur hual hul3 hFr hAr hIr r1 r2 r3 r4 hRa hoa hsA hvB hl hBW hUr
      go_upto_region 11 with fail
      clear u1
      refine wp_region_L (by kernel_rfl) 9 (fun w2 => w2.cell? ⟨w4.heap.size, 0, none⟩ = some (.int .i64 ma.status) ∧ w2.cell? ⟨w4.heap.size, 1, none⟩ = some (.int .i64 ma.code) ∧ w2.cell? ⟨w4.heap.size, 2, none⟩ = some (.slice Aa ma.out.length ca) ∧ w2.cell? ⟨w4.heap.size, 3, none⟩ = some (.int .i64 ma.steps) ∧ w2.cell? ⟨W4.heap.size, 0, none⟩ = some (.slice A1 (fitU raw).arrays.length c1) ∧ w2.cell? ⟨W4.heap.size, 1, none⟩ = some (.slice Av 3 cv)) (SO.out _ (Below.refl _ _).drew) (fun hHeld => ?_)
      have HS0 := Lib.hid hHeld
      clear hHeld
      change wpAnyL _ _ _ _ _ 9 10 (Array.replicate 10 false) _ _
      refine takeL 0 51 (.bool true) HS0.out rfl rfl (by kernel_rfl) (by kernel_rfl) (by kernel_rfl) (by decide) (fun _ _ _ h => h) (by kernel_rfl) ?_ ?_
      · intro w2; go_simp
      simp only [List.setIfInBounds_toArray, List.set_cons_zero, List.set_cons_succ]
      refine takeL 1 52 (.bool true) HS0.out rfl rfl (by kernel_rfl) (by kernel_rfl) (by kernel_rfl) (by decide) (fun _ _ _ h => h) (by kernel_rfl) ?_ ?_
      · intro w2; go_simp
      simp only [List.setIfInBounds_toArray, List.set_cons_zero, List.set_cons_succ]
      refine takeL_S 2 53 (.agg #[.int .i64 ma.status, .int .i64 ma.code, .slice Aa ma.out.length ca, .int .i64 ma.steps]) [9] HS0.out rfl rfl (by kernel_rfl) (by kernel_rfl) (by kernel_rfl) (by decide) (by kernel_rfl) (fun _ _ _ h => h) (by kernel_rfl) ?_ ?_
      · intro w2 hSw; obtain ⟨g0, g1, g2, g3, g4, g5⟩ := hSw; go_simp
      simp only [List.setIfInBounds_toArray, List.set_cons_zero, List.set_cons_succ]
      refine takeL_S 3 54 (.agg #[.slice A1 (fitU raw).arrays.length c1, .slice Av 3 cv]) [9] HS0.out rfl rfl (by kernel_rfl) (by kernel_rfl) (by kernel_rfl) (by decide) (by kernel_rfl) (fun _ _ _ h => h) (by kernel_rfl) ?_ ?_
      · intro w2 hSw; obtain ⟨g0, g1, g2, g3, g4, g5⟩ := hSw; go_simp
      simp only [List.setIfInBounds_toArray, List.set_cons_zero, List.set_cons_succ]
      refine takeL 4 55 (.slice Ai inp.length ci) HS0.out rfl rfl (by kernel_rfl) (by kernel_rfl) (by kernel_rfl) (by decide) (fun _ _ _ h => h) (by kernel_rfl) ?_ ?_
      · intro w2; go_simp
      simp only [List.setIfInBounds_toArray, List.set_cons_zero, List.set_cons_succ]
      refine takeL 5 56 (.int .i64 (n : Int)) HS0.out rfl rfl (by kernel_rfl) (by kernel_rfl) (by kernel_rfl) (by decide) (fun _ _ _ h => h) (by kernel_rfl) ?_ ?_
      · intro w2; go_simp
      simp only [List.setIfInBounds_toArray, List.set_cons_zero, List.set_cons_succ]
      refine wpAnyL_ready (rs := [6]) (by kernel_rfl) (by simp) ?_
      refine AllReadyL.cons rfl (fun K hK => ?_) AllReadyL.nil
      go_simp
      refine (HR2.out wr.drew (Below.refl _ _).drew).mono ?_
      rintro e X1 ⟨Ab, cb, rfl, hx1, hsb⟩
      have HX1 : Hid (Below wr.heap.size wr X1) := Lib.hid (Below.trans (Below.refl wr.heap.size wr).drew hx1)
      have HSB := Lib.hid hsb
      clear hx1 hsb
      refine hK.out _ _ (SO.out _ HX1.out) (fun hHeld => ?_)
      have HS1 := Lib.hid hHeld
      clear hK K hHeld
      try simp only [List.setIfInBounds_toArray, List.set_cons_zero, List.set_cons_succ]
      refine wpAnyL_ready (rs := [7]) (by kernel_rfl) (by simp) ?_
      refine AllReadyL.cons rfl (fun K hK => ?_) AllReadyL.nil
      go_simp
      refine (HSM.out X1 HX1.out _ HSB.out).mono ?_
      rintro e X2 ⟨rfl, hx2⟩
      have HX2 := Lib.hid (HX1.out.trans (hx2.mono HX1.out.size))
      clear hx2
      refine hK.out _ _ (SO.out _ HX2.out) (fun hHeld => ?_)
      have HS2 := Lib.hid hHeld
      clear hK K hHeld
      try simp only [List.setIfInBounds_toArray, List.set_cons_zero, List.set_cons_succ]
      refine takeL 8 59 (.bool true) HS2.out rfl rfl (by kernel_rfl) (by kernel_rfl) (by kernel_rfl) (by decide) (fun _ _ _ h => h) (by kernel_rfl) ?_ ?_
      · intro w2; go_simp
      simp only [List.setIfInBounds_toArray, List.set_cons_zero, List.set_cons_succ]
      refine wpAnyL_ready (rs := [9]) (by kernel_rfl) (by simp) ?_
      refine AllReadyL.last rfl (by kernel_rfl) (fun K hK => ?_)
      go_simp
      refine hK.out _ _ ?_
      clear hK K
      try simp only [List.setIfInBounds_toArray, List.set_cons_zero, List.set_cons_succ]
      refine wpAnyL_done (by kernel_rfl) ?_ _
      go_wp2
      go_ret
      exact ⟨rfl, (HB.out.trans (HBW.out.mono HB.out.size)).trans (HX2.out.mono (HB.out.trans (HBW.out.mono HB.out.size)).size)⟩
end Go.Proofs.YtknccacfhknnaaaGreat
