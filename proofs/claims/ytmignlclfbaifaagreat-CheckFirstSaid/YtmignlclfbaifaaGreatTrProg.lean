/- The generator's programs: counterprooflaw03.Prog of whatever raw numbers, where names are of what there is. Printed by wip/gen_trprog.py. -/
import Derived.Test.YtmignlclfbaifaaGreatTrPrg
namespace Go.Proofs.YtmignlclfbaifaaGreat
open Go.RowKit

/-- f n, f (n - 1), .., f (i + 1) -/
def downTo (f : Nat → ByteArray) (n i : Nat) : List ByteArray := (List.range (n - i)).map fun j => f (n - j)
theorem downTo_self (f : Nat → ByteArray) (n : Nat) : downTo f n n = [] := by unfold downTo; rw [Nat.sub_self]; rfl
theorem downTo_step (f : Nat → ByteArray) {n i : Nat} (h : i + 1 ≤ n) : downTo f n i = downTo f n (i + 1) ++ [f (i + 1)] := by
  unfold downTo
  rw [show n - i = (n - (i + 1)) + 1 by omega, List.range_succ, List.map_append]
  show _ = _ ++ [f (i + 1)]
  rw [List.map_singleton, show n - (n - (i + 1)) = i + 1 by omega]
/-- a program of the generator's -/
structure GenP (p : LProg) : Prop where
  arrs : ∃ k, k ≤ 2 ∧ p.arrays.map (·.1) = downTo nmA k 0
  sizes : ∀ a ∈ p.arrays, okSz a.2
  funs : ∃ k, k ≤ 2 ∧ p.funcs.map (·.name) = mainN :: downTo nmF k 0
  main : ∃ f r, p.funcs = f :: r ∧ f.params = []
  params : ∀ f ∈ p.funcs, ∃ k, k < 7 ∧ f.params = paramsL.take k
  locs : ∀ f ∈ p.funcs, ∃ m, m < 6 ∧ f.locals = localsL.take m
  body : ∀ f ∈ p.funcs, (∀ s ∈ f.body, GoodS (scpOf p f) 4 false s) ∧ f.body.length ≤ 4
/-- what is known of a function that was made -/
def FunOk (hs : List (ByteArray × List ByteArray)) (as_ : List (ByteArray × Int)) (f : LFunc) : Prop := ∃ m, m < 6 ∧ f.locals = localsL.take m ∧ (∀ s ∈ f.body, GoodS (scpAt hs as_ (f.name, f.params) m) 4 false s) ∧ f.body.length ≤ 4
theorem gen_of {l : List (ByteArray × Int)} {ly : List (ByteArray × List ByteArray)} {lz : List LFunc} {k0 k1 : Nat} (h0 : k0 < 3) (h1 : k1 < 3) (hl : l.map (·.1) = downTo nmA k0 0) (hsz : ∀ a ∈ l, okSz a.2)
    (hy : ly.map (·.1) = mainN :: downTo nmF k1 0) (hm : ∃ r, ly = (mainN, []) :: r) (hp : ∀ x ∈ ly, ∃ k, k < 7 ∧ x.2 = paramsL.take k) (hz : lz.map (fun f => (f.name, f.params)) = ly) (hf : ∀ f ∈ lz, FunOk ly l f) : GenP ⟨l, lz⟩ := by
  have e1 : lz.map (·.name) = ly.map (·.1) := by rw [← hz, List.map_map]; rfl
  have e2 : (lz.map fun g => (g.name, g.params.length)) = ly.map fun y => (y.1, y.2.length) := by rw [← hz, List.map_map]; rfl
  refine ⟨⟨k0, by omega, hl⟩, hsz, ⟨k1, by omega, by rw [← hy, ← e1]⟩, ?_, fun f hf2 => hp _ (by rw [← hz]; exact List.mem_map.2 ⟨f, hf2, rfl⟩ : (f.name, f.params) ∈ ly), fun f hf2 => ?_, fun f hf2 => ?_⟩
  · obtain ⟨r, hr⟩ := hm
    rw [hr] at hz
    cases lz with
    | nil => cases hz
    | cons f q =>
      rw [List.map_cons] at hz
      injection hz with h _
      exact ⟨f, q, rfl, (Prod.mk.injEq _ _ _ _ ▸ h).2⟩
  · obtain ⟨m, q1, q2, _⟩ := hf f hf2
    exact ⟨m, q1, q2⟩
  · obtain ⟨m, q1, q2, q3, q4⟩ := hf f hf2
    have e : scpOf ⟨l, lz⟩ f = scpAt ly l (f.name, f.params) m := by
      unfold scpOf scpAt
      rw [q2]
      show Scp.mk _ _ (lz.map fun g => (g.name, g.params.length)) = _
      rw [e2]
    rw [e]
    exact ⟨q3, q4⟩
theorem names_arr {k : Nat} (hk : k < 3) : ∀ s ∈ downTo nmA k 0, nameB s = true := by
  rcases (by omega : k = 0 ∨ k = 1 ∨ k = 2) with rfl | rfl | rfl <;> decide +kernel
theorem names_fun {k : Nat} (hk : k < 3) : ∀ s ∈ mainN :: downTo nmF k 0, nameB s = true := by
  rcases (by omega : k = 0 ∨ k = 1 ∨ k = 2) with rfl | rfl | rfl <;> decide +kernel
theorem names_par : ∀ s ∈ paramsL, nameB s = true := by decide +kernel
theorem heads_of {l : List (ByteArray × Int)} {ly : List (ByteArray × List ByteArray)} {k0 k1 : Nat} (h0 : k0 < 3) (h1 : k1 < 3) (hl : l.map (·.1) = downTo nmA k0 0)
    (hy : ly.map (·.1) = mainN :: downTo nmF k1 0) (hp : ∀ x ∈ ly, ∃ k, k < 7 ∧ x.2 = paramsL.take k) : HeadsOk ly l := by
  refine ⟨fun x hx => ⟨names_fun h1 _ (by rw [← hy]; exact List.mem_map.2 ⟨x, hx, rfl⟩), ?_, ?_⟩, fun x hx => names_arr h0 _ (by rw [← hl]; exact List.mem_map.2 ⟨x, hx, rfl⟩), ?_, ?_⟩
  · obtain ⟨k, hk, e⟩ := hp x hx
    rw [e, List.length_take]; omega
  · obtain ⟨k, hk, e⟩ := hp x hx
    rw [e]; exact fun s hs => names_par s (List.mem_of_mem_take hs)
  · have h := congrArg List.length hy
    rw [List.length_map] at h
    rw [h]; unfold downTo; simp; omega
  · have h := congrArg List.length hl
    rw [List.length_map] at h
    rw [h]; unfold downTo; simp; omega
theorem Grow2.below_of {w w1 X : World} {sb g B : Nat} (h : Grow2 w1 X sb g) (hb : Below B w w1) (hB : B ≤ w1.heap.size) (h1 : B ≤ sb) (h2 : B ≤ g) : Below B w X :=
  hb.trans ⟨h.os, h.tape, h.output, h.size, fun k hk => h.block k (by omega) (by omega) (by omega)⟩
def ProgPost (w : World) : Ending → World → Prop := fun e w' =>
  ∃ (p : LProg) (A1 A2 : Option Addr) (c1 c2 B1 lo B3 : Nat) (css1 css2 : List (List Value)), e = .returned (.agg #[.slice A1 p.arrays.length c1, .slice A2 p.funcs.length c2]) ∧ GenP p ∧ Below w.heap.size w w' ∧ w.heap.size ≤ B1 ∧ B1 ≤ lo ∧ lo ≤ B3 ∧
    OwnL w' B1 53 2 RArrM (.slice A1 p.arrays.length c1) p.arrays css1 ∧ (∀ k, (.slice A1 p.arrays.length c1 : Value).ownBlock = some k → k < lo) ∧ OwnX w' (okX lo w' (.slice A2 p.funcs.length c2)) B3 49 4 (RFuncM 8) (.slice A2 p.funcs.length c2) p.funcs css2
theorem src_take {X : World} {sb : Nat} {A : Option Addr} {c n : Nat} {l : List Int} (hb : Blk X sb 58 #[.slice A n c, .int .i64 0]) (hs : SlR X (· < sb) 1 RInt (.slice A l.length c) l) (hI : ∀ x ∈ l, I64 x) (hn : n ≤ l.length) (h4 : n ≤ 400) : SrcAt X sb := by
  have hl : (l.take n).length = n := by rw [List.length_take]; omega
  refine ⟨A, c, l.take n, 0, by rw [hl]; exact hb, ?_, Nat.zero_le _, fun x hx => hI x (List.mem_of_mem_take hx), by omega⟩
  have h := hs.take hn
  rw [hl]; exact h
section
set_option maxRecDepth 100000
set_option maxHeartbeats 8000000
theorem prog_any (raw : List Int) (A : Option Addr) (c : Nat) (w : World) (hraw : SlR w (· < w.heap.size) 1 RInt (.slice A raw.length c) raw) (hI : ∀ x ∈ raw, I64 x) :
    Calls Tryz.prog 11 #[.slice A raw.length c, .bool false] w (ProgPost w) := by
  obtain ⟨rl, hrl⟩ : ∃ n, n = raw.length := ⟨_, rfl⟩
  have hlm := hraw.len_le
  unfold maxLen at hlm
  have HRL := Lib.hid hrl
  have hrlc : rl ≤ c := by obtain ⟨_, _, h, h1, _⟩ := hraw; injection h with _ _ h3; rw [hrl, h3]; exact h1
  rw [← hrl] at hraw hlm ⊢
  have HRAW := Lib.hid hraw
  have HII := Lib.hid hI
  clear hraw hI hrl
  go_enter Tryz.func11, Tryz.ntmps11
  go_upto_region 2 with fail
  refine wp_world ?_
  intro W hW
  obtain ⟨rb, hrb⟩ : ∃ b, w.heap.size = b := ⟨_, rfl⟩
  have hBw : Below w.heap.size w W := by rw [← hW]; exact below2 _ _ _
  have hr0 : Blk W rb 27 #[.slice none 0 0, .slice none 0 0] := by rw [← hW, ← hrb]; exact (Blk.new _ _ _).alloc _
  have hs0 : Blk W (rb + 1) 58 #[.slice A rl c, .int .i64 0] := by rw [← hW, ← hrb]; exact Blk.new_at _ _ _ (by simp)
  have hsz : W.heap.size = rb + 2 := by rw [← hW, ← hrb]; simp
  have HWS := Lib.hid hsz
  have HWB := Lib.hid hBw
  have HRB := Lib.hid hrb
  have HR0 := Lib.hid hr0
  have HS0 := Lib.hid hs0
  rw [show (⟨w.heap.size, 0, none⟩ : Addr) = ⟨rb, 0, none⟩ by rw [hrb]]
  rw [show (⟨w.heap.size + 1, 0, none⟩ : Addr) = ⟨rb + 1, 0, none⟩ by rw [hrb]]
  obtain ⟨sb, hsb⟩ : ∃ s, rb + 1 = s := ⟨_, rfl⟩
  rw [hsb] at HS0 ⊢
  have HSB := Lib.hid hsb
  clear hW hBw hr0 hs0 hsz hrb hsb
  have k0 := HS0.out.cell 0
  have z0 := HS0.out.frozen 0
  obtain ⟨bq, hbq⟩ : ∃ b, b = decide (400 < rl) := ⟨_, rfl⟩
  have HBQ := Lib.hid hbq
  clear hbq
  go_cut [20] (fun s wx => s = .bool bq ∧ wx = W)
  case first =>
    by_cases h4 : 400 < rl
    · have d1 : decide ((rl : Int) > 400) = true := decide_eq_true (by omega)
      have d2 : decide (400 < (rl : Int)) = true := decide_eq_true (by omega)
      have hx : bq = true := by rw [HBQ.out]; exact decide_eq_true h4
      have HXX := Lib.hid hx
      clear hx
      go_wp2
      go_meet
      case rel => exact ⟨by rw [HXX.out], rfl⟩
    · have d1 : decide ((rl : Int) > 400) = false := decide_eq_false (by omega)
      have d2 : decide (400 < (rl : Int)) = false := decide_eq_false (by omega)
      have hx : bq = false := by rw [HBQ.out]; exact decide_eq_false h4
      have HXX := Lib.hid hx
      clear hx
      go_wp2
      go_meet
      case rel => exact ⟨by rw [HXX.out], rfl⟩
  case rest =>
  obtain ⟨rfl, hw⟩ := hcut
  rw [hw]
  clear hw
  go_upto_if 20 with fail
  go_cut [] (fun wx => SrcAt wx sb ∧ Blk wx rb 27 #[.slice none 0 0, .slice none 0 0] ∧ Below w.heap.size w wx ∧ wx.heap.size = rb + 2)
  case first =>
    have hrs : SlR W (· < sb) 1 RInt (.slice A raw.length c) raw := by
      have h := HRAW.out
      rw [← HRL.out]
      exact h.imp (fun q hq => by have := HRB.out; have := HSB.out; omega) (fun q hq => HWB.out.block q hq) fun _ _ _ r => r
    have HRS := Lib.hid hrs
    clear hrs
    cases bq with
    | true =>
      have h4 : 400 < rl := of_decide_eq_true HBQ.out.symm
      have d1 : (400 : Int) ≤ (rl : Int) := by omega
      have d2 : (400 : Int) ≤ (c : Int) := by omega
      have d3 : 400 ≤ c := by omega
      go_wp2
      go_meet
      case rel =>
        refine ⟨src_take (n := 400) (HS0.out.set_ 0 _) ?_ HII.out (by have := HRL.out; omega) (Nat.le_refl _), HR0.out.far (p := ⟨sb, 0, none⟩) (by show rb ≠ sb; have := HSB.out; omega) _, HWB.out.setCell (p := ⟨sb, 0, none⟩) (by show w.heap.size ≤ sb; have := HSB.out; have := HRB.out; omega) _, by have := HWS.out; simpa [World.setCell] using this⟩
        exact HRS.out.imp (fun _ h => h) (fun q hq => Below.heap_setCell W ⟨sb, 0, none⟩ _ q (by show q ≠ sb; omega)) fun _ _ _ r => r
    | false =>
      have h4 : ¬ 400 < rl := of_decide_eq_false HBQ.out.symm
      go_wp2
      go_meet
      case rel => exact ⟨src_take (n := rl) HS0.out HRS.out HII.out (by rw [HRL.out]; exact Nat.le_refl _) (by omega), HR0.out, HWB.out, HWS.out⟩
  case rest =>
  obtain ⟨hsr, hr1, hb1, hz1⟩ := hcut
  have HSR := Lib.hid hsr
  have HR1 := Lib.hid hr1
  have HB1 := Lib.hid hb1
  have HZ1 := Lib.hid hz1
  clear hsr hr1 hb1 hz1 HS0 HR0 HWB HWS HBQ HRAW HII k0 z0
  go_upto_region 6 with fail
  refine wp_world ?_
  intro W1 hW1
  have hbw : Below wc.heap.size wc W1 := by rw [← hW1]; exact below2 _ _ _
  obtain ⟨cb, hcb⟩ : ∃ b, wc.heap.size = b := ⟨_, rfl⟩
  have hc1 : Blk W1 cb 61 #[.slice none 0 0, .slice none 0 0, .slice none 0 0, .bool false, .bool false] := by rw [← hW1, ← hcb]; exact (Blk.new _ _ _).alloc _
  have hp1 : Blk W1 (cb + 1) 27 #[.slice none 0 0, .slice none 0 0] := by rw [← hW1, ← hcb]; exact Blk.new_at _ _ _ (by simp)
  have hsz : W1.heap.size = cb + 2 := by rw [← hW1, ← hcb]; simp
  have hr1 : Blk W1 rb 27 #[.slice none 0 0, .slice none 0 0] := HR1.out.below hbw HR1.out.lt
  have hs1 : SrcAt W1 sb := HSR.out.below hbw
  have hord : rb < sb ∧ sb < cb := by have := HSB.out; have := HZ1.out; omega
  have HW1 : Hid (Below w.heap.size w W1) := Lib.hid (HB1.out.trans (hbw.mono HB1.out.size))
  rw [show (⟨wc.heap.size, 0, none⟩ : Addr) = ⟨cb, 0, none⟩ by rw [hcb]]
  rw [show (⟨wc.heap.size + 1, 0, none⟩ : Addr) = ⟨cb + 1, 0, none⟩ by rw [hcb]]
  obtain ⟨pb, hpb⟩ : ∃ s, cb + 1 = s := ⟨_, rfl⟩
  rw [hpb] at hp1 ⊢
  have hwp : pb < W1.heap.size := hp1.lt
  have HORD : Hid (rb < sb ∧ sb < cb ∧ cb < pb ∧ pb < W1.heap.size ∧ w.heap.size = rb) := Lib.hid ⟨hord.1, hord.2, by omega, hwp, HRB.out⟩
  have HC1 := Lib.hid hc1
  have HR1 := Lib.hid hr1
  have hbx : BoxG 53 2 RArrM W1 sb W1 pb 27 #[.slice none 0 0, .slice none 0 0] (fun x => okSz x.2) (.slice none 0 0) ([]) := BoxG.begin_ hwp (by omega) (by omega) hs1 hp1
  have HBX := Lib.hid hbx
  clear hW1 hbw hcb hc1 hp1 hsz hr1 hs1 hord hpb hwp hbx HSR HB1 HZ1
  go_upto_block 0 with fail
  refine (next_any W1 sb 3 (by omega) HBX.out.src).mono ?_
  rintro e Wa ⟨⟨k0, hk0, rfl⟩, hsa, hga⟩
  have HBA := Lib.hid (HBX.out.step mono_arr hga hsa)
  clear hsa hga
  go_wp2
  go_loopw [8] (fun s wr => ∃ (i nx cx : Nat) (Ax : Option Addr) (l : List (ByteArray × Int)), i ≤ k0 ∧ s = .int .i64 i ∧ nx = l.length ∧ l.map (·.1) = downTo nmA k0 i ∧ BoxG 53 2 RArrM W1 sb wr pb 27 #[.slice Ax nx cx, .slice none 0 0] (fun x => okSz x.2) (.slice Ax nx cx) (l)) (fun s _ => (intOf s).toNat)
  case atStart => exact ⟨k0, 0, 0, none, [], Nat.le_refl _, rfl, rfl, (downTo_self _ _).symm, HBA.out⟩
  case round =>
    obtain ⟨i, nx, cx, Ax, l, hi, rfl, hnx, hl, hb⟩ := hrel
    have HB := Lib.hid hb
    have HNX := Lib.hid hnx
    have HL := Lib.hid hl
    have hnx2 : nx ≤ 2 := by
      have h := congrArg List.length hl
      rw [List.length_map, ← hnx] at h
      rw [h]; unfold downTo; rw [List.length_map, List.length_range]; omega
    clear hb hnx hl
    rcases Nat.eq_zero_or_pos i with rfl | hi0
    case inr =>
      obtain ⟨j, hj⟩ : ∃ j, i = j + 1 := ⟨i - 1, by omega⟩
      have HJ := Lib.hid hj
      have d1 : decide ((i : Int) > 0) = true := decide_eq_true (by omega)
      have d2 : decide (0 < (i : Int)) = true := decide_eq_true (by omega)
      have hi3 : i < 3 := by omega
      have HI3 := Lib.hid hi3
      have HNX2 := Lib.hid hnx2
      clear hj
      go_upto_block 1 with fail
      refine ra_any _ (by kernel_rfl) wr HI3.out HB.out HNX.out HNX2.out _ _ _ _ _ _ _ _ _ _ _ _ _ _ _ _ _ _ _ _ _ _ _ _ _ _ _ _ _ _ _ _ _ _ _ _ _ _ _ _ _ _ _ _ _ _ _ _ _ _ _ _ _ _ _ _ _ _ _ _ _ _ _ _ _ _ _ _ _ _ _ _ _ _ _ _ _ _ _ _ _ _ _ _ _ _ _ _ _ _ _ _ _ _ _ _ _ _ _ _ _ _ _ _ _ _ _ _ _ _ _ _ _ _ _ _ _ ?_
      intros
      rename_i w' hpost
      obtain ⟨Ap, cp, v, hv, hb2⟩ := hpost
      have HB2 := Lib.hid hb2
      clear hv hb2
      go_wp2
      go_roundw
      case rel =>
        refine ⟨j, nx + 1, cp, Ap, _, by have := HJ.out; omega, by have := HJ.out; go_num, by rw [List.length_append, List.length_singleton, ← HNX.out], ?_, HB2.out⟩
        rw [List.map_append, HL.out, HJ.out]
        exact (downTo_step nmA (by have := HJ.out; omega)).symm
      case measure => simp [intOf]; omega
    case inl =>
      obtain ⟨Z1, hz1⟩ : ∃ x, x = wr := ⟨wr, rfl⟩
      subst hz1
      have hc1 : Blk Z1 cb 61 #[.slice none 0 0, .slice none 0 0, .slice none 0 0, .bool false, .bool false] := HB.out.gr.other HC1.out (by have := HORD.out; omega) (by have := HORD.out; omega)
      have p0 := HB.out.blk.cell 0
      have p1 := HB.out.blk.cell 1
      have c1 := hc1.cell 1
      have f1 := hc1.frozen 1
      have hcp : cb ≠ pb := by have := HORD.out; omega
      have hpc : pb ≠ cb := fun e => hcp e.symm
      have HC1 := Lib.hid hc1
      clear hc1
      go_upto_region 13 with fail
      go_upto_region 14 with fail
      refine wp_world ?_
      intro W2 hW2
      have hc2 : Blk W2 cb 61 #[.slice none 0 0, .slice Ax nx cx, .slice none 0 0, .bool false, .bool false] := by rw [← hW2]; exact HC1.out.set_ 1 _
      have hp2 : Blk W2 pb 27 #[.slice Ax nx cx, .slice none 0 0] := by rw [← hW2]; exact HB.out.blk.far (p := ⟨cb, 1, none⟩) hpc _
      have hs2 : SrcAt W2 sb := by rw [← hW2]; exact HB.out.src.keep fun q hq => Below.heap_setCell Z1 ⟨cb, 1, none⟩ _ q (by show q ≠ cb; have := HORD.out; omega)
      have hz2 : W2.heap.size = Z1.heap.size := by rw [← hW2]; simp [World.setCell]
      have hr2 : Blk W2 rb 27 #[.slice none 0 0, .slice none 0 0] := by rw [← hW2]; exact (HB.out.gr.other HR1.out (by have := HORD.out; omega) (by have := HORD.out; omega)).far (p := ⟨cb, 1, none⟩) (by show rb ≠ cb; have := HORD.out; omega) _
      have hw2 : Below w.heap.size w W2 := by rw [← hW2]; exact (HB.out.gr.below_of HW1.out HW1.out.size (by have := HORD.out; omega) (by have := HORD.out; omega)).setCell (p := ⟨cb, 1, none⟩) (by show w.heap.size ≤ cb; have := HORD.out; omega) _
      have HKA : Hid (∀ b, W1.heap.size ≤ b → W2.heap[b]? = Z1.heap[b]?) := Lib.hid (fun b hb => by rw [← hW2]; exact Below.heap_setCell Z1 ⟨cb, 1, none⟩ _ b (by show b ≠ cb; have := HORD.out; omega))
      have h12 : W1.heap.size ≤ W2.heap.size := by rw [hz2]; exact HB.out.gr.size
      have HLA : Hid (W2.heap.size = Z1.heap.size) := Lib.hid hz2
      have H12 := Lib.hid h12
      have hbh : BoxG 49 4 RHead W2 sb W2 cb 61 #[.slice none 0 0, .slice Ax nx cx, .slice none 0 0, .bool false, .bool false] (fun _ => True) (.slice none 0 0) ([]) := BoxG.begin_ hc2.lt (by have := HORD.out; omega) (by have := HORD.out; omega) hs2 hc2
      have HP2 := Lib.hid hp2
      have HR2 := Lib.hid hr2
      have HW2 := Lib.hid hw2
      have HBH := Lib.hid hbh
      have hgr : W2.grownBy W2 (some sb) := grown_below' (Below.refl _ _)
      have HGR := Lib.hid hgr
      have HS2 := Lib.hid hs2
      have OWN := (OwnL.nil_ W2 W2.heap.size 49 4 RHead)
      have hown := HBH.out.row2 mono_head hgr (below1 W2 (.cells #[.string ⟨#[109, 97, 105, 110]⟩, .slice none 0 0, .slice none 0 0, .slice none 0 0] 49)) (n := 0) rfl OWN
      have c2 := hc2.cell 2
      obtain ⟨zi, hj0, hj1, hj2, hj3⟩ := info_parts info_func
      clear hW2 hc2 hp2 hs2 hz2 hr2 hw2 h12 hbh hgr p0 p1 c1 f1
      go_upto_region 15 with (at_builtin; refine wpList_append_lies _ rfl _ _ _ rfl W2.heap.size 49 zi _ 4 88 Tryz.underlying25 hj0 hj1 hj2 hj3 rfl (by decide) (.slice none 0 0) 0 ([] : List Value) rfl hown ⟨W2.heap.size, 0, none⟩ 1 1 [.string ⟨#[109, 97, 105, 110]⟩, .slice none 0 0, .slice none 0 0, .slice none 0 0] rfl rfl (World.news_of_block (cs := #[.string ⟨#[109, 97, 105, 110]⟩, .slice none 0 0, .slice none 0 0, .slice none 0 0]) (t := 49) (fr := (0, 0)) (heap_alloc_new W2 _)) (by simp [Value.oneCell']) (by decide) (by unfold maxLen; omega) (by omega) (by simp) (W2.heap.size + 1) (by simp) ?_; intro gp cp X3 hown3 hgrow3 hat3 hlt3; have hb3 := HBH.out.app mono_head HGR.out HS2.out (below1 W2 (.cells #[.string ⟨#[109, 97, 105, 110]⟩, .slice none 0 0, .slice none 0 0, .slice none 0 0] 49)) (n := 0) rfl OWN (ok := fun _ => False) (fun _ h => h.elim) (x := (mainN, [])) ⟨none, 0, rfl, SlR.nil_ _ _ _ _⟩ rfl trivial hown3 hgrow3 (by rcases hat3 with h | h; exact .inl h; exact .inr (by rw [h]; simp)); have HB3 := Lib.hid hb3; have kc := hb3.blk.cell 2; have kz := hb3.blk.frozen 2; clear hb3 hown3 hgrow3 hat3)
      refine wp_world ?_
      intro Wb hWb
      have hbb : BoxG 49 4 RHead W2 sb Wb cb 61 #[.slice none 0 0, .slice Ax nx cx, .slice (some ⟨gp, 0, none⟩) 1 cp, .bool false, .bool false] (fun _ => True) (.slice (some ⟨gp, 0, none⟩) 1 cp) ([(mainN, [])]) := by rw [← hWb]; exact HB3.out.set mono_head 2 _
      have HBB := Lib.hid hbb
      clear hWb hbb hown c2 kc kz
      go_upto_block 2 with fail
      refine (next_any Wb sb 3 (by omega) HBB.out.src).mono ?_
      rintro e Wc ⟨⟨k1, hk1, rfl⟩, hsa, hga⟩
      have HBC := Lib.hid (HBB.out.step mono_head hga hsa)
      clear hsa hga
      go_wp2
      go_loopw [10] (fun s wr => ∃ (i ny cy : Nat) (Ay : Option Addr) (ly : List (ByteArray × List ByteArray)), i ≤ k1 ∧ s = .int .i64 i ∧ ny = ly.length ∧ ly.map (·.1) = mainN :: downTo nmF k1 i ∧ (∃ r, ly = (mainN, []) :: r) ∧ (∀ x ∈ ly, ∃ k, k < 7 ∧ x.2 = paramsL.take k) ∧ BoxG 49 4 RHead W2 sb wr cb 61 #[.slice none 0 0, .slice Ax nx cx, .slice Ay ny cy, .bool false, .bool false] (fun _ => True) (.slice Ay ny cy) (ly)) (fun s _ => (intOf s).toNat)
      case atStart => exact ⟨k1, 1, cp, some ⟨gp, 0, none⟩, [(mainN, [])], Nat.le_refl _, rfl, rfl, by rw [downTo_self]; rfl, ⟨[], rfl⟩, fun x hx => by obtain rfl := List.mem_singleton.1 hx; exact ⟨0, by omega, rfl⟩, HBC.out⟩
      case round =>
        obtain ⟨i, ny, cy, Ay, ly, hi, rfl, hny, hy, hmn, hpr, hb⟩ := hrel
        have HBY := Lib.hid hb
        have HNY := Lib.hid hny
        have HY := Lib.hid hy
        have HMN := Lib.hid hmn
        have HPR := Lib.hid hpr
        have hny3 : ny ≤ 3 := by
          have h := congrArg List.length hy
          rw [List.length_map, ← hny] at h
          rw [h]; unfold downTo; simp; omega
        clear hb hny hy hmn hpr
        rcases Nat.eq_zero_or_pos i with rfl | hi0
        case inr =>
          obtain ⟨j, hj⟩ : ∃ j, i = j + 1 := ⟨i - 1, by omega⟩
          have HJ := Lib.hid hj
          have d1 : decide ((i : Int) > 0) = true := decide_eq_true (by omega)
          have d2 : decide (0 < (i : Int)) = true := decide_eq_true (by omega)
          have hi3 : i < 3 := by omega
          have HI3 := Lib.hid hi3
          have HNY3 := Lib.hid hny3
          clear hj
          go_upto_block 3 with fail
          refine rf_any _ (by kernel_rfl) wr HI3.out HBY.out HNY.out HNY3.out _ _ _ _ _ _ _ _ _ _ _ _ _ _ _ _ _ _ _ _ _ _ _ _ _ _ _ _ _ _ _ _ _ _ _ _ _ _ _ _ _ _ _ _ _ _ _ _ _ _ _ _ _ _ _ _ _ _ _ _ _ _ _ _ _ _ _ _ _ _ _ _ _ _ _ _ _ _ _ _ _ _ _ _ _ _ _ _ _ _ _ _ _ _ _ _ _ _ _ _ _ _ _ _ _ _ _ _ _ _ _ _ _ _ _ _ _ _ ?_
          intros
          rename_i w' hpost
          obtain ⟨Ap, cp, k, hk, hb2⟩ := hpost
          have HB2 := Lib.hid hb2
          have HK := Lib.hid hk
          clear hk hb2
          go_wp2
          go_roundw
          case rel =>
            refine ⟨j, ny + 1, cp, Ap, _, by have := HJ.out; omega, by have := HJ.out; go_num, by rw [List.length_append, List.length_singleton, ← HNY.out], ?_, ?_, ?_, HB2.out⟩
            · rw [List.map_append, HY.out, HJ.out, downTo_step nmF (show j + 1 ≤ k1 by have := HJ.out; omega)]; rfl
            · obtain ⟨r, hr⟩ := HMN.out; exact ⟨r ++ [(nmF i, paramsL.take k)], by rw [hr]; rfl⟩
            · intro x hx
              rcases List.mem_append.1 hx with hx | hx
              · exact HPR.out x hx
              · obtain rfl := List.mem_singleton.1 hx; exact ⟨k, HK.out, rfl⟩
          case measure => simp [intOf]; omega
        case inl =>
          obtain ⟨W3, hz3⟩ : ∃ x, x = wr := ⟨wr, rfl⟩
          subst hz3
          have HY0 : Hid (ly.map (·.1) = mainN :: downTo nmF k1 0) := Lib.hid HY.out
          have HL0 : Hid (l.map (·.1) = downTo nmA k0 0) := Lib.hid HL.out
          have hg23 := HBY.out.gr
          have hp3 : Blk W3 pb 27 #[.slice Ax nx cx, .slice none 0 0] := hg23.other HP2.out (by have := HORD.out; omega) (by have := HORD.out; omega)
          have hr3 : Blk W3 rb 27 #[.slice none 0 0, .slice none 0 0] := hg23.other HR2.out (by have := HORD.out; omega) (by have := HORD.out; omega)
          have hw3 : Below w.heap.size w W3 := hg23.below_of HW2.out HW2.out.size (by have := HORD.out; omega) (by have := HORD.out; omega)
          have hka : ∀ b, W1.heap.size ≤ b → b < Z1.heap.size → W3.heap[b]? = Z1.heap[b]? := fun b h1 h2 => (hg23.block b (by rw [HLA.out]; exact h2) (by have := HORD.out; omega) (by have := HORD.out; omega)).trans (HKA.out b h1)
          have hh := HBY.out.list mono_head
          have ha : SlR W3 (fun b => b < W3.heap.size ∧ b ≠ sb ∧ b ≠ pb) 2 RArr (.slice Ax nx cx) l := (HB.out.list mono_arr).imp (fun b hb => ⟨by have := hg23.size; have := HLA.out; omega, by have := hb.1; have := HORD.out; omega, by have := hb.1; have := HORD.out; omega⟩) (fun b hb => hka b hb.1 hb.2) fun _ _ _ r => r
          have hgood := heads_of hk0 hk1 HL0.out HY0.out HPR.out
          have hbf : BoxX 49 4 (RFuncM 8) W2.heap.size W3 sb W3 pb 27 #[.slice Ax nx cx, .slice none 0 0] (fun _ => True) (.slice none 0 0) ([]) := BoxX.begin_ hp3.lt (by have := HORD.out; have := hp3.lt; omega) (by have := HORD.out; omega) (by have := HORD.out; have := H12.out; omega) hg23.size HBY.out.src hp3
          have HP3 := Lib.hid hp3
          have HR3 := Lib.hid hr3
          have HW3 := Lib.hid hw3
          have HKA3 := Lib.hid hka
          have HHH := Lib.hid hh
          have HAA := Lib.hid ha
          have HGD := Lib.hid hgood
          have HBF := Lib.hid hbf
          have HC3 := Lib.hid HBY.out.blk
          have HG23 := Lib.hid hg23
          have hcs : cb ≠ sb := by have := HORD.out; omega
          have HCS := Lib.hid hcs
          have HCP := Lib.hid hcp
          clear hg23 hp3 hr3 hw3 hka hh ha hgood hbf hcs hcp hpc
          go_wp2
          go_loopw [12] (fun s wr => ∃ (i nz cz : Nat) (Az : Option Addr) (lz : List LFunc), i ≤ ly.length ∧ s = .int .i64 i ∧ nz = lz.length ∧ lz.map (fun f => (f.name, f.params)) = ly.take i ∧ (∀ f ∈ lz, FunOk ly l f) ∧ BoxX 49 4 (RFuncM 8) W2.heap.size W3 sb wr pb 27 #[.slice Ax nx cx, .slice Az nz cz] (fun _ => True) (.slice Az nz cz) (lz)) (fun s _ => ly.length - (intOf s).toNat)
          case atStart => exact ⟨0, 0, 0, none, [], Nat.zero_le _, rfl, rfl, rfl, (fun _ h => by cases h), HBF.out⟩
          case round =>
            obtain ⟨i, nz, cz, Az, lz, hi, rfl, hnz, hz, hf, hb⟩ := hrel
            have HBZ := Lib.hid hb
            have HNZ := Lib.hid hnz
            have HZ := Lib.hid hz
            have HF := Lib.hid hf
            have hcw := hb.gr.other HC3.out HCS.out HCP.out
            have c2 := hcw.cell 2
            have HNZ3 : Hid (nz ≤ 3) := Lib.hid (by
              have h := congrArg List.length hz
              rw [List.length_map, ← hnz, List.length_take] at h
              have := HGD.out.few
              omega)
            have HNZI : Hid (nz = i) := Lib.hid (by
              have h := congrArg List.length hz
              rw [List.length_map, ← hnz, List.length_take] at h
              omega)
            clear hb hnz hz hf hcw
            by_cases hlt : i < ly.length
            · have hltn : i < ny := by rw [HNY.out]; exact hlt
              have d1 : decide ((i : Int) < (ny : Int)) = true := decide_eq_true (by omega)
              have HLT := Lib.hid hlt
              go_upto_block 5 with fail
              refine rb_any _ (by kernel_rfl) wr HLT.out HBZ.out HNZ.out HNZ3.out HC3.out HCS.out HCP.out HHH.out HAA.out HNY.out HNX.out HGD.out _ (by intro p a t v w' h; cases t <;> exact h) _ _ _ _ _ _ _ _ _ _ _ _ _ _ _ _ _ _ _ _ _ _ _ _ _ _ _ _ _ _ _ _ _ _ _ _ _ _ _ _ _ _ _ _ _ _ _ _ _ _ _ _ _ _ _ _ _ _ _ _ _ _ _ _ _ _ _ _ _ _ _ _ _ _ _ _ _ _ _ _ _ _ _ _ _ _ _ _ _ _ _ _ _ _ _ _ _ _ _ _ _ _ _ _ _ _ _ _ _ _ _ _ _ _ _ _ ?_
              intros
              rename_i w' hpost
              obtain ⟨Ap, cp, m, body, hm, hgd, hlen, hb2⟩ := hpost
              have HB2 := Lib.hid hb2
              have HM := Lib.hid (And.intro hm (And.intro hgd hlen))
              clear hm hgd hlen hb2
              go_wp2
              go_roundw
              case rel =>
                refine ⟨i + 1, nz + 1, cp, Ap, _, HLT.out, by go_num, by rw [List.length_append, List.length_singleton, ← HNZ.out], ?_, ?_, HB2.out⟩
                · rw [List.map_append, HZ.out, List.take_succ_eq_append_getElem HLT.out]; rfl
                · intro f hf
                  rcases List.mem_append.1 hf with hf | hf
                  · exact HF.out f hf
                  · obtain rfl := List.mem_singleton.1 hf
                    exact ⟨m, HM.out.1, rfl, HM.out.2.1, HM.out.2.2⟩
              case measure => have := HLT.out; simp [intOf]; omega
            · have hltn : ¬ i < ny := by rw [HNY.out]; exact hlt
              have d1 : decide ((i : Int) < (ny : Int)) = false := decide_eq_false (by omega)
              have HII : Hid (i = ly.length) := Lib.hid (by omega)
              have p0 := HBZ.out.blk.cell 0
              have p1 := HBZ.out.blk.cell 1
              have hrw := HBZ.out.gr.other HR3.out (by have := HORD.out; omega) (by have := HORD.out; omega)
              have r0 := hrw.cell 0
              have r1 := hrw.cell 1
              have g0 := hrw.frozen 0
              have g1 := hrw.frozen 1
              have HRW := Lib.hid hrw
              clear hrw
              go_wp2
              refine bodyPost_ret (v := .agg #[.slice Ax nx cx, .slice Az nz cz]) (results_cell_row (p := 4) (ty := 27) (by kernel_rfl) _ _ rb 27 _ (0, 0) _ rfl ((HRW.out.set_ 0 _).set_ 1 _) Tryz.underlying27 rfl (by kernel_rfl)) rfl ?_
              have hlz : lz.map (fun f => (f.name, f.params)) = ly := by rw [HZ.out, HII.out, List.take_length]
              have hgen := gen_of hk0 hk1 HL0.out HB.out.made HY0.out HMN.out HPR.out hlz HF.out
              obtain ⟨cssA, hA⟩ := HB.out.own
              obtain ⟨cssZ, hZ⟩ := HBZ.out.own
              have hZlt := HBZ.out.gr.size
              have hgz := HBZ.out.gr
              obtain ⟨o1, o2, o3, o4, o5⟩ := HORD.out
              have q1 := HLA.out
              have q2 := HG23.out.size
              have q3 := H12.out
              have hgw : ∀ (u v : Value), wr.grownBy ((wr.setCell ⟨rb, 0, none⟩ u).setCell ⟨rb, 1, none⟩ v) (some rb) := fun u v => (grown_set wr ⟨rb, 0, none⟩ u).trans (grown_set _ ⟨rb, 1, none⟩ v)
              have hbw := hgz.below_of HW3.out HW3.out.size (by omega) (by omega)
              have hbf : Below w.heap.size w ((wr.setCell ⟨rb, 0, none⟩ (.slice Ax nx cx)).setCell ⟨rb, 1, none⟩ (.slice Az nz cz)) := (hbw.setCell (p := ⟨rb, 0, none⟩) (by show w.heap.size ≤ rb; omega) _).setCell (p := ⟨rb, 1, none⟩) (by show w.heap.size ≤ rb; omega) _
              have hka : Keeps (fun b => W1.heap.size ≤ b ∧ b < Z1.heap.size) Z1 ((wr.setCell ⟨rb, 0, none⟩ (.slice Ax nx cx)).setCell ⟨rb, 1, none⟩ (.slice Az nz cz)) := fun b hb =>
                ((hgw _ _).block b (by omega) (fun e => by have := Option.some.inj e; omega)).trans ((hgz.block b (by omega) (by omega) (by omega)).trans (HKA3.out b hb.1 hb.2))
              have hOA := hA.keep mono_arr hka (by have := (hgw (.slice Ax nx cx) (.slice Az nz cz)).size; omega)
              have hOZ := hZ.grown (mono_func 8) (ok' := okX W2.heap.size ((wr.setCell ⟨rb, 0, none⟩ (.slice Ax nx cx)).setCell ⟨rb, 1, none⟩ (.slice Az nz cz)) (.slice Az nz cz)) (hgw (.slice Ax nx cx) (.slice Az nz cz)) (fun k e h => by have h1 := Option.some.inj h; have h2 := (hZ.row.lt k e).1; omega) (fun b hb => hb.2.1) (fun b hb h => by have h1 := Option.some.inj h; have h2 := hb.1; omega) (fun b hb => ⟨hb.1, Nat.lt_of_lt_of_le hb.2.1 (hgw _ _).size, hb.2.2⟩) (fun k e hk => hk.2.2 e)
              have hlt : ∀ k, (.slice Ax nx cx : Value).ownBlock = some k → k < W2.heap.size := fun k e => by have := (hA.row.lt k e).2; omega
              generalize ((wr.setCell ⟨rb, 0, none⟩ (.slice Ax nx cx)).setCell ⟨rb, 1, none⟩ (.slice Az nz cz)) = wf at *
              have hnzl := HNZ.out
              rw [HNX.out] at hOA hlt
              rw [hnzl] at hOZ ⊢
              rw [show nx = l.length from HNX.out]
              exact ⟨⟨l, lz⟩, Ax, Az, cx, cz, W1.heap.size, W2.heap.size, W3.heap.size, cssA, cssZ, rfl, hgen, hbf, HW1.out.size, q3, q2, hOA, hlt, hOZ⟩
end
end Go.Proofs.YtmignlclfbaifaaGreat
