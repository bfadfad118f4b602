/- The generator's expressions: (scope).expr, where the scope is not free: some expression that is made of what there is. Printed by wip/gen_trexpr.py. -/
import Derived.Test.YtmignlclfbaifaaGreatTrExprL
namespace Go.Proofs.YtmignlclfbaifaaGreat
open Go.RowKit

section
set_option maxRecDepth 100000
set_option maxHeartbeats 4000000

theorem row_cell {X : World} {g : Nat} {T : TypeId} {kn q z k : Nat} (h : Blk X g T #[.int .i64 0, .int .i64 1, .int .i64 2, .int .i64 3, .int .i64 (kn : Int), .int .i64 (q : Int), .int .i64 (z : Int), .int .i64 9223372036854775807]) (hk : k < 8) : ∃ v : Int, 0 ≤ v ∧ X.cell? ⟨g, k, none⟩ = some (.int .i64 v) := by
  rcases (by omega : k = 0 ∨ k = 1 ∨ k = 2 ∨ k = 3 ∨ k = 4 ∨ k = 5 ∨ k = 6 ∨ k = 7) with rfl | rfl | rfl | rfl | rfl | rfl | rfl | rfl
  · exact ⟨0, by omega, h.cell 0⟩
  · exact ⟨1, by omega, h.cell 1⟩
  · exact ⟨2, by omega, h.cell 2⟩
  · exact ⟨3, by omega, h.cell 3⟩
  · exact ⟨kn, by omega, h.cell 4⟩
  · exact ⟨q, by omega, h.cell 5⟩
  · exact ⟨z, by omega, h.cell 6⟩
  · exact ⟨9223372036854775807, by omega, h.cell 7⟩
theorem field_arr (s : ByteArray) (sz : Int) (w : World) : Sem.run Tryz.prog (Instr.field 53 (.agg #[.string s, .int .i64 sz]) 0) w = .ok (.string s) w := by kernel_rfl
theorem expr_step (m : Nat) (hm : 1 ≤ m) (hm2 : m ≤ 1000) (hX : 2 ≤ m → ExprAt (m - 1)) (hC : 2 ≤ m → CallAt m) : ExprAt m := by
  intro w sb c Av Aa Af cv ca cf loop hs hc hk
  have HSB := Lib.hid hs.lt
  have HOK := Lib.hid hk
  have HCC := Lib.hid hc
  obtain ⟨nv, hnv⟩ : ∃ n, n = c.vars.length := ⟨_, rfl⟩
  obtain ⟨na, hna⟩ : ∃ n, n = c.arrs.length := ⟨_, rfl⟩
  obtain ⟨nf, hnf⟩ : ∃ n, n = c.funs.length := ⟨_, rfl⟩
  have HSS := Lib.hid hs
  have lv : nv ≤ 400 := hnv ▸ hk.lv
  have la : na ≤ 400 := hna ▸ hk.la
  have lf : nf ≤ 400 := hnf ▸ hk.lf
  have lp : 0 < nf := hnf ▸ hk.fpos
  have em : ((m - 1 : Nat) : Int) = (m : Int) - 1 := by omega
  have HX : Hid (2 ≤ m → ∀ X, w.grownBy X (some sb) → SrcAt X sb → Calls Tryz.prog 24 #[.agg #[.slice Av nv cv, .slice Aa na ca, .slice Af nf cf, .bool false, .bool loop], .pointer (some ⟨sb, 0, none⟩), .int .i64 ((m : Int) - 1)] X (ExprPost X sb c (m - 1))) := Lib.hid (fun h2 X hg hsx => by
    have h := hX h2 X sb c Av Aa Af cv ca cf loop hsx (hc.grown hg) hk
    rw [em, ← hnv, ← hna, ← hnf] at h
    exact h)
  have HCL : Hid (2 ≤ m → ∀ X, w.grownBy X (some sb) → SrcAt X sb → Calls Tryz.prog 41 #[.agg #[.slice Av nv cv, .slice Aa na ca, .slice Af nf cf, .bool false, .bool loop], .pointer (some ⟨sb, 0, none⟩), .int .i64 (m : Int)] X (ExprPost X sb c m)) := Lib.hid (fun h2 X hg hsx => by
    have h := hC h2 X sb c Av Aa Af cv ca cf loop hsx (hc.grown hg) hk
    rw [← hnv, ← hna, ← hnf] at h
    exact h.mono fun _ _ q => q.1)
  have HNAME : Hid (0 < nv → ∀ X, w.grownBy X (some sb) → SrcAt X sb → Calls Tryz.prog 40 #[.agg #[.slice Av nv cv, .slice Aa na ca, .slice Af nf cf, .bool false, .bool loop], .pointer (some ⟨sb, 0, none⟩), .slice Av nv cv] X fun e w' => (∃ s, s ∈ c.vars ∧ e = .returned (.string s)) ∧ SrcAt w' sb ∧ X.grownBy w' (some sb)) := Lib.hid (fun h0 X hg hsx => by
    have h := gname_any hsx c.vars Av cv (hc.grown hg).vars (by omega) (.slice Av nv cv) (.slice Aa na ca) (.slice Af nf cf) (.bool loop)
    rw [← hnv] at h
    exact h)
  have HARR : Hid (0 < na → ∀ X, w.grownBy X (some sb) → SrcAt X sb → Calls Tryz.prog 25 #[.agg #[.slice Av nv cv, .slice Aa na ca, .slice Af nf cf, .bool false, .bool loop], .pointer (some ⟨sb, 0, none⟩)] X fun e w' => (∃ s sz, s ∈ c.arrs ∧ e = .returned (.agg #[.string s, .int .i64 sz])) ∧ SrcAt w' sb ∧ X.grownBy w' (some sb)) := Lib.hid (fun h0 X hg hsx => by
    have h := garray_any hsx (hc.grown hg) (by omega) (.slice Av nv cv) (.slice Af nf cf) (.bool loop)
    rw [← hna] at h
    exact h)
  rw [← hnv, ← hna, ← hnf]
  have HNV := Lib.hid hnv
  have HNA := Lib.hid hna
  have HNF := Lib.hid hnf
  clear hs hc hk hX hC hnv hna hnf em
  go_enter Tryz.func24, Tryz.ntmps24
  go_upto_region 1 with fail
  refine wp_world ?_
  intro W hW
  have hst : StE w sb W nv na nf Av Aa Af cv ca cf loop := by
    rw [← hW]
    exact ⟨grown_below' (below2 _ _ _), HSS.out.below (below2 _ _ _), (Blk.new _ _ _).alloc _, Blk.new_at _ _ _ (by simp), by simp, HSB.out⟩
  have HST := Lib.hid hst
  clear hW hst
  go_upto_if 20 with (go_at_call 21; refine (next_any _ sb 12 (by omega) HST.out.src).mono ?_; rintro e w1 ⟨⟨k1, hk1, rfl⟩, hs1, hg1⟩; have HS1 := Lib.hid (HST.out.step hg1 hs1); clear hs1 hg1; have ab0 : w1.cell? ⟨w.heap.size, 0, none⟩ = some (.slice Av nv cv) := HS1.out.box.cell 0; have ab1 : w1.cell? ⟨w.heap.size, 1, none⟩ = some (.slice Aa na ca) := HS1.out.box.cell 1; have ab2 : w1.cell? ⟨w.heap.size, 2, none⟩ = some (.slice Af nf cf) := HS1.out.box.cell 2; have ab3 : w1.cell? ⟨w.heap.size, 3, none⟩ = some (.bool false) := HS1.out.box.cell 3; have ab4 : w1.cell? ⟨w.heap.size, 4, none⟩ = some (.bool loop) := HS1.out.box.cell 4; have ar0 : w1.cell? ⟨w.heap.size + 1, 0, none⟩ = some (.int .i64 0) := HS1.out.res.cell 0; have ar1 : w1.cell? ⟨w.heap.size + 1, 1, none⟩ = some (.int .i64 0) := HS1.out.res.cell 1; have ar2 : w1.cell? ⟨w.heap.size + 1, 2, none⟩ = some (.int .i64 0) := HS1.out.res.cell 2; have ar3 : w1.cell? ⟨w.heap.size + 1, 3, none⟩ = some (.string ⟨#[]⟩) := HS1.out.res.cell 3; have ar4 : w1.cell? ⟨w.heap.size + 1, 4, none⟩ = some (.slice none 0 0) := HS1.out.res.cell 4; have az0 : w1.frozen? ⟨w.heap.size + 1, 0, none⟩ = false := HS1.out.res.frozen 0; have az1 : w1.frozen? ⟨w.heap.size + 1, 1, none⟩ = false := HS1.out.res.frozen 1; have az2 : w1.frozen? ⟨w.heap.size + 1, 2, none⟩ = false := HS1.out.res.frozen 2; have az3 : w1.frozen? ⟨w.heap.size + 1, 3, none⟩ = false := HS1.out.res.frozen 3; have az4 : w1.frozen? ⟨w.heap.size + 1, 4, none⟩ = false := HS1.out.res.frozen 4; have alt : w.heap.size + 1 < w1.heap.size := HS1.out.lt)
  have HKD := Lib.hid hk1
  go_cut [7] (fun s7 wx => ∃ j : Int, s7 = .int .i64 j ∧ 0 ≤ j ∧ (j < 4 ∨ (j < 12 ∧ 2 ≤ m)) ∧ wx = w1)
  case first =>
    by_cases hm3 : m < 2
    · have d1 : decide ((m : Int) < 2) = true := decide_eq_true (by omega)
      go_wp2
      go_meet
      case rel => exact ⟨((k1 % 4 : Nat) : Int), by go_num, by omega, .inl (by omega), rfl⟩
    · have d1 : decide ((m : Int) < 2) = false := decide_eq_false (by omega)
      go_wp2
      go_meet
      case rel => exact ⟨(k1 : Int), rfl, by omega, .inr ⟨by have := HKD.out; omega, by omega⟩, rfl⟩
  case rest =>
  obtain ⟨j, rfl, hj0, hj, hw⟩ := hcut
  rw [hw]
  clear hw
  obtain ⟨bv, hbv⟩ : ∃ b, b = decide (0 < nv) := ⟨_, rfl⟩
  have HBV := Lib.hid hbv
  obtain ⟨ba, hba⟩ : ∃ b, b = decide (0 < na) := ⟨_, rfl⟩
  have HBA := Lib.hid hba
  clear hbv hba
  go_upto_region 4 with fail
  go_cut [8] (fun s wx => s = .bool bv ∧ wx = w1)
  case first =>
    rcases Nat.eq_zero_or_pos nv with h0 | h0
    · have hx : bv = false := by rw [HBV.out]; exact decide_eq_false (by omega)
      have HXX := Lib.hid hx
      clear hx
      subst h0
      go_wp2
      go_meet
      case rel => exact ⟨by rw [HXX.out], rfl⟩
    · have d1 : decide ((nv : Int) > 0) = true := decide_eq_true (by omega)
      have d2 : decide (0 < (nv : Int)) = true := decide_eq_true (by omega)
      have hx : bv = true := by rw [HBV.out]; exact decide_eq_true h0
      have HXX := Lib.hid hx
      clear hx
      go_wp2
      go_meet
      case rel => exact ⟨by rw [HXX.out], rfl⟩
  case rest =>
  obtain ⟨rfl, hw⟩ := hcut
  rw [hw]
  clear hw
  go_upto_region 5 with fail
  go_cut [9] (fun s wx => s = .bool ba ∧ wx = w1)
  case first =>
    rcases Nat.eq_zero_or_pos na with h0 | h0
    · have hx : ba = false := by rw [HBA.out]; exact decide_eq_false (by omega)
      have HXX := Lib.hid hx
      clear hx
      subst h0
      go_wp2
      go_meet
      case rel => exact ⟨by rw [HXX.out], rfl⟩
    · have d1 : decide ((na : Int) > 0) = true := decide_eq_true (by omega)
      have d2 : decide (0 < (na : Int)) = true := decide_eq_true (by omega)
      have hx : ba = true := by rw [HBA.out]; exact decide_eq_true h0
      have HXX := Lib.hid hx
      clear hx
      go_wp2
      go_meet
      case rel => exact ⟨by rw [HXX.out], rfl⟩
  case rest =>
  obtain ⟨rfl, hw⟩ := hcut
  rw [hw]
  clear hw
  go_upto_region 6 with fail
  go_cut [10] (fun s wx => s = .bool true ∧ wx = w1)
  case first =>
    · have d1 : decide ((nf : Int) > 0) = true := decide_eq_true (by omega)
      have h0 := lp
      have d2 : decide (0 < (nf : Int)) = true := decide_eq_true (by omega)
      go_wp2
      go_meet
      case rel => exact ⟨rfl, rfl⟩
  case rest =>
  obtain ⟨rfl, hw⟩ := hcut
  rw [hw]
  clear hw
  clear HST HCC HSS HKD
  rcases (by omega : j = 0 ∨ j = 1 ∨ j = 2 ∨ j = 3 ∨ j = 4 ∨ j = 5 ∨ j = 6 ∨ (7 ≤ j ∧ j < 12)) with rfl | rfl | rfl | rfl | rfl | rfl | rfl | hj7
  case inl =>
    go_upto_region 14 with (go_at_call 21; refine (next_any _ sb 1000 (by omega) HS1.out.src).mono ?_; rintro e wn ⟨⟨kn, hkn, rfl⟩, hs1, hg1⟩; have HN := Lib.hid (HS1.out.step hg1 hs1); clear hs1 hg1; have nb0 : wn.cell? ⟨w.heap.size, 0, none⟩ = some (.slice Av nv cv) := HN.out.box.cell 0; have nb1 : wn.cell? ⟨w.heap.size, 1, none⟩ = some (.slice Aa na ca) := HN.out.box.cell 1; have nb2 : wn.cell? ⟨w.heap.size, 2, none⟩ = some (.slice Af nf cf) := HN.out.box.cell 2; have nb3 : wn.cell? ⟨w.heap.size, 3, none⟩ = some (.bool false) := HN.out.box.cell 3; have nb4 : wn.cell? ⟨w.heap.size, 4, none⟩ = some (.bool loop) := HN.out.box.cell 4; have nr0 : wn.cell? ⟨w.heap.size + 1, 0, none⟩ = some (.int .i64 0) := HN.out.res.cell 0; have nr1 : wn.cell? ⟨w.heap.size + 1, 1, none⟩ = some (.int .i64 0) := HN.out.res.cell 1; have nr2 : wn.cell? ⟨w.heap.size + 1, 2, none⟩ = some (.int .i64 0) := HN.out.res.cell 2; have nr3 : wn.cell? ⟨w.heap.size + 1, 3, none⟩ = some (.string ⟨#[]⟩) := HN.out.res.cell 3; have nr4 : wn.cell? ⟨w.heap.size + 1, 4, none⟩ = some (.slice none 0 0) := HN.out.res.cell 4; have nz0 : wn.frozen? ⟨w.heap.size + 1, 0, none⟩ = false := HN.out.res.frozen 0; have nz1 : wn.frozen? ⟨w.heap.size + 1, 1, none⟩ = false := HN.out.res.frozen 1; have nz2 : wn.frozen? ⟨w.heap.size + 1, 2, none⟩ = false := HN.out.res.frozen 2; have nz3 : wn.frozen? ⟨w.heap.size + 1, 3, none⟩ = false := HN.out.res.frozen 3; have nz4 : wn.frozen? ⟨w.heap.size + 1, 4, none⟩ = false := HN.out.res.frozen 4; have nlt : w.heap.size + 1 < wn.heap.size := HN.out.lt)
    obtain ⟨q, hq⟩ : ∃ q, q = kn * kn := ⟨_, rfl⟩
    have hq2 : q < 1000000 := by rw [hq]; exact Nat.lt_of_le_of_lt (Nat.mul_le_mul (show kn ≤ 999 by omega) (show kn ≤ 999 by omega)) (by decide)
    obtain ⟨z, hz⟩ : ∃ z, z = 2 ^ (kn % 63) := ⟨_, rfl⟩
    have hz2 : z < 9223372036854775808 := by rw [hz]; exact Nat.lt_of_le_of_lt (Nat.pow_le_pow_right (by decide) (show kn % 63 ≤ 62 by omega)) (by decide)
    have HQ := Lib.hid hq; have HZ := Lib.hid hz; clear hq hz
    have HN0 : Hid (StE w sb wn.drew nv na nf Av Aa Af cv ca cf loop) := Lib.hid (HN.out.below (Below.refl _ _).drew)
    refine wp_region_L (by kernel_rfl) 13 (fun _ => True) (trivial) (fun hHeld => ?_)
    have HS0 := Lib.hid hHeld
    clear hHeld
    change wpAnyL _ _ _ _ _ 13 14 (Array.replicate 14 false) _ _
    obtain ⟨X0, hX0⟩ : ∃ X0, wn.drew = X0 := ⟨_, rfl⟩
    rw [hX0] at HN0 ⊢
    clear hX0
    refine tj 0 78 (.int .i64 (kn : Int)) HS0.out rfl rfl ?_
    try simp only [sA, sB, sC]
    refine tj 1 79 (.int .i64 (kn : Int)) HS0.out rfl rfl ?_
    try simp only [sA, sB, sC]
    refine tj 2 80 (.int .i64 (kn : Int)) HS0.out rfl rfl ?_
    try simp only [sA, sB, sC]
    refine tk 3 81 (.int .i64 (q : Int)) HS0.out rfl rfl ?_ ?_
    · intro w2; go_simp; rw [show (kn : Int) * kn = (q : Int) by rw [HQ.out, Int.natCast_mul]]; rw [IntKind.wrap_i64]; omega
    try simp only [sA, sB, sC]
    refine tj 4 82 (.int .i64 (kn : Int)) HS0.out rfl rfl ?_
    try simp only [sA, sB, sC]
    refine tk 5 83 (.int .i64 ((kn % 63 : Nat) : Int)) HS0.out rfl rfl ?_ ?_
    · intro w2; go_simp; exact Int.tmod_eq_emod_of_nonneg (by omega)
    try simp only [sA, sB, sC]
    refine tk 6 84 (.int .i64 (z : Int)) HS0.out rfl rfl ?_ ?_
    · intro w2; go_simp; rw [show ((kn : Int) % 63).toNat = kn % 63 by omega, show (2 : Int) ^ (kn % 63) = (z : Int) by rw [HZ.out]; exact (Int.natCast_pow 2 _).symm]; rw [IntKind.wrap_i64]; omega
    try simp only [sA, sB, sC]
    refine tj 8 86 (.pointer (some ⟨sb, 0, none⟩)) HS0.out rfl rfl ?_
    try simp only [sA, sB, sC]
    refine wpAnyL_ready (rs := [7, 9]) (by kernel_rfl) (by simp) ?_
    refine AllReadyL.cons rfl (fun K hK => ?_) (AllReadyL.cons rfl (fun K hK => ?_) AllReadyL.nil)
    · go_simp
      obtain ⟨X1, hXX⟩ : ∃ X, X0.alloc (.cells #[.int .i64 0, .int .i64 1, .int .i64 2, .int .i64 3, .int .i64 (kn : Int), .int .i64 (q : Int), .int .i64 (z : Int), .int .i64 9223372036854775807] 3) = X := ⟨_, rfl⟩
      rw [hXX]
      have HN1 : Hid (StE w sb X1 nv na nf Av Aa Af cv ca cf loop) := Lib.hid (by rw [← hXX]; exact HN0.out.below (below1 _ _))
      have HB1 : Hid (Blk X1 X0.heap.size 3 #[.int .i64 0, .int .i64 1, .int .i64 2, .int .i64 3, .int .i64 (kn : Int), .int .i64 (q : Int), .int .i64 (z : Int), .int .i64 9223372036854775807]) := Lib.hid (by rw [← hXX]; exact Blk.new_at _ _ _ rfl)
      have hgl1 : X0.heap.size < X1.heap.size := by rw [← hXX]; simp
      have HGL := Lib.hid hgl1
      clear hgl1
      clear hXX
      refine hK.out _ _ (trivial) (fun hHeld => ?_)
      have HS1 := Lib.hid hHeld
      clear hK K hHeld
      try simp only [sA, sB, sC]
      refine wpAnyL_ready (rs := [9]) (by kernel_rfl) (by simp) ?_
      refine AllReadyL.cons rfl (fun K hK => ?_) AllReadyL.nil
      go_simp
      refine (next_any _ sb 8 (by omega) HN1.out.src).mono ?_
      rintro e X2 ⟨⟨k, hk, rfl⟩, hs, hg⟩
      have HN2 := Lib.hid (HN1.out.step hg hs)
      have HB2 := Lib.hid (HB1.out.grown hg (fun e => by have := Option.some.inj e; have := HSB.out; have := HN0.out.lt; omega))
      have hgl : X0.heap.size < X2.heap.size := Nat.lt_of_lt_of_le HGL.out hg.size
      clear hs hg
      refine hK.out _ _ (trivial) (fun hHeld => ?_)
      have HS2 := Lib.hid hHeld
      clear hK K hHeld
      try simp only [sA, sB, sC]
      obtain ⟨v, hv0, hcell⟩ := row_cell HB2.out hk
      refine tk 10 88 (.pointer (some ⟨X0.heap.size, k, none⟩)) HS2.out rfl rfl ?_ ?_
      · intro w2; go_simp; intro h8; omega
      try simp only [sA, sB, sC]
      refine wpAnyL_ready (rs := [11]) (by kernel_rfl) (by simp) ?_
      refine AllReadyL.cons rfl (fun K hK => ?_) AllReadyL.nil
      go_simp
      refine hK.out _ _ (trivial) (fun hHeld => ?_)
      have HS3 := Lib.hid hHeld
      clear hK K hHeld
      try simp only [sA, sB, sC]
      refine tj 12 90 (.agg #[.int .i64 1, .int .i64 0, .int .i64 v, .string ⟨#[]⟩, .slice none 0 0]) HS3.out rfl rfl ?_
      try simp only [sA, sB, sC]
      refine wpAnyL_ready (rs := [13]) (by kernel_rfl) (by simp) ?_
      refine AllReadyL.last rfl (by kernel_rfl) (fun K hK => ?_)
      have ub0 : X2.cell? ⟨w.heap.size, 0, none⟩ = some (.slice Av nv cv) := HN2.out.box.cell 0; have ub1 : X2.cell? ⟨w.heap.size, 1, none⟩ = some (.slice Aa na ca) := HN2.out.box.cell 1; have ub2 : X2.cell? ⟨w.heap.size, 2, none⟩ = some (.slice Af nf cf) := HN2.out.box.cell 2; have ub3 : X2.cell? ⟨w.heap.size, 3, none⟩ = some (.bool false) := HN2.out.box.cell 3; have ub4 : X2.cell? ⟨w.heap.size, 4, none⟩ = some (.bool loop) := HN2.out.box.cell 4; have ur0 : X2.cell? ⟨w.heap.size + 1, 0, none⟩ = some (.int .i64 0) := HN2.out.res.cell 0; have ur1 : X2.cell? ⟨w.heap.size + 1, 1, none⟩ = some (.int .i64 0) := HN2.out.res.cell 1; have ur2 : X2.cell? ⟨w.heap.size + 1, 2, none⟩ = some (.int .i64 0) := HN2.out.res.cell 2; have ur3 : X2.cell? ⟨w.heap.size + 1, 3, none⟩ = some (.string ⟨#[]⟩) := HN2.out.res.cell 3; have ur4 : X2.cell? ⟨w.heap.size + 1, 4, none⟩ = some (.slice none 0 0) := HN2.out.res.cell 4; have uz0 : X2.frozen? ⟨w.heap.size + 1, 0, none⟩ = false := HN2.out.res.frozen 0; have uz1 : X2.frozen? ⟨w.heap.size + 1, 1, none⟩ = false := HN2.out.res.frozen 1; have uz2 : X2.frozen? ⟨w.heap.size + 1, 2, none⟩ = false := HN2.out.res.frozen 2; have uz3 : X2.frozen? ⟨w.heap.size + 1, 3, none⟩ = false := HN2.out.res.frozen 3; have uz4 : X2.frozen? ⟨w.heap.size + 1, 4, none⟩ = false := HN2.out.res.frozen 4; have ult : w.heap.size + 1 < X2.heap.size := HN2.out.lt
      go_simp
      refine hK.out _ _ ?_
      clear hK K
      try simp only [sA, sB, sC]
      refine wpAnyL_done (by kernel_rfl) ?_ _
      go_wp2
      have hend := expr_end HN2.out ⟨1, 0, v, ⟨#[]⟩, []⟩ (.slice none 0 0) (made_num (c := c) hm hv0) (SlR.nil_ _ _ _ _)
      refine bodyPost_ret (v := .agg #[.int .i64 (⟨1, 0, v, ⟨#[]⟩, []⟩ : LExpr).kind, .int .i64 (⟨1, 0, v, ⟨#[]⟩, []⟩ : LExpr).op, .int .i64 (⟨1, 0, v, ⟨#[]⟩, []⟩ : LExpr).n, .string (⟨1, 0, v, ⟨#[]⟩, []⟩ : LExpr).name, .slice none 0 0]) (results_cell_row (p := 6) (ty := 42) (by kernel_rfl) _ _ (w.heap.size + 1) 42 _ (0, 0) _ rfl hend.1 Tryz.underlying42 rfl (by kernel_rfl)) rfl hend.2
    · go_simp
      refine (next_any _ sb 8 (by omega) HN0.out.src).mono ?_
      rintro e X1 ⟨⟨k, hk, rfl⟩, hs, hg⟩
      have HN1 := Lib.hid (HN0.out.step hg hs)
      clear hs hg
      refine hK.out _ _ (trivial) (fun hHeld => ?_)
      have HS1 := Lib.hid hHeld
      clear hK K hHeld
      try simp only [sA, sB, sC]
      refine wpAnyL_ready (rs := [7]) (by kernel_rfl) (by simp) ?_
      refine AllReadyL.cons rfl (fun K hK => ?_) AllReadyL.nil
      go_simp
      obtain ⟨X2, hXX⟩ : ∃ X, X1.alloc (.cells #[.int .i64 0, .int .i64 1, .int .i64 2, .int .i64 3, .int .i64 (kn : Int), .int .i64 (q : Int), .int .i64 (z : Int), .int .i64 9223372036854775807] 3) = X := ⟨_, rfl⟩
      rw [hXX]
      have HN2 : Hid (StE w sb X2 nv na nf Av Aa Af cv ca cf loop) := Lib.hid (by rw [← hXX]; exact HN1.out.below (below1 _ _))
      have HB2 : Hid (Blk X2 X1.heap.size 3 #[.int .i64 0, .int .i64 1, .int .i64 2, .int .i64 3, .int .i64 (kn : Int), .int .i64 (q : Int), .int .i64 (z : Int), .int .i64 9223372036854775807]) := Lib.hid (by rw [← hXX]; exact Blk.new_at _ _ _ rfl)
      have hgl : X1.heap.size < X2.heap.size := by rw [← hXX]; simp
      clear hXX
      refine hK.out _ _ (trivial) (fun hHeld => ?_)
      have HS2 := Lib.hid hHeld
      clear hK K hHeld
      try simp only [sA, sB, sC]
      obtain ⟨v, hv0, hcell⟩ := row_cell HB2.out hk
      refine tk 10 88 (.pointer (some ⟨X1.heap.size, k, none⟩)) HS2.out rfl rfl ?_ ?_
      · intro w2; go_simp; intro h8; omega
      try simp only [sA, sB, sC]
      refine wpAnyL_ready (rs := [11]) (by kernel_rfl) (by simp) ?_
      refine AllReadyL.cons rfl (fun K hK => ?_) AllReadyL.nil
      go_simp
      refine hK.out _ _ (trivial) (fun hHeld => ?_)
      have HS3 := Lib.hid hHeld
      clear hK K hHeld
      try simp only [sA, sB, sC]
      refine tj 12 90 (.agg #[.int .i64 1, .int .i64 0, .int .i64 v, .string ⟨#[]⟩, .slice none 0 0]) HS3.out rfl rfl ?_
      try simp only [sA, sB, sC]
      refine wpAnyL_ready (rs := [13]) (by kernel_rfl) (by simp) ?_
      refine AllReadyL.last rfl (by kernel_rfl) (fun K hK => ?_)
      have ub0 : X2.cell? ⟨w.heap.size, 0, none⟩ = some (.slice Av nv cv) := HN2.out.box.cell 0; have ub1 : X2.cell? ⟨w.heap.size, 1, none⟩ = some (.slice Aa na ca) := HN2.out.box.cell 1; have ub2 : X2.cell? ⟨w.heap.size, 2, none⟩ = some (.slice Af nf cf) := HN2.out.box.cell 2; have ub3 : X2.cell? ⟨w.heap.size, 3, none⟩ = some (.bool false) := HN2.out.box.cell 3; have ub4 : X2.cell? ⟨w.heap.size, 4, none⟩ = some (.bool loop) := HN2.out.box.cell 4; have ur0 : X2.cell? ⟨w.heap.size + 1, 0, none⟩ = some (.int .i64 0) := HN2.out.res.cell 0; have ur1 : X2.cell? ⟨w.heap.size + 1, 1, none⟩ = some (.int .i64 0) := HN2.out.res.cell 1; have ur2 : X2.cell? ⟨w.heap.size + 1, 2, none⟩ = some (.int .i64 0) := HN2.out.res.cell 2; have ur3 : X2.cell? ⟨w.heap.size + 1, 3, none⟩ = some (.string ⟨#[]⟩) := HN2.out.res.cell 3; have ur4 : X2.cell? ⟨w.heap.size + 1, 4, none⟩ = some (.slice none 0 0) := HN2.out.res.cell 4; have uz0 : X2.frozen? ⟨w.heap.size + 1, 0, none⟩ = false := HN2.out.res.frozen 0; have uz1 : X2.frozen? ⟨w.heap.size + 1, 1, none⟩ = false := HN2.out.res.frozen 1; have uz2 : X2.frozen? ⟨w.heap.size + 1, 2, none⟩ = false := HN2.out.res.frozen 2; have uz3 : X2.frozen? ⟨w.heap.size + 1, 3, none⟩ = false := HN2.out.res.frozen 3; have uz4 : X2.frozen? ⟨w.heap.size + 1, 4, none⟩ = false := HN2.out.res.frozen 4; have ult : w.heap.size + 1 < X2.heap.size := HN2.out.lt
      go_simp
      refine hK.out _ _ ?_
      clear hK K
      try simp only [sA, sB, sC]
      refine wpAnyL_done (by kernel_rfl) ?_ _
      go_wp2
      have hend := expr_end HN2.out ⟨1, 0, v, ⟨#[]⟩, []⟩ (.slice none 0 0) (made_num (c := c) hm hv0) (SlR.nil_ _ _ _ _)
      refine bodyPost_ret (v := .agg #[.int .i64 (⟨1, 0, v, ⟨#[]⟩, []⟩ : LExpr).kind, .int .i64 (⟨1, 0, v, ⟨#[]⟩, []⟩ : LExpr).op, .int .i64 (⟨1, 0, v, ⟨#[]⟩, []⟩ : LExpr).n, .string (⟨1, 0, v, ⟨#[]⟩, []⟩ : LExpr).name, .slice none 0 0]) (results_cell_row (p := 6) (ty := 42) (by kernel_rfl) _ _ (w.heap.size + 1) 42 _ (0, 0) _ rfl hend.1 Tryz.underlying42 rfl (by kernel_rfl)) rfl hend.2
  case inr.inl =>
    cases bv with
    | true =>
      have hn0 : 0 < nv := by have h := HBV.out; exact of_decide_eq_true h.symm
      have HNM := Lib.hid (HNAME.out hn0)
      clear hn0
      go_wp2_with (go_at_call 40; refine (HNM.out _ HS1.out.g HS1.out.src).mono ?_; rintro e w2 ⟨⟨s, hsm, rfl⟩, hs2, hg2⟩; have HS2 := Lib.hid (HS1.out.step hg2 hs2); have HM := Lib.hid hsm; clear hs2 hg2 hsm; have vb0 : w2.cell? ⟨w.heap.size, 0, none⟩ = some (.slice Av nv cv) := HS2.out.box.cell 0; have vb1 : w2.cell? ⟨w.heap.size, 1, none⟩ = some (.slice Aa na ca) := HS2.out.box.cell 1; have vb2 : w2.cell? ⟨w.heap.size, 2, none⟩ = some (.slice Af nf cf) := HS2.out.box.cell 2; have vb3 : w2.cell? ⟨w.heap.size, 3, none⟩ = some (.bool false) := HS2.out.box.cell 3; have vb4 : w2.cell? ⟨w.heap.size, 4, none⟩ = some (.bool loop) := HS2.out.box.cell 4; have vr0 : w2.cell? ⟨w.heap.size + 1, 0, none⟩ = some (.int .i64 0) := HS2.out.res.cell 0; have vr1 : w2.cell? ⟨w.heap.size + 1, 1, none⟩ = some (.int .i64 0) := HS2.out.res.cell 1; have vr2 : w2.cell? ⟨w.heap.size + 1, 2, none⟩ = some (.int .i64 0) := HS2.out.res.cell 2; have vr3 : w2.cell? ⟨w.heap.size + 1, 3, none⟩ = some (.string ⟨#[]⟩) := HS2.out.res.cell 3; have vr4 : w2.cell? ⟨w.heap.size + 1, 4, none⟩ = some (.slice none 0 0) := HS2.out.res.cell 4; have vz0 : w2.frozen? ⟨w.heap.size + 1, 0, none⟩ = false := HS2.out.res.frozen 0; have vz1 : w2.frozen? ⟨w.heap.size + 1, 1, none⟩ = false := HS2.out.res.frozen 1; have vz2 : w2.frozen? ⟨w.heap.size + 1, 2, none⟩ = false := HS2.out.res.frozen 2; have vz3 : w2.frozen? ⟨w.heap.size + 1, 3, none⟩ = false := HS2.out.res.frozen 3; have vz4 : w2.frozen? ⟨w.heap.size + 1, 4, none⟩ = false := HS2.out.res.frozen 4; have vlt : w.heap.size + 1 < w2.heap.size := HS2.out.lt)
      have hend := expr_end HS2.out (⟨2, 0, 0, s, []⟩) (.slice none 0 0) (made_var hm HOK.out.toScOk HM.out) (SlR.nil_ _ _ _ _)
      refine bodyPost_ret (v := .agg #[.int .i64 (⟨2, 0, 0, s, []⟩ : LExpr).kind, .int .i64 (⟨2, 0, 0, s, []⟩ : LExpr).op, .int .i64 (⟨2, 0, 0, s, []⟩ : LExpr).n, .string (⟨2, 0, 0, s, []⟩ : LExpr).name, .slice none 0 0]) (results_cell_row (p := 6) (ty := 42) (by kernel_rfl) _ _ (w.heap.size + 1) 42 _ (0, 0) _ rfl hend.1 Tryz.underlying42 rfl (by kernel_rfl)) rfl hend.2
    | false =>
      go_upto_region 14 with (go_at_call 21; refine (next_any _ sb 1000 (by omega) HS1.out.src).mono ?_; rintro e wn ⟨⟨kn, hkn, rfl⟩, hs1, hg1⟩; have HN := Lib.hid (HS1.out.step hg1 hs1); clear hs1 hg1; have nb0 : wn.cell? ⟨w.heap.size, 0, none⟩ = some (.slice Av nv cv) := HN.out.box.cell 0; have nb1 : wn.cell? ⟨w.heap.size, 1, none⟩ = some (.slice Aa na ca) := HN.out.box.cell 1; have nb2 : wn.cell? ⟨w.heap.size, 2, none⟩ = some (.slice Af nf cf) := HN.out.box.cell 2; have nb3 : wn.cell? ⟨w.heap.size, 3, none⟩ = some (.bool false) := HN.out.box.cell 3; have nb4 : wn.cell? ⟨w.heap.size, 4, none⟩ = some (.bool loop) := HN.out.box.cell 4; have nr0 : wn.cell? ⟨w.heap.size + 1, 0, none⟩ = some (.int .i64 0) := HN.out.res.cell 0; have nr1 : wn.cell? ⟨w.heap.size + 1, 1, none⟩ = some (.int .i64 0) := HN.out.res.cell 1; have nr2 : wn.cell? ⟨w.heap.size + 1, 2, none⟩ = some (.int .i64 0) := HN.out.res.cell 2; have nr3 : wn.cell? ⟨w.heap.size + 1, 3, none⟩ = some (.string ⟨#[]⟩) := HN.out.res.cell 3; have nr4 : wn.cell? ⟨w.heap.size + 1, 4, none⟩ = some (.slice none 0 0) := HN.out.res.cell 4; have nz0 : wn.frozen? ⟨w.heap.size + 1, 0, none⟩ = false := HN.out.res.frozen 0; have nz1 : wn.frozen? ⟨w.heap.size + 1, 1, none⟩ = false := HN.out.res.frozen 1; have nz2 : wn.frozen? ⟨w.heap.size + 1, 2, none⟩ = false := HN.out.res.frozen 2; have nz3 : wn.frozen? ⟨w.heap.size + 1, 3, none⟩ = false := HN.out.res.frozen 3; have nz4 : wn.frozen? ⟨w.heap.size + 1, 4, none⟩ = false := HN.out.res.frozen 4; have nlt : w.heap.size + 1 < wn.heap.size := HN.out.lt)
      obtain ⟨q, hq⟩ : ∃ q, q = kn * kn := ⟨_, rfl⟩
      have hq2 : q < 1000000 := by rw [hq]; exact Nat.lt_of_le_of_lt (Nat.mul_le_mul (show kn ≤ 999 by omega) (show kn ≤ 999 by omega)) (by decide)
      obtain ⟨z, hz⟩ : ∃ z, z = 2 ^ (kn % 63) := ⟨_, rfl⟩
      have hz2 : z < 9223372036854775808 := by rw [hz]; exact Nat.lt_of_le_of_lt (Nat.pow_le_pow_right (by decide) (show kn % 63 ≤ 62 by omega)) (by decide)
      have HQ := Lib.hid hq; have HZ := Lib.hid hz; clear hq hz
      have HN0 : Hid (StE w sb wn.drew nv na nf Av Aa Af cv ca cf loop) := Lib.hid (HN.out.below (Below.refl _ _).drew)
      refine wp_region_L (by kernel_rfl) 13 (fun _ => True) (trivial) (fun hHeld => ?_)
      have HS0 := Lib.hid hHeld
      clear hHeld
      change wpAnyL _ _ _ _ _ 13 14 (Array.replicate 14 false) _ _
      obtain ⟨X0, hX0⟩ : ∃ X0, wn.drew = X0 := ⟨_, rfl⟩
      rw [hX0] at HN0 ⊢
      clear hX0
      refine tj 0 78 (.int .i64 (kn : Int)) HS0.out rfl rfl ?_
      try simp only [sA, sB, sC]
      refine tj 1 79 (.int .i64 (kn : Int)) HS0.out rfl rfl ?_
      try simp only [sA, sB, sC]
      refine tj 2 80 (.int .i64 (kn : Int)) HS0.out rfl rfl ?_
      try simp only [sA, sB, sC]
      refine tk 3 81 (.int .i64 (q : Int)) HS0.out rfl rfl ?_ ?_
      · intro w2; go_simp; rw [show (kn : Int) * kn = (q : Int) by rw [HQ.out, Int.natCast_mul]]; rw [IntKind.wrap_i64]; omega
      try simp only [sA, sB, sC]
      refine tj 4 82 (.int .i64 (kn : Int)) HS0.out rfl rfl ?_
      try simp only [sA, sB, sC]
      refine tk 5 83 (.int .i64 ((kn % 63 : Nat) : Int)) HS0.out rfl rfl ?_ ?_
      · intro w2; go_simp; exact Int.tmod_eq_emod_of_nonneg (by omega)
      try simp only [sA, sB, sC]
      refine tk 6 84 (.int .i64 (z : Int)) HS0.out rfl rfl ?_ ?_
      · intro w2; go_simp; rw [show ((kn : Int) % 63).toNat = kn % 63 by omega, show (2 : Int) ^ (kn % 63) = (z : Int) by rw [HZ.out]; exact (Int.natCast_pow 2 _).symm]; rw [IntKind.wrap_i64]; omega
      try simp only [sA, sB, sC]
      refine tj 8 86 (.pointer (some ⟨sb, 0, none⟩)) HS0.out rfl rfl ?_
      try simp only [sA, sB, sC]
      refine wpAnyL_ready (rs := [7, 9]) (by kernel_rfl) (by simp) ?_
      refine AllReadyL.cons rfl (fun K hK => ?_) (AllReadyL.cons rfl (fun K hK => ?_) AllReadyL.nil)
      · go_simp
        obtain ⟨X1, hXX⟩ : ∃ X, X0.alloc (.cells #[.int .i64 0, .int .i64 1, .int .i64 2, .int .i64 3, .int .i64 (kn : Int), .int .i64 (q : Int), .int .i64 (z : Int), .int .i64 9223372036854775807] 3) = X := ⟨_, rfl⟩
        rw [hXX]
        have HN1 : Hid (StE w sb X1 nv na nf Av Aa Af cv ca cf loop) := Lib.hid (by rw [← hXX]; exact HN0.out.below (below1 _ _))
        have HB1 : Hid (Blk X1 X0.heap.size 3 #[.int .i64 0, .int .i64 1, .int .i64 2, .int .i64 3, .int .i64 (kn : Int), .int .i64 (q : Int), .int .i64 (z : Int), .int .i64 9223372036854775807]) := Lib.hid (by rw [← hXX]; exact Blk.new_at _ _ _ rfl)
        have hgl1 : X0.heap.size < X1.heap.size := by rw [← hXX]; simp
        have HGL := Lib.hid hgl1
        clear hgl1
        clear hXX
        refine hK.out _ _ (trivial) (fun hHeld => ?_)
        have HS1 := Lib.hid hHeld
        clear hK K hHeld
        try simp only [sA, sB, sC]
        refine wpAnyL_ready (rs := [9]) (by kernel_rfl) (by simp) ?_
        refine AllReadyL.cons rfl (fun K hK => ?_) AllReadyL.nil
        go_simp
        refine (next_any _ sb 8 (by omega) HN1.out.src).mono ?_
        rintro e X2 ⟨⟨k, hk, rfl⟩, hs, hg⟩
        have HN2 := Lib.hid (HN1.out.step hg hs)
        have HB2 := Lib.hid (HB1.out.grown hg (fun e => by have := Option.some.inj e; have := HSB.out; have := HN0.out.lt; omega))
        have hgl : X0.heap.size < X2.heap.size := Nat.lt_of_lt_of_le HGL.out hg.size
        clear hs hg
        refine hK.out _ _ (trivial) (fun hHeld => ?_)
        have HS2 := Lib.hid hHeld
        clear hK K hHeld
        try simp only [sA, sB, sC]
        obtain ⟨v, hv0, hcell⟩ := row_cell HB2.out hk
        refine tk 10 88 (.pointer (some ⟨X0.heap.size, k, none⟩)) HS2.out rfl rfl ?_ ?_
        · intro w2; go_simp; intro h8; omega
        try simp only [sA, sB, sC]
        refine wpAnyL_ready (rs := [11]) (by kernel_rfl) (by simp) ?_
        refine AllReadyL.cons rfl (fun K hK => ?_) AllReadyL.nil
        go_simp
        refine hK.out _ _ (trivial) (fun hHeld => ?_)
        have HS3 := Lib.hid hHeld
        clear hK K hHeld
        try simp only [sA, sB, sC]
        refine tj 12 90 (.agg #[.int .i64 1, .int .i64 0, .int .i64 v, .string ⟨#[]⟩, .slice none 0 0]) HS3.out rfl rfl ?_
        try simp only [sA, sB, sC]
        refine wpAnyL_ready (rs := [13]) (by kernel_rfl) (by simp) ?_
        refine AllReadyL.last rfl (by kernel_rfl) (fun K hK => ?_)
        have ub0 : X2.cell? ⟨w.heap.size, 0, none⟩ = some (.slice Av nv cv) := HN2.out.box.cell 0; have ub1 : X2.cell? ⟨w.heap.size, 1, none⟩ = some (.slice Aa na ca) := HN2.out.box.cell 1; have ub2 : X2.cell? ⟨w.heap.size, 2, none⟩ = some (.slice Af nf cf) := HN2.out.box.cell 2; have ub3 : X2.cell? ⟨w.heap.size, 3, none⟩ = some (.bool false) := HN2.out.box.cell 3; have ub4 : X2.cell? ⟨w.heap.size, 4, none⟩ = some (.bool loop) := HN2.out.box.cell 4; have ur0 : X2.cell? ⟨w.heap.size + 1, 0, none⟩ = some (.int .i64 0) := HN2.out.res.cell 0; have ur1 : X2.cell? ⟨w.heap.size + 1, 1, none⟩ = some (.int .i64 0) := HN2.out.res.cell 1; have ur2 : X2.cell? ⟨w.heap.size + 1, 2, none⟩ = some (.int .i64 0) := HN2.out.res.cell 2; have ur3 : X2.cell? ⟨w.heap.size + 1, 3, none⟩ = some (.string ⟨#[]⟩) := HN2.out.res.cell 3; have ur4 : X2.cell? ⟨w.heap.size + 1, 4, none⟩ = some (.slice none 0 0) := HN2.out.res.cell 4; have uz0 : X2.frozen? ⟨w.heap.size + 1, 0, none⟩ = false := HN2.out.res.frozen 0; have uz1 : X2.frozen? ⟨w.heap.size + 1, 1, none⟩ = false := HN2.out.res.frozen 1; have uz2 : X2.frozen? ⟨w.heap.size + 1, 2, none⟩ = false := HN2.out.res.frozen 2; have uz3 : X2.frozen? ⟨w.heap.size + 1, 3, none⟩ = false := HN2.out.res.frozen 3; have uz4 : X2.frozen? ⟨w.heap.size + 1, 4, none⟩ = false := HN2.out.res.frozen 4; have ult : w.heap.size + 1 < X2.heap.size := HN2.out.lt
        go_simp
        refine hK.out _ _ ?_
        clear hK K
        try simp only [sA, sB, sC]
        refine wpAnyL_done (by kernel_rfl) ?_ _
        go_wp2
        have hend := expr_end HN2.out ⟨1, 0, v, ⟨#[]⟩, []⟩ (.slice none 0 0) (made_num (c := c) hm hv0) (SlR.nil_ _ _ _ _)
        refine bodyPost_ret (v := .agg #[.int .i64 (⟨1, 0, v, ⟨#[]⟩, []⟩ : LExpr).kind, .int .i64 (⟨1, 0, v, ⟨#[]⟩, []⟩ : LExpr).op, .int .i64 (⟨1, 0, v, ⟨#[]⟩, []⟩ : LExpr).n, .string (⟨1, 0, v, ⟨#[]⟩, []⟩ : LExpr).name, .slice none 0 0]) (results_cell_row (p := 6) (ty := 42) (by kernel_rfl) _ _ (w.heap.size + 1) 42 _ (0, 0) _ rfl hend.1 Tryz.underlying42 rfl (by kernel_rfl)) rfl hend.2
      · go_simp
        refine (next_any _ sb 8 (by omega) HN0.out.src).mono ?_
        rintro e X1 ⟨⟨k, hk, rfl⟩, hs, hg⟩
        have HN1 := Lib.hid (HN0.out.step hg hs)
        clear hs hg
        refine hK.out _ _ (trivial) (fun hHeld => ?_)
        have HS1 := Lib.hid hHeld
        clear hK K hHeld
        try simp only [sA, sB, sC]
        refine wpAnyL_ready (rs := [7]) (by kernel_rfl) (by simp) ?_
        refine AllReadyL.cons rfl (fun K hK => ?_) AllReadyL.nil
        go_simp
        obtain ⟨X2, hXX⟩ : ∃ X, X1.alloc (.cells #[.int .i64 0, .int .i64 1, .int .i64 2, .int .i64 3, .int .i64 (kn : Int), .int .i64 (q : Int), .int .i64 (z : Int), .int .i64 9223372036854775807] 3) = X := ⟨_, rfl⟩
        rw [hXX]
        have HN2 : Hid (StE w sb X2 nv na nf Av Aa Af cv ca cf loop) := Lib.hid (by rw [← hXX]; exact HN1.out.below (below1 _ _))
        have HB2 : Hid (Blk X2 X1.heap.size 3 #[.int .i64 0, .int .i64 1, .int .i64 2, .int .i64 3, .int .i64 (kn : Int), .int .i64 (q : Int), .int .i64 (z : Int), .int .i64 9223372036854775807]) := Lib.hid (by rw [← hXX]; exact Blk.new_at _ _ _ rfl)
        have hgl : X1.heap.size < X2.heap.size := by rw [← hXX]; simp
        clear hXX
        refine hK.out _ _ (trivial) (fun hHeld => ?_)
        have HS2 := Lib.hid hHeld
        clear hK K hHeld
        try simp only [sA, sB, sC]
        obtain ⟨v, hv0, hcell⟩ := row_cell HB2.out hk
        refine tk 10 88 (.pointer (some ⟨X1.heap.size, k, none⟩)) HS2.out rfl rfl ?_ ?_
        · intro w2; go_simp; intro h8; omega
        try simp only [sA, sB, sC]
        refine wpAnyL_ready (rs := [11]) (by kernel_rfl) (by simp) ?_
        refine AllReadyL.cons rfl (fun K hK => ?_) AllReadyL.nil
        go_simp
        refine hK.out _ _ (trivial) (fun hHeld => ?_)
        have HS3 := Lib.hid hHeld
        clear hK K hHeld
        try simp only [sA, sB, sC]
        refine tj 12 90 (.agg #[.int .i64 1, .int .i64 0, .int .i64 v, .string ⟨#[]⟩, .slice none 0 0]) HS3.out rfl rfl ?_
        try simp only [sA, sB, sC]
        refine wpAnyL_ready (rs := [13]) (by kernel_rfl) (by simp) ?_
        refine AllReadyL.last rfl (by kernel_rfl) (fun K hK => ?_)
        have ub0 : X2.cell? ⟨w.heap.size, 0, none⟩ = some (.slice Av nv cv) := HN2.out.box.cell 0; have ub1 : X2.cell? ⟨w.heap.size, 1, none⟩ = some (.slice Aa na ca) := HN2.out.box.cell 1; have ub2 : X2.cell? ⟨w.heap.size, 2, none⟩ = some (.slice Af nf cf) := HN2.out.box.cell 2; have ub3 : X2.cell? ⟨w.heap.size, 3, none⟩ = some (.bool false) := HN2.out.box.cell 3; have ub4 : X2.cell? ⟨w.heap.size, 4, none⟩ = some (.bool loop) := HN2.out.box.cell 4; have ur0 : X2.cell? ⟨w.heap.size + 1, 0, none⟩ = some (.int .i64 0) := HN2.out.res.cell 0; have ur1 : X2.cell? ⟨w.heap.size + 1, 1, none⟩ = some (.int .i64 0) := HN2.out.res.cell 1; have ur2 : X2.cell? ⟨w.heap.size + 1, 2, none⟩ = some (.int .i64 0) := HN2.out.res.cell 2; have ur3 : X2.cell? ⟨w.heap.size + 1, 3, none⟩ = some (.string ⟨#[]⟩) := HN2.out.res.cell 3; have ur4 : X2.cell? ⟨w.heap.size + 1, 4, none⟩ = some (.slice none 0 0) := HN2.out.res.cell 4; have uz0 : X2.frozen? ⟨w.heap.size + 1, 0, none⟩ = false := HN2.out.res.frozen 0; have uz1 : X2.frozen? ⟨w.heap.size + 1, 1, none⟩ = false := HN2.out.res.frozen 1; have uz2 : X2.frozen? ⟨w.heap.size + 1, 2, none⟩ = false := HN2.out.res.frozen 2; have uz3 : X2.frozen? ⟨w.heap.size + 1, 3, none⟩ = false := HN2.out.res.frozen 3; have uz4 : X2.frozen? ⟨w.heap.size + 1, 4, none⟩ = false := HN2.out.res.frozen 4; have ult : w.heap.size + 1 < X2.heap.size := HN2.out.lt
        go_simp
        refine hK.out _ _ ?_
        clear hK K
        try simp only [sA, sB, sC]
        refine wpAnyL_done (by kernel_rfl) ?_ _
        go_wp2
        have hend := expr_end HN2.out ⟨1, 0, v, ⟨#[]⟩, []⟩ (.slice none 0 0) (made_num (c := c) hm hv0) (SlR.nil_ _ _ _ _)
        refine bodyPost_ret (v := .agg #[.int .i64 (⟨1, 0, v, ⟨#[]⟩, []⟩ : LExpr).kind, .int .i64 (⟨1, 0, v, ⟨#[]⟩, []⟩ : LExpr).op, .int .i64 (⟨1, 0, v, ⟨#[]⟩, []⟩ : LExpr).n, .string (⟨1, 0, v, ⟨#[]⟩, []⟩ : LExpr).name, .slice none 0 0]) (results_cell_row (p := 6) (ty := 42) (by kernel_rfl) _ _ (w.heap.size + 1) 42 _ (0, 0) _ rfl hend.1 Tryz.underlying42 rfl (by kernel_rfl)) rfl hend.2
  case inr.inr.inl =>
    cases bv with
    | true =>
      have hn0 : 0 < nv := by have h := HBV.out; exact of_decide_eq_true h.symm
      have HNM := Lib.hid (HNAME.out hn0)
      clear hn0
      go_wp2_with (go_at_call 40; refine (HNM.out _ HS1.out.g HS1.out.src).mono ?_; rintro e w2 ⟨⟨s, hsm, rfl⟩, hs2, hg2⟩; have HS2 := Lib.hid (HS1.out.step hg2 hs2); have HM := Lib.hid hsm; clear hs2 hg2 hsm; have vb0 : w2.cell? ⟨w.heap.size, 0, none⟩ = some (.slice Av nv cv) := HS2.out.box.cell 0; have vb1 : w2.cell? ⟨w.heap.size, 1, none⟩ = some (.slice Aa na ca) := HS2.out.box.cell 1; have vb2 : w2.cell? ⟨w.heap.size, 2, none⟩ = some (.slice Af nf cf) := HS2.out.box.cell 2; have vb3 : w2.cell? ⟨w.heap.size, 3, none⟩ = some (.bool false) := HS2.out.box.cell 3; have vb4 : w2.cell? ⟨w.heap.size, 4, none⟩ = some (.bool loop) := HS2.out.box.cell 4; have vr0 : w2.cell? ⟨w.heap.size + 1, 0, none⟩ = some (.int .i64 0) := HS2.out.res.cell 0; have vr1 : w2.cell? ⟨w.heap.size + 1, 1, none⟩ = some (.int .i64 0) := HS2.out.res.cell 1; have vr2 : w2.cell? ⟨w.heap.size + 1, 2, none⟩ = some (.int .i64 0) := HS2.out.res.cell 2; have vr3 : w2.cell? ⟨w.heap.size + 1, 3, none⟩ = some (.string ⟨#[]⟩) := HS2.out.res.cell 3; have vr4 : w2.cell? ⟨w.heap.size + 1, 4, none⟩ = some (.slice none 0 0) := HS2.out.res.cell 4; have vz0 : w2.frozen? ⟨w.heap.size + 1, 0, none⟩ = false := HS2.out.res.frozen 0; have vz1 : w2.frozen? ⟨w.heap.size + 1, 1, none⟩ = false := HS2.out.res.frozen 1; have vz2 : w2.frozen? ⟨w.heap.size + 1, 2, none⟩ = false := HS2.out.res.frozen 2; have vz3 : w2.frozen? ⟨w.heap.size + 1, 3, none⟩ = false := HS2.out.res.frozen 3; have vz4 : w2.frozen? ⟨w.heap.size + 1, 4, none⟩ = false := HS2.out.res.frozen 4; have vlt : w.heap.size + 1 < w2.heap.size := HS2.out.lt)
      have hend := expr_end HS2.out (⟨2, 0, 0, s, []⟩) (.slice none 0 0) (made_var hm HOK.out.toScOk HM.out) (SlR.nil_ _ _ _ _)
      refine bodyPost_ret (v := .agg #[.int .i64 (⟨2, 0, 0, s, []⟩ : LExpr).kind, .int .i64 (⟨2, 0, 0, s, []⟩ : LExpr).op, .int .i64 (⟨2, 0, 0, s, []⟩ : LExpr).n, .string (⟨2, 0, 0, s, []⟩ : LExpr).name, .slice none 0 0]) (results_cell_row (p := 6) (ty := 42) (by kernel_rfl) _ _ (w.heap.size + 1) 42 _ (0, 0) _ rfl hend.1 Tryz.underlying42 rfl (by kernel_rfl)) rfl hend.2
    | false =>
      go_upto_region 14 with (go_at_call 21; refine (next_any _ sb 1000 (by omega) HS1.out.src).mono ?_; rintro e wn ⟨⟨kn, hkn, rfl⟩, hs1, hg1⟩; have HN := Lib.hid (HS1.out.step hg1 hs1); clear hs1 hg1; have nb0 : wn.cell? ⟨w.heap.size, 0, none⟩ = some (.slice Av nv cv) := HN.out.box.cell 0; have nb1 : wn.cell? ⟨w.heap.size, 1, none⟩ = some (.slice Aa na ca) := HN.out.box.cell 1; have nb2 : wn.cell? ⟨w.heap.size, 2, none⟩ = some (.slice Af nf cf) := HN.out.box.cell 2; have nb3 : wn.cell? ⟨w.heap.size, 3, none⟩ = some (.bool false) := HN.out.box.cell 3; have nb4 : wn.cell? ⟨w.heap.size, 4, none⟩ = some (.bool loop) := HN.out.box.cell 4; have nr0 : wn.cell? ⟨w.heap.size + 1, 0, none⟩ = some (.int .i64 0) := HN.out.res.cell 0; have nr1 : wn.cell? ⟨w.heap.size + 1, 1, none⟩ = some (.int .i64 0) := HN.out.res.cell 1; have nr2 : wn.cell? ⟨w.heap.size + 1, 2, none⟩ = some (.int .i64 0) := HN.out.res.cell 2; have nr3 : wn.cell? ⟨w.heap.size + 1, 3, none⟩ = some (.string ⟨#[]⟩) := HN.out.res.cell 3; have nr4 : wn.cell? ⟨w.heap.size + 1, 4, none⟩ = some (.slice none 0 0) := HN.out.res.cell 4; have nz0 : wn.frozen? ⟨w.heap.size + 1, 0, none⟩ = false := HN.out.res.frozen 0; have nz1 : wn.frozen? ⟨w.heap.size + 1, 1, none⟩ = false := HN.out.res.frozen 1; have nz2 : wn.frozen? ⟨w.heap.size + 1, 2, none⟩ = false := HN.out.res.frozen 2; have nz3 : wn.frozen? ⟨w.heap.size + 1, 3, none⟩ = false := HN.out.res.frozen 3; have nz4 : wn.frozen? ⟨w.heap.size + 1, 4, none⟩ = false := HN.out.res.frozen 4; have nlt : w.heap.size + 1 < wn.heap.size := HN.out.lt)
      obtain ⟨q, hq⟩ : ∃ q, q = kn * kn := ⟨_, rfl⟩
      have hq2 : q < 1000000 := by rw [hq]; exact Nat.lt_of_le_of_lt (Nat.mul_le_mul (show kn ≤ 999 by omega) (show kn ≤ 999 by omega)) (by decide)
      obtain ⟨z, hz⟩ : ∃ z, z = 2 ^ (kn % 63) := ⟨_, rfl⟩
      have hz2 : z < 9223372036854775808 := by rw [hz]; exact Nat.lt_of_le_of_lt (Nat.pow_le_pow_right (by decide) (show kn % 63 ≤ 62 by omega)) (by decide)
      have HQ := Lib.hid hq; have HZ := Lib.hid hz; clear hq hz
      have HN0 : Hid (StE w sb wn.drew nv na nf Av Aa Af cv ca cf loop) := Lib.hid (HN.out.below (Below.refl _ _).drew)
      refine wp_region_L (by kernel_rfl) 13 (fun _ => True) (trivial) (fun hHeld => ?_)
      have HS0 := Lib.hid hHeld
      clear hHeld
      change wpAnyL _ _ _ _ _ 13 14 (Array.replicate 14 false) _ _
      obtain ⟨X0, hX0⟩ : ∃ X0, wn.drew = X0 := ⟨_, rfl⟩
      rw [hX0] at HN0 ⊢
      clear hX0
      refine tj 0 78 (.int .i64 (kn : Int)) HS0.out rfl rfl ?_
      try simp only [sA, sB, sC]
      refine tj 1 79 (.int .i64 (kn : Int)) HS0.out rfl rfl ?_
      try simp only [sA, sB, sC]
      refine tj 2 80 (.int .i64 (kn : Int)) HS0.out rfl rfl ?_
      try simp only [sA, sB, sC]
      refine tk 3 81 (.int .i64 (q : Int)) HS0.out rfl rfl ?_ ?_
      · intro w2; go_simp; rw [show (kn : Int) * kn = (q : Int) by rw [HQ.out, Int.natCast_mul]]; rw [IntKind.wrap_i64]; omega
      try simp only [sA, sB, sC]
      refine tj 4 82 (.int .i64 (kn : Int)) HS0.out rfl rfl ?_
      try simp only [sA, sB, sC]
      refine tk 5 83 (.int .i64 ((kn % 63 : Nat) : Int)) HS0.out rfl rfl ?_ ?_
      · intro w2; go_simp; exact Int.tmod_eq_emod_of_nonneg (by omega)
      try simp only [sA, sB, sC]
      refine tk 6 84 (.int .i64 (z : Int)) HS0.out rfl rfl ?_ ?_
      · intro w2; go_simp; rw [show ((kn : Int) % 63).toNat = kn % 63 by omega, show (2 : Int) ^ (kn % 63) = (z : Int) by rw [HZ.out]; exact (Int.natCast_pow 2 _).symm]; rw [IntKind.wrap_i64]; omega
      try simp only [sA, sB, sC]
      refine tj 8 86 (.pointer (some ⟨sb, 0, none⟩)) HS0.out rfl rfl ?_
      try simp only [sA, sB, sC]
      refine wpAnyL_ready (rs := [7, 9]) (by kernel_rfl) (by simp) ?_
      refine AllReadyL.cons rfl (fun K hK => ?_) (AllReadyL.cons rfl (fun K hK => ?_) AllReadyL.nil)
      · go_simp
        obtain ⟨X1, hXX⟩ : ∃ X, X0.alloc (.cells #[.int .i64 0, .int .i64 1, .int .i64 2, .int .i64 3, .int .i64 (kn : Int), .int .i64 (q : Int), .int .i64 (z : Int), .int .i64 9223372036854775807] 3) = X := ⟨_, rfl⟩
        rw [hXX]
        have HN1 : Hid (StE w sb X1 nv na nf Av Aa Af cv ca cf loop) := Lib.hid (by rw [← hXX]; exact HN0.out.below (below1 _ _))
        have HB1 : Hid (Blk X1 X0.heap.size 3 #[.int .i64 0, .int .i64 1, .int .i64 2, .int .i64 3, .int .i64 (kn : Int), .int .i64 (q : Int), .int .i64 (z : Int), .int .i64 9223372036854775807]) := Lib.hid (by rw [← hXX]; exact Blk.new_at _ _ _ rfl)
        have hgl1 : X0.heap.size < X1.heap.size := by rw [← hXX]; simp
        have HGL := Lib.hid hgl1
        clear hgl1
        clear hXX
        refine hK.out _ _ (trivial) (fun hHeld => ?_)
        have HS1 := Lib.hid hHeld
        clear hK K hHeld
        try simp only [sA, sB, sC]
        refine wpAnyL_ready (rs := [9]) (by kernel_rfl) (by simp) ?_
        refine AllReadyL.cons rfl (fun K hK => ?_) AllReadyL.nil
        go_simp
        refine (next_any _ sb 8 (by omega) HN1.out.src).mono ?_
        rintro e X2 ⟨⟨k, hk, rfl⟩, hs, hg⟩
        have HN2 := Lib.hid (HN1.out.step hg hs)
        have HB2 := Lib.hid (HB1.out.grown hg (fun e => by have := Option.some.inj e; have := HSB.out; have := HN0.out.lt; omega))
        have hgl : X0.heap.size < X2.heap.size := Nat.lt_of_lt_of_le HGL.out hg.size
        clear hs hg
        refine hK.out _ _ (trivial) (fun hHeld => ?_)
        have HS2 := Lib.hid hHeld
        clear hK K hHeld
        try simp only [sA, sB, sC]
        obtain ⟨v, hv0, hcell⟩ := row_cell HB2.out hk
        refine tk 10 88 (.pointer (some ⟨X0.heap.size, k, none⟩)) HS2.out rfl rfl ?_ ?_
        · intro w2; go_simp; intro h8; omega
        try simp only [sA, sB, sC]
        refine wpAnyL_ready (rs := [11]) (by kernel_rfl) (by simp) ?_
        refine AllReadyL.cons rfl (fun K hK => ?_) AllReadyL.nil
        go_simp
        refine hK.out _ _ (trivial) (fun hHeld => ?_)
        have HS3 := Lib.hid hHeld
        clear hK K hHeld
        try simp only [sA, sB, sC]
        refine tj 12 90 (.agg #[.int .i64 1, .int .i64 0, .int .i64 v, .string ⟨#[]⟩, .slice none 0 0]) HS3.out rfl rfl ?_
        try simp only [sA, sB, sC]
        refine wpAnyL_ready (rs := [13]) (by kernel_rfl) (by simp) ?_
        refine AllReadyL.last rfl (by kernel_rfl) (fun K hK => ?_)
        have ub0 : X2.cell? ⟨w.heap.size, 0, none⟩ = some (.slice Av nv cv) := HN2.out.box.cell 0; have ub1 : X2.cell? ⟨w.heap.size, 1, none⟩ = some (.slice Aa na ca) := HN2.out.box.cell 1; have ub2 : X2.cell? ⟨w.heap.size, 2, none⟩ = some (.slice Af nf cf) := HN2.out.box.cell 2; have ub3 : X2.cell? ⟨w.heap.size, 3, none⟩ = some (.bool false) := HN2.out.box.cell 3; have ub4 : X2.cell? ⟨w.heap.size, 4, none⟩ = some (.bool loop) := HN2.out.box.cell 4; have ur0 : X2.cell? ⟨w.heap.size + 1, 0, none⟩ = some (.int .i64 0) := HN2.out.res.cell 0; have ur1 : X2.cell? ⟨w.heap.size + 1, 1, none⟩ = some (.int .i64 0) := HN2.out.res.cell 1; have ur2 : X2.cell? ⟨w.heap.size + 1, 2, none⟩ = some (.int .i64 0) := HN2.out.res.cell 2; have ur3 : X2.cell? ⟨w.heap.size + 1, 3, none⟩ = some (.string ⟨#[]⟩) := HN2.out.res.cell 3; have ur4 : X2.cell? ⟨w.heap.size + 1, 4, none⟩ = some (.slice none 0 0) := HN2.out.res.cell 4; have uz0 : X2.frozen? ⟨w.heap.size + 1, 0, none⟩ = false := HN2.out.res.frozen 0; have uz1 : X2.frozen? ⟨w.heap.size + 1, 1, none⟩ = false := HN2.out.res.frozen 1; have uz2 : X2.frozen? ⟨w.heap.size + 1, 2, none⟩ = false := HN2.out.res.frozen 2; have uz3 : X2.frozen? ⟨w.heap.size + 1, 3, none⟩ = false := HN2.out.res.frozen 3; have uz4 : X2.frozen? ⟨w.heap.size + 1, 4, none⟩ = false := HN2.out.res.frozen 4; have ult : w.heap.size + 1 < X2.heap.size := HN2.out.lt
        go_simp
        refine hK.out _ _ ?_
        clear hK K
        try simp only [sA, sB, sC]
        refine wpAnyL_done (by kernel_rfl) ?_ _
        go_wp2
        have hend := expr_end HN2.out ⟨1, 0, v, ⟨#[]⟩, []⟩ (.slice none 0 0) (made_num (c := c) hm hv0) (SlR.nil_ _ _ _ _)
        refine bodyPost_ret (v := .agg #[.int .i64 (⟨1, 0, v, ⟨#[]⟩, []⟩ : LExpr).kind, .int .i64 (⟨1, 0, v, ⟨#[]⟩, []⟩ : LExpr).op, .int .i64 (⟨1, 0, v, ⟨#[]⟩, []⟩ : LExpr).n, .string (⟨1, 0, v, ⟨#[]⟩, []⟩ : LExpr).name, .slice none 0 0]) (results_cell_row (p := 6) (ty := 42) (by kernel_rfl) _ _ (w.heap.size + 1) 42 _ (0, 0) _ rfl hend.1 Tryz.underlying42 rfl (by kernel_rfl)) rfl hend.2
      · go_simp
        refine (next_any _ sb 8 (by omega) HN0.out.src).mono ?_
        rintro e X1 ⟨⟨k, hk, rfl⟩, hs, hg⟩
        have HN1 := Lib.hid (HN0.out.step hg hs)
        clear hs hg
        refine hK.out _ _ (trivial) (fun hHeld => ?_)
        have HS1 := Lib.hid hHeld
        clear hK K hHeld
        try simp only [sA, sB, sC]
        refine wpAnyL_ready (rs := [7]) (by kernel_rfl) (by simp) ?_
        refine AllReadyL.cons rfl (fun K hK => ?_) AllReadyL.nil
        go_simp
        obtain ⟨X2, hXX⟩ : ∃ X, X1.alloc (.cells #[.int .i64 0, .int .i64 1, .int .i64 2, .int .i64 3, .int .i64 (kn : Int), .int .i64 (q : Int), .int .i64 (z : Int), .int .i64 9223372036854775807] 3) = X := ⟨_, rfl⟩
        rw [hXX]
        have HN2 : Hid (StE w sb X2 nv na nf Av Aa Af cv ca cf loop) := Lib.hid (by rw [← hXX]; exact HN1.out.below (below1 _ _))
        have HB2 : Hid (Blk X2 X1.heap.size 3 #[.int .i64 0, .int .i64 1, .int .i64 2, .int .i64 3, .int .i64 (kn : Int), .int .i64 (q : Int), .int .i64 (z : Int), .int .i64 9223372036854775807]) := Lib.hid (by rw [← hXX]; exact Blk.new_at _ _ _ rfl)
        have hgl : X1.heap.size < X2.heap.size := by rw [← hXX]; simp
        clear hXX
        refine hK.out _ _ (trivial) (fun hHeld => ?_)
        have HS2 := Lib.hid hHeld
        clear hK K hHeld
        try simp only [sA, sB, sC]
        obtain ⟨v, hv0, hcell⟩ := row_cell HB2.out hk
        refine tk 10 88 (.pointer (some ⟨X1.heap.size, k, none⟩)) HS2.out rfl rfl ?_ ?_
        · intro w2; go_simp; intro h8; omega
        try simp only [sA, sB, sC]
        refine wpAnyL_ready (rs := [11]) (by kernel_rfl) (by simp) ?_
        refine AllReadyL.cons rfl (fun K hK => ?_) AllReadyL.nil
        go_simp
        refine hK.out _ _ (trivial) (fun hHeld => ?_)
        have HS3 := Lib.hid hHeld
        clear hK K hHeld
        try simp only [sA, sB, sC]
        refine tj 12 90 (.agg #[.int .i64 1, .int .i64 0, .int .i64 v, .string ⟨#[]⟩, .slice none 0 0]) HS3.out rfl rfl ?_
        try simp only [sA, sB, sC]
        refine wpAnyL_ready (rs := [13]) (by kernel_rfl) (by simp) ?_
        refine AllReadyL.last rfl (by kernel_rfl) (fun K hK => ?_)
        have ub0 : X2.cell? ⟨w.heap.size, 0, none⟩ = some (.slice Av nv cv) := HN2.out.box.cell 0; have ub1 : X2.cell? ⟨w.heap.size, 1, none⟩ = some (.slice Aa na ca) := HN2.out.box.cell 1; have ub2 : X2.cell? ⟨w.heap.size, 2, none⟩ = some (.slice Af nf cf) := HN2.out.box.cell 2; have ub3 : X2.cell? ⟨w.heap.size, 3, none⟩ = some (.bool false) := HN2.out.box.cell 3; have ub4 : X2.cell? ⟨w.heap.size, 4, none⟩ = some (.bool loop) := HN2.out.box.cell 4; have ur0 : X2.cell? ⟨w.heap.size + 1, 0, none⟩ = some (.int .i64 0) := HN2.out.res.cell 0; have ur1 : X2.cell? ⟨w.heap.size + 1, 1, none⟩ = some (.int .i64 0) := HN2.out.res.cell 1; have ur2 : X2.cell? ⟨w.heap.size + 1, 2, none⟩ = some (.int .i64 0) := HN2.out.res.cell 2; have ur3 : X2.cell? ⟨w.heap.size + 1, 3, none⟩ = some (.string ⟨#[]⟩) := HN2.out.res.cell 3; have ur4 : X2.cell? ⟨w.heap.size + 1, 4, none⟩ = some (.slice none 0 0) := HN2.out.res.cell 4; have uz0 : X2.frozen? ⟨w.heap.size + 1, 0, none⟩ = false := HN2.out.res.frozen 0; have uz1 : X2.frozen? ⟨w.heap.size + 1, 1, none⟩ = false := HN2.out.res.frozen 1; have uz2 : X2.frozen? ⟨w.heap.size + 1, 2, none⟩ = false := HN2.out.res.frozen 2; have uz3 : X2.frozen? ⟨w.heap.size + 1, 3, none⟩ = false := HN2.out.res.frozen 3; have uz4 : X2.frozen? ⟨w.heap.size + 1, 4, none⟩ = false := HN2.out.res.frozen 4; have ult : w.heap.size + 1 < X2.heap.size := HN2.out.lt
        go_simp
        refine hK.out _ _ ?_
        clear hK K
        try simp only [sA, sB, sC]
        refine wpAnyL_done (by kernel_rfl) ?_ _
        go_wp2
        have hend := expr_end HN2.out ⟨1, 0, v, ⟨#[]⟩, []⟩ (.slice none 0 0) (made_num (c := c) hm hv0) (SlR.nil_ _ _ _ _)
        refine bodyPost_ret (v := .agg #[.int .i64 (⟨1, 0, v, ⟨#[]⟩, []⟩ : LExpr).kind, .int .i64 (⟨1, 0, v, ⟨#[]⟩, []⟩ : LExpr).op, .int .i64 (⟨1, 0, v, ⟨#[]⟩, []⟩ : LExpr).n, .string (⟨1, 0, v, ⟨#[]⟩, []⟩ : LExpr).name, .slice none 0 0]) (results_cell_row (p := 6) (ty := 42) (by kernel_rfl) _ _ (w.heap.size + 1) 42 _ (0, 0) _ rfl hend.1 Tryz.underlying42 rfl (by kernel_rfl)) rfl hend.2
  case inr.inr.inr.inl =>
    go_upto_if 64 with (go_at_call 21; refine (next_any _ sb 3 (by omega) HS1.out.src).mono ?_; rintro e w2 ⟨⟨r, hr, rfl⟩, hs1, hg1⟩; have HS2 := Lib.hid (HS1.out.step hg1 hs1); clear hs1 hg1; have ob0 : w2.cell? ⟨w.heap.size, 0, none⟩ = some (.slice Av nv cv) := HS2.out.box.cell 0; have ob1 : w2.cell? ⟨w.heap.size, 1, none⟩ = some (.slice Aa na ca) := HS2.out.box.cell 1; have ob2 : w2.cell? ⟨w.heap.size, 2, none⟩ = some (.slice Af nf cf) := HS2.out.box.cell 2; have ob3 : w2.cell? ⟨w.heap.size, 3, none⟩ = some (.bool false) := HS2.out.box.cell 3; have ob4 : w2.cell? ⟨w.heap.size, 4, none⟩ = some (.bool loop) := HS2.out.box.cell 4; have or0 : w2.cell? ⟨w.heap.size + 1, 0, none⟩ = some (.int .i64 0) := HS2.out.res.cell 0; have or1 : w2.cell? ⟨w.heap.size + 1, 1, none⟩ = some (.int .i64 0) := HS2.out.res.cell 1; have or2 : w2.cell? ⟨w.heap.size + 1, 2, none⟩ = some (.int .i64 0) := HS2.out.res.cell 2; have or3 : w2.cell? ⟨w.heap.size + 1, 3, none⟩ = some (.string ⟨#[]⟩) := HS2.out.res.cell 3; have or4 : w2.cell? ⟨w.heap.size + 1, 4, none⟩ = some (.slice none 0 0) := HS2.out.res.cell 4; have oz0 : w2.frozen? ⟨w.heap.size + 1, 0, none⟩ = false := HS2.out.res.frozen 0; have oz1 : w2.frozen? ⟨w.heap.size + 1, 1, none⟩ = false := HS2.out.res.frozen 1; have oz2 : w2.frozen? ⟨w.heap.size + 1, 2, none⟩ = false := HS2.out.res.frozen 2; have oz3 : w2.frozen? ⟨w.heap.size + 1, 3, none⟩ = false := HS2.out.res.frozen 3; have oz4 : w2.frozen? ⟨w.heap.size + 1, 4, none⟩ = false := HS2.out.res.frozen 4; have olt : w.heap.size + 1 < w2.heap.size := HS2.out.lt)
    clear ab0 ab1 ab2 ab3 ab4 ar0 ar1 ar2 ar3 ar4 az0 az1 az2 az3 az4 alt
    rcases (by omega : r = 0 ∨ r = 1 ∨ r = 2) with rfl | rfl | rfl
    case inl =>
      go_upto_region 14 with (go_at_call 21; refine (next_any _ sb 1000 (by omega) HS2.out.src).mono ?_; rintro e wn ⟨⟨kn, hkn, rfl⟩, hs1, hg1⟩; have HN := Lib.hid (HS2.out.step hg1 hs1); clear hs1 hg1; have nb0 : wn.cell? ⟨w.heap.size, 0, none⟩ = some (.slice Av nv cv) := HN.out.box.cell 0; have nb1 : wn.cell? ⟨w.heap.size, 1, none⟩ = some (.slice Aa na ca) := HN.out.box.cell 1; have nb2 : wn.cell? ⟨w.heap.size, 2, none⟩ = some (.slice Af nf cf) := HN.out.box.cell 2; have nb3 : wn.cell? ⟨w.heap.size, 3, none⟩ = some (.bool false) := HN.out.box.cell 3; have nb4 : wn.cell? ⟨w.heap.size, 4, none⟩ = some (.bool loop) := HN.out.box.cell 4; have nr0 : wn.cell? ⟨w.heap.size + 1, 0, none⟩ = some (.int .i64 0) := HN.out.res.cell 0; have nr1 : wn.cell? ⟨w.heap.size + 1, 1, none⟩ = some (.int .i64 0) := HN.out.res.cell 1; have nr2 : wn.cell? ⟨w.heap.size + 1, 2, none⟩ = some (.int .i64 0) := HN.out.res.cell 2; have nr3 : wn.cell? ⟨w.heap.size + 1, 3, none⟩ = some (.string ⟨#[]⟩) := HN.out.res.cell 3; have nr4 : wn.cell? ⟨w.heap.size + 1, 4, none⟩ = some (.slice none 0 0) := HN.out.res.cell 4; have nz0 : wn.frozen? ⟨w.heap.size + 1, 0, none⟩ = false := HN.out.res.frozen 0; have nz1 : wn.frozen? ⟨w.heap.size + 1, 1, none⟩ = false := HN.out.res.frozen 1; have nz2 : wn.frozen? ⟨w.heap.size + 1, 2, none⟩ = false := HN.out.res.frozen 2; have nz3 : wn.frozen? ⟨w.heap.size + 1, 3, none⟩ = false := HN.out.res.frozen 3; have nz4 : wn.frozen? ⟨w.heap.size + 1, 4, none⟩ = false := HN.out.res.frozen 4; have nlt : w.heap.size + 1 < wn.heap.size := HN.out.lt)
      obtain ⟨q, hq⟩ : ∃ q, q = kn * kn := ⟨_, rfl⟩
      have hq2 : q < 1000000 := by rw [hq]; exact Nat.lt_of_le_of_lt (Nat.mul_le_mul (show kn ≤ 999 by omega) (show kn ≤ 999 by omega)) (by decide)
      obtain ⟨z, hz⟩ : ∃ z, z = 2 ^ (kn % 63) := ⟨_, rfl⟩
      have hz2 : z < 9223372036854775808 := by rw [hz]; exact Nat.lt_of_le_of_lt (Nat.pow_le_pow_right (by decide) (show kn % 63 ≤ 62 by omega)) (by decide)
      have HQ := Lib.hid hq; have HZ := Lib.hid hz; clear hq hz
      have HN0 : Hid (StE w sb wn.drew nv na nf Av Aa Af cv ca cf loop) := Lib.hid (HN.out.below (Below.refl _ _).drew)
      refine wp_region_L (by kernel_rfl) 13 (fun _ => True) (trivial) (fun hHeld => ?_)
      have HS0 := Lib.hid hHeld
      clear hHeld
      change wpAnyL _ _ _ _ _ 13 14 (Array.replicate 14 false) _ _
      obtain ⟨X0, hX0⟩ : ∃ X0, wn.drew = X0 := ⟨_, rfl⟩
      rw [hX0] at HN0 ⊢
      clear hX0
      refine tj 0 78 (.int .i64 (kn : Int)) HS0.out rfl rfl ?_
      try simp only [sA, sB, sC]
      refine tj 1 79 (.int .i64 (kn : Int)) HS0.out rfl rfl ?_
      try simp only [sA, sB, sC]
      refine tj 2 80 (.int .i64 (kn : Int)) HS0.out rfl rfl ?_
      try simp only [sA, sB, sC]
      refine tk 3 81 (.int .i64 (q : Int)) HS0.out rfl rfl ?_ ?_
      · intro w2; go_simp; rw [show (kn : Int) * kn = (q : Int) by rw [HQ.out, Int.natCast_mul]]; rw [IntKind.wrap_i64]; omega
      try simp only [sA, sB, sC]
      refine tj 4 82 (.int .i64 (kn : Int)) HS0.out rfl rfl ?_
      try simp only [sA, sB, sC]
      refine tk 5 83 (.int .i64 ((kn % 63 : Nat) : Int)) HS0.out rfl rfl ?_ ?_
      · intro w2; go_simp; exact Int.tmod_eq_emod_of_nonneg (by omega)
      try simp only [sA, sB, sC]
      refine tk 6 84 (.int .i64 (z : Int)) HS0.out rfl rfl ?_ ?_
      · intro w2; go_simp; rw [show ((kn : Int) % 63).toNat = kn % 63 by omega, show (2 : Int) ^ (kn % 63) = (z : Int) by rw [HZ.out]; exact (Int.natCast_pow 2 _).symm]; rw [IntKind.wrap_i64]; omega
      try simp only [sA, sB, sC]
      refine tj 8 86 (.pointer (some ⟨sb, 0, none⟩)) HS0.out rfl rfl ?_
      try simp only [sA, sB, sC]
      refine wpAnyL_ready (rs := [7, 9]) (by kernel_rfl) (by simp) ?_
      refine AllReadyL.cons rfl (fun K hK => ?_) (AllReadyL.cons rfl (fun K hK => ?_) AllReadyL.nil)
      · go_simp
        obtain ⟨X1, hXX⟩ : ∃ X, X0.alloc (.cells #[.int .i64 0, .int .i64 1, .int .i64 2, .int .i64 3, .int .i64 (kn : Int), .int .i64 (q : Int), .int .i64 (z : Int), .int .i64 9223372036854775807] 3) = X := ⟨_, rfl⟩
        rw [hXX]
        have HN1 : Hid (StE w sb X1 nv na nf Av Aa Af cv ca cf loop) := Lib.hid (by rw [← hXX]; exact HN0.out.below (below1 _ _))
        have HB1 : Hid (Blk X1 X0.heap.size 3 #[.int .i64 0, .int .i64 1, .int .i64 2, .int .i64 3, .int .i64 (kn : Int), .int .i64 (q : Int), .int .i64 (z : Int), .int .i64 9223372036854775807]) := Lib.hid (by rw [← hXX]; exact Blk.new_at _ _ _ rfl)
        have hgl1 : X0.heap.size < X1.heap.size := by rw [← hXX]; simp
        have HGL := Lib.hid hgl1
        clear hgl1
        clear hXX
        refine hK.out _ _ (trivial) (fun hHeld => ?_)
        have HS1 := Lib.hid hHeld
        clear hK K hHeld
        try simp only [sA, sB, sC]
        refine wpAnyL_ready (rs := [9]) (by kernel_rfl) (by simp) ?_
        refine AllReadyL.cons rfl (fun K hK => ?_) AllReadyL.nil
        go_simp
        refine (next_any _ sb 8 (by omega) HN1.out.src).mono ?_
        rintro e X2 ⟨⟨k, hk, rfl⟩, hs, hg⟩
        have HN2 := Lib.hid (HN1.out.step hg hs)
        have HB2 := Lib.hid (HB1.out.grown hg (fun e => by have := Option.some.inj e; have := HSB.out; have := HN0.out.lt; omega))
        have hgl : X0.heap.size < X2.heap.size := Nat.lt_of_lt_of_le HGL.out hg.size
        clear hs hg
        refine hK.out _ _ (trivial) (fun hHeld => ?_)
        have HS2 := Lib.hid hHeld
        clear hK K hHeld
        try simp only [sA, sB, sC]
        obtain ⟨v, hv0, hcell⟩ := row_cell HB2.out hk
        refine tk 10 88 (.pointer (some ⟨X0.heap.size, k, none⟩)) HS2.out rfl rfl ?_ ?_
        · intro w2; go_simp; intro h8; omega
        try simp only [sA, sB, sC]
        refine wpAnyL_ready (rs := [11]) (by kernel_rfl) (by simp) ?_
        refine AllReadyL.cons rfl (fun K hK => ?_) AllReadyL.nil
        go_simp
        refine hK.out _ _ (trivial) (fun hHeld => ?_)
        have HS3 := Lib.hid hHeld
        clear hK K hHeld
        try simp only [sA, sB, sC]
        refine tj 12 90 (.agg #[.int .i64 1, .int .i64 0, .int .i64 v, .string ⟨#[]⟩, .slice none 0 0]) HS3.out rfl rfl ?_
        try simp only [sA, sB, sC]
        refine wpAnyL_ready (rs := [13]) (by kernel_rfl) (by simp) ?_
        refine AllReadyL.last rfl (by kernel_rfl) (fun K hK => ?_)
        have ub0 : X2.cell? ⟨w.heap.size, 0, none⟩ = some (.slice Av nv cv) := HN2.out.box.cell 0; have ub1 : X2.cell? ⟨w.heap.size, 1, none⟩ = some (.slice Aa na ca) := HN2.out.box.cell 1; have ub2 : X2.cell? ⟨w.heap.size, 2, none⟩ = some (.slice Af nf cf) := HN2.out.box.cell 2; have ub3 : X2.cell? ⟨w.heap.size, 3, none⟩ = some (.bool false) := HN2.out.box.cell 3; have ub4 : X2.cell? ⟨w.heap.size, 4, none⟩ = some (.bool loop) := HN2.out.box.cell 4; have ur0 : X2.cell? ⟨w.heap.size + 1, 0, none⟩ = some (.int .i64 0) := HN2.out.res.cell 0; have ur1 : X2.cell? ⟨w.heap.size + 1, 1, none⟩ = some (.int .i64 0) := HN2.out.res.cell 1; have ur2 : X2.cell? ⟨w.heap.size + 1, 2, none⟩ = some (.int .i64 0) := HN2.out.res.cell 2; have ur3 : X2.cell? ⟨w.heap.size + 1, 3, none⟩ = some (.string ⟨#[]⟩) := HN2.out.res.cell 3; have ur4 : X2.cell? ⟨w.heap.size + 1, 4, none⟩ = some (.slice none 0 0) := HN2.out.res.cell 4; have uz0 : X2.frozen? ⟨w.heap.size + 1, 0, none⟩ = false := HN2.out.res.frozen 0; have uz1 : X2.frozen? ⟨w.heap.size + 1, 1, none⟩ = false := HN2.out.res.frozen 1; have uz2 : X2.frozen? ⟨w.heap.size + 1, 2, none⟩ = false := HN2.out.res.frozen 2; have uz3 : X2.frozen? ⟨w.heap.size + 1, 3, none⟩ = false := HN2.out.res.frozen 3; have uz4 : X2.frozen? ⟨w.heap.size + 1, 4, none⟩ = false := HN2.out.res.frozen 4; have ult : w.heap.size + 1 < X2.heap.size := HN2.out.lt
        go_simp
        refine hK.out _ _ ?_
        clear hK K
        try simp only [sA, sB, sC]
        refine wpAnyL_done (by kernel_rfl) ?_ _
        go_wp2
        have hend := expr_end HN2.out ⟨1, 0, v, ⟨#[]⟩, []⟩ (.slice none 0 0) (made_num (c := c) hm hv0) (SlR.nil_ _ _ _ _)
        refine bodyPost_ret (v := .agg #[.int .i64 (⟨1, 0, v, ⟨#[]⟩, []⟩ : LExpr).kind, .int .i64 (⟨1, 0, v, ⟨#[]⟩, []⟩ : LExpr).op, .int .i64 (⟨1, 0, v, ⟨#[]⟩, []⟩ : LExpr).n, .string (⟨1, 0, v, ⟨#[]⟩, []⟩ : LExpr).name, .slice none 0 0]) (results_cell_row (p := 6) (ty := 42) (by kernel_rfl) _ _ (w.heap.size + 1) 42 _ (0, 0) _ rfl hend.1 Tryz.underlying42 rfl (by kernel_rfl)) rfl hend.2
      · go_simp
        refine (next_any _ sb 8 (by omega) HN0.out.src).mono ?_
        rintro e X1 ⟨⟨k, hk, rfl⟩, hs, hg⟩
        have HN1 := Lib.hid (HN0.out.step hg hs)
        clear hs hg
        refine hK.out _ _ (trivial) (fun hHeld => ?_)
        have HS1 := Lib.hid hHeld
        clear hK K hHeld
        try simp only [sA, sB, sC]
        refine wpAnyL_ready (rs := [7]) (by kernel_rfl) (by simp) ?_
        refine AllReadyL.cons rfl (fun K hK => ?_) AllReadyL.nil
        go_simp
        obtain ⟨X2, hXX⟩ : ∃ X, X1.alloc (.cells #[.int .i64 0, .int .i64 1, .int .i64 2, .int .i64 3, .int .i64 (kn : Int), .int .i64 (q : Int), .int .i64 (z : Int), .int .i64 9223372036854775807] 3) = X := ⟨_, rfl⟩
        rw [hXX]
        have HN2 : Hid (StE w sb X2 nv na nf Av Aa Af cv ca cf loop) := Lib.hid (by rw [← hXX]; exact HN1.out.below (below1 _ _))
        have HB2 : Hid (Blk X2 X1.heap.size 3 #[.int .i64 0, .int .i64 1, .int .i64 2, .int .i64 3, .int .i64 (kn : Int), .int .i64 (q : Int), .int .i64 (z : Int), .int .i64 9223372036854775807]) := Lib.hid (by rw [← hXX]; exact Blk.new_at _ _ _ rfl)
        have hgl : X1.heap.size < X2.heap.size := by rw [← hXX]; simp
        clear hXX
        refine hK.out _ _ (trivial) (fun hHeld => ?_)
        have HS2 := Lib.hid hHeld
        clear hK K hHeld
        try simp only [sA, sB, sC]
        obtain ⟨v, hv0, hcell⟩ := row_cell HB2.out hk
        refine tk 10 88 (.pointer (some ⟨X1.heap.size, k, none⟩)) HS2.out rfl rfl ?_ ?_
        · intro w2; go_simp; intro h8; omega
        try simp only [sA, sB, sC]
        refine wpAnyL_ready (rs := [11]) (by kernel_rfl) (by simp) ?_
        refine AllReadyL.cons rfl (fun K hK => ?_) AllReadyL.nil
        go_simp
        refine hK.out _ _ (trivial) (fun hHeld => ?_)
        have HS3 := Lib.hid hHeld
        clear hK K hHeld
        try simp only [sA, sB, sC]
        refine tj 12 90 (.agg #[.int .i64 1, .int .i64 0, .int .i64 v, .string ⟨#[]⟩, .slice none 0 0]) HS3.out rfl rfl ?_
        try simp only [sA, sB, sC]
        refine wpAnyL_ready (rs := [13]) (by kernel_rfl) (by simp) ?_
        refine AllReadyL.last rfl (by kernel_rfl) (fun K hK => ?_)
        have ub0 : X2.cell? ⟨w.heap.size, 0, none⟩ = some (.slice Av nv cv) := HN2.out.box.cell 0; have ub1 : X2.cell? ⟨w.heap.size, 1, none⟩ = some (.slice Aa na ca) := HN2.out.box.cell 1; have ub2 : X2.cell? ⟨w.heap.size, 2, none⟩ = some (.slice Af nf cf) := HN2.out.box.cell 2; have ub3 : X2.cell? ⟨w.heap.size, 3, none⟩ = some (.bool false) := HN2.out.box.cell 3; have ub4 : X2.cell? ⟨w.heap.size, 4, none⟩ = some (.bool loop) := HN2.out.box.cell 4; have ur0 : X2.cell? ⟨w.heap.size + 1, 0, none⟩ = some (.int .i64 0) := HN2.out.res.cell 0; have ur1 : X2.cell? ⟨w.heap.size + 1, 1, none⟩ = some (.int .i64 0) := HN2.out.res.cell 1; have ur2 : X2.cell? ⟨w.heap.size + 1, 2, none⟩ = some (.int .i64 0) := HN2.out.res.cell 2; have ur3 : X2.cell? ⟨w.heap.size + 1, 3, none⟩ = some (.string ⟨#[]⟩) := HN2.out.res.cell 3; have ur4 : X2.cell? ⟨w.heap.size + 1, 4, none⟩ = some (.slice none 0 0) := HN2.out.res.cell 4; have uz0 : X2.frozen? ⟨w.heap.size + 1, 0, none⟩ = false := HN2.out.res.frozen 0; have uz1 : X2.frozen? ⟨w.heap.size + 1, 1, none⟩ = false := HN2.out.res.frozen 1; have uz2 : X2.frozen? ⟨w.heap.size + 1, 2, none⟩ = false := HN2.out.res.frozen 2; have uz3 : X2.frozen? ⟨w.heap.size + 1, 3, none⟩ = false := HN2.out.res.frozen 3; have uz4 : X2.frozen? ⟨w.heap.size + 1, 4, none⟩ = false := HN2.out.res.frozen 4; have ult : w.heap.size + 1 < X2.heap.size := HN2.out.lt
        go_simp
        refine hK.out _ _ ?_
        clear hK K
        try simp only [sA, sB, sC]
        refine wpAnyL_done (by kernel_rfl) ?_ _
        go_wp2
        have hend := expr_end HN2.out ⟨1, 0, v, ⟨#[]⟩, []⟩ (.slice none 0 0) (made_num (c := c) hm hv0) (SlR.nil_ _ _ _ _)
        refine bodyPost_ret (v := .agg #[.int .i64 (⟨1, 0, v, ⟨#[]⟩, []⟩ : LExpr).kind, .int .i64 (⟨1, 0, v, ⟨#[]⟩, []⟩ : LExpr).op, .int .i64 (⟨1, 0, v, ⟨#[]⟩, []⟩ : LExpr).n, .string (⟨1, 0, v, ⟨#[]⟩, []⟩ : LExpr).name, .slice none 0 0]) (results_cell_row (p := 6) (ty := 42) (by kernel_rfl) _ _ (w.heap.size + 1) 42 _ (0, 0) _ rfl hend.1 Tryz.underlying42 rfl (by kernel_rfl)) rfl hend.2
    case inr.inl =>
      go_upto_region 14 with (go_at_call 21; refine (next_any _ sb 1000 (by omega) HS2.out.src).mono ?_; rintro e wn ⟨⟨kn, hkn, rfl⟩, hs1, hg1⟩; have HN := Lib.hid (HS2.out.step hg1 hs1); clear hs1 hg1; have nb0 : wn.cell? ⟨w.heap.size, 0, none⟩ = some (.slice Av nv cv) := HN.out.box.cell 0; have nb1 : wn.cell? ⟨w.heap.size, 1, none⟩ = some (.slice Aa na ca) := HN.out.box.cell 1; have nb2 : wn.cell? ⟨w.heap.size, 2, none⟩ = some (.slice Af nf cf) := HN.out.box.cell 2; have nb3 : wn.cell? ⟨w.heap.size, 3, none⟩ = some (.bool false) := HN.out.box.cell 3; have nb4 : wn.cell? ⟨w.heap.size, 4, none⟩ = some (.bool loop) := HN.out.box.cell 4; have nr0 : wn.cell? ⟨w.heap.size + 1, 0, none⟩ = some (.int .i64 0) := HN.out.res.cell 0; have nr1 : wn.cell? ⟨w.heap.size + 1, 1, none⟩ = some (.int .i64 0) := HN.out.res.cell 1; have nr2 : wn.cell? ⟨w.heap.size + 1, 2, none⟩ = some (.int .i64 0) := HN.out.res.cell 2; have nr3 : wn.cell? ⟨w.heap.size + 1, 3, none⟩ = some (.string ⟨#[]⟩) := HN.out.res.cell 3; have nr4 : wn.cell? ⟨w.heap.size + 1, 4, none⟩ = some (.slice none 0 0) := HN.out.res.cell 4; have nz0 : wn.frozen? ⟨w.heap.size + 1, 0, none⟩ = false := HN.out.res.frozen 0; have nz1 : wn.frozen? ⟨w.heap.size + 1, 1, none⟩ = false := HN.out.res.frozen 1; have nz2 : wn.frozen? ⟨w.heap.size + 1, 2, none⟩ = false := HN.out.res.frozen 2; have nz3 : wn.frozen? ⟨w.heap.size + 1, 3, none⟩ = false := HN.out.res.frozen 3; have nz4 : wn.frozen? ⟨w.heap.size + 1, 4, none⟩ = false := HN.out.res.frozen 4; have nlt : w.heap.size + 1 < wn.heap.size := HN.out.lt)
      obtain ⟨q, hq⟩ : ∃ q, q = kn * kn := ⟨_, rfl⟩
      have hq2 : q < 1000000 := by rw [hq]; exact Nat.lt_of_le_of_lt (Nat.mul_le_mul (show kn ≤ 999 by omega) (show kn ≤ 999 by omega)) (by decide)
      obtain ⟨z, hz⟩ : ∃ z, z = 2 ^ (kn % 63) := ⟨_, rfl⟩
      have hz2 : z < 9223372036854775808 := by rw [hz]; exact Nat.lt_of_le_of_lt (Nat.pow_le_pow_right (by decide) (show kn % 63 ≤ 62 by omega)) (by decide)
      have HQ := Lib.hid hq; have HZ := Lib.hid hz; clear hq hz
      have HN0 : Hid (StE w sb wn.drew nv na nf Av Aa Af cv ca cf loop) := Lib.hid (HN.out.below (Below.refl _ _).drew)
      refine wp_region_L (by kernel_rfl) 13 (fun _ => True) (trivial) (fun hHeld => ?_)
      have HS0 := Lib.hid hHeld
      clear hHeld
      change wpAnyL _ _ _ _ _ 13 14 (Array.replicate 14 false) _ _
      obtain ⟨X0, hX0⟩ : ∃ X0, wn.drew = X0 := ⟨_, rfl⟩
      rw [hX0] at HN0 ⊢
      clear hX0
      refine tj 0 78 (.int .i64 (kn : Int)) HS0.out rfl rfl ?_
      try simp only [sA, sB, sC]
      refine tj 1 79 (.int .i64 (kn : Int)) HS0.out rfl rfl ?_
      try simp only [sA, sB, sC]
      refine tj 2 80 (.int .i64 (kn : Int)) HS0.out rfl rfl ?_
      try simp only [sA, sB, sC]
      refine tk 3 81 (.int .i64 (q : Int)) HS0.out rfl rfl ?_ ?_
      · intro w2; go_simp; rw [show (kn : Int) * kn = (q : Int) by rw [HQ.out, Int.natCast_mul]]; rw [IntKind.wrap_i64]; omega
      try simp only [sA, sB, sC]
      refine tj 4 82 (.int .i64 (kn : Int)) HS0.out rfl rfl ?_
      try simp only [sA, sB, sC]
      refine tk 5 83 (.int .i64 ((kn % 63 : Nat) : Int)) HS0.out rfl rfl ?_ ?_
      · intro w2; go_simp; exact Int.tmod_eq_emod_of_nonneg (by omega)
      try simp only [sA, sB, sC]
      refine tk 6 84 (.int .i64 (z : Int)) HS0.out rfl rfl ?_ ?_
      · intro w2; go_simp; rw [show ((kn : Int) % 63).toNat = kn % 63 by omega, show (2 : Int) ^ (kn % 63) = (z : Int) by rw [HZ.out]; exact (Int.natCast_pow 2 _).symm]; rw [IntKind.wrap_i64]; omega
      try simp only [sA, sB, sC]
      refine tj 8 86 (.pointer (some ⟨sb, 0, none⟩)) HS0.out rfl rfl ?_
      try simp only [sA, sB, sC]
      refine wpAnyL_ready (rs := [7, 9]) (by kernel_rfl) (by simp) ?_
      refine AllReadyL.cons rfl (fun K hK => ?_) (AllReadyL.cons rfl (fun K hK => ?_) AllReadyL.nil)
      · go_simp
        obtain ⟨X1, hXX⟩ : ∃ X, X0.alloc (.cells #[.int .i64 0, .int .i64 1, .int .i64 2, .int .i64 3, .int .i64 (kn : Int), .int .i64 (q : Int), .int .i64 (z : Int), .int .i64 9223372036854775807] 3) = X := ⟨_, rfl⟩
        rw [hXX]
        have HN1 : Hid (StE w sb X1 nv na nf Av Aa Af cv ca cf loop) := Lib.hid (by rw [← hXX]; exact HN0.out.below (below1 _ _))
        have HB1 : Hid (Blk X1 X0.heap.size 3 #[.int .i64 0, .int .i64 1, .int .i64 2, .int .i64 3, .int .i64 (kn : Int), .int .i64 (q : Int), .int .i64 (z : Int), .int .i64 9223372036854775807]) := Lib.hid (by rw [← hXX]; exact Blk.new_at _ _ _ rfl)
        have hgl1 : X0.heap.size < X1.heap.size := by rw [← hXX]; simp
        have HGL := Lib.hid hgl1
        clear hgl1
        clear hXX
        refine hK.out _ _ (trivial) (fun hHeld => ?_)
        have HS1 := Lib.hid hHeld
        clear hK K hHeld
        try simp only [sA, sB, sC]
        refine wpAnyL_ready (rs := [9]) (by kernel_rfl) (by simp) ?_
        refine AllReadyL.cons rfl (fun K hK => ?_) AllReadyL.nil
        go_simp
        refine (next_any _ sb 8 (by omega) HN1.out.src).mono ?_
        rintro e X2 ⟨⟨k, hk, rfl⟩, hs, hg⟩
        have HN2 := Lib.hid (HN1.out.step hg hs)
        have HB2 := Lib.hid (HB1.out.grown hg (fun e => by have := Option.some.inj e; have := HSB.out; have := HN0.out.lt; omega))
        have hgl : X0.heap.size < X2.heap.size := Nat.lt_of_lt_of_le HGL.out hg.size
        clear hs hg
        refine hK.out _ _ (trivial) (fun hHeld => ?_)
        have HS2 := Lib.hid hHeld
        clear hK K hHeld
        try simp only [sA, sB, sC]
        obtain ⟨v, hv0, hcell⟩ := row_cell HB2.out hk
        refine tk 10 88 (.pointer (some ⟨X0.heap.size, k, none⟩)) HS2.out rfl rfl ?_ ?_
        · intro w2; go_simp; intro h8; omega
        try simp only [sA, sB, sC]
        refine wpAnyL_ready (rs := [11]) (by kernel_rfl) (by simp) ?_
        refine AllReadyL.cons rfl (fun K hK => ?_) AllReadyL.nil
        go_simp
        refine hK.out _ _ (trivial) (fun hHeld => ?_)
        have HS3 := Lib.hid hHeld
        clear hK K hHeld
        try simp only [sA, sB, sC]
        refine tj 12 90 (.agg #[.int .i64 1, .int .i64 0, .int .i64 v, .string ⟨#[]⟩, .slice none 0 0]) HS3.out rfl rfl ?_
        try simp only [sA, sB, sC]
        refine wpAnyL_ready (rs := [13]) (by kernel_rfl) (by simp) ?_
        refine AllReadyL.last rfl (by kernel_rfl) (fun K hK => ?_)
        have ub0 : X2.cell? ⟨w.heap.size, 0, none⟩ = some (.slice Av nv cv) := HN2.out.box.cell 0; have ub1 : X2.cell? ⟨w.heap.size, 1, none⟩ = some (.slice Aa na ca) := HN2.out.box.cell 1; have ub2 : X2.cell? ⟨w.heap.size, 2, none⟩ = some (.slice Af nf cf) := HN2.out.box.cell 2; have ub3 : X2.cell? ⟨w.heap.size, 3, none⟩ = some (.bool false) := HN2.out.box.cell 3; have ub4 : X2.cell? ⟨w.heap.size, 4, none⟩ = some (.bool loop) := HN2.out.box.cell 4; have ur0 : X2.cell? ⟨w.heap.size + 1, 0, none⟩ = some (.int .i64 0) := HN2.out.res.cell 0; have ur1 : X2.cell? ⟨w.heap.size + 1, 1, none⟩ = some (.int .i64 0) := HN2.out.res.cell 1; have ur2 : X2.cell? ⟨w.heap.size + 1, 2, none⟩ = some (.int .i64 0) := HN2.out.res.cell 2; have ur3 : X2.cell? ⟨w.heap.size + 1, 3, none⟩ = some (.string ⟨#[]⟩) := HN2.out.res.cell 3; have ur4 : X2.cell? ⟨w.heap.size + 1, 4, none⟩ = some (.slice none 0 0) := HN2.out.res.cell 4; have uz0 : X2.frozen? ⟨w.heap.size + 1, 0, none⟩ = false := HN2.out.res.frozen 0; have uz1 : X2.frozen? ⟨w.heap.size + 1, 1, none⟩ = false := HN2.out.res.frozen 1; have uz2 : X2.frozen? ⟨w.heap.size + 1, 2, none⟩ = false := HN2.out.res.frozen 2; have uz3 : X2.frozen? ⟨w.heap.size + 1, 3, none⟩ = false := HN2.out.res.frozen 3; have uz4 : X2.frozen? ⟨w.heap.size + 1, 4, none⟩ = false := HN2.out.res.frozen 4; have ult : w.heap.size + 1 < X2.heap.size := HN2.out.lt
        go_simp
        refine hK.out _ _ ?_
        clear hK K
        try simp only [sA, sB, sC]
        refine wpAnyL_done (by kernel_rfl) ?_ _
        go_wp2
        have hend := expr_end HN2.out ⟨1, 0, v, ⟨#[]⟩, []⟩ (.slice none 0 0) (made_num (c := c) hm hv0) (SlR.nil_ _ _ _ _)
        refine bodyPost_ret (v := .agg #[.int .i64 (⟨1, 0, v, ⟨#[]⟩, []⟩ : LExpr).kind, .int .i64 (⟨1, 0, v, ⟨#[]⟩, []⟩ : LExpr).op, .int .i64 (⟨1, 0, v, ⟨#[]⟩, []⟩ : LExpr).n, .string (⟨1, 0, v, ⟨#[]⟩, []⟩ : LExpr).name, .slice none 0 0]) (results_cell_row (p := 6) (ty := 42) (by kernel_rfl) _ _ (w.heap.size + 1) 42 _ (0, 0) _ rfl hend.1 Tryz.underlying42 rfl (by kernel_rfl)) rfl hend.2
      · go_simp
        refine (next_any _ sb 8 (by omega) HN0.out.src).mono ?_
        rintro e X1 ⟨⟨k, hk, rfl⟩, hs, hg⟩
        have HN1 := Lib.hid (HN0.out.step hg hs)
        clear hs hg
        refine hK.out _ _ (trivial) (fun hHeld => ?_)
        have HS1 := Lib.hid hHeld
        clear hK K hHeld
        try simp only [sA, sB, sC]
        refine wpAnyL_ready (rs := [7]) (by kernel_rfl) (by simp) ?_
        refine AllReadyL.cons rfl (fun K hK => ?_) AllReadyL.nil
        go_simp
        obtain ⟨X2, hXX⟩ : ∃ X, X1.alloc (.cells #[.int .i64 0, .int .i64 1, .int .i64 2, .int .i64 3, .int .i64 (kn : Int), .int .i64 (q : Int), .int .i64 (z : Int), .int .i64 9223372036854775807] 3) = X := ⟨_, rfl⟩
        rw [hXX]
        have HN2 : Hid (StE w sb X2 nv na nf Av Aa Af cv ca cf loop) := Lib.hid (by rw [← hXX]; exact HN1.out.below (below1 _ _))
        have HB2 : Hid (Blk X2 X1.heap.size 3 #[.int .i64 0, .int .i64 1, .int .i64 2, .int .i64 3, .int .i64 (kn : Int), .int .i64 (q : Int), .int .i64 (z : Int), .int .i64 9223372036854775807]) := Lib.hid (by rw [← hXX]; exact Blk.new_at _ _ _ rfl)
        have hgl : X1.heap.size < X2.heap.size := by rw [← hXX]; simp
        clear hXX
        refine hK.out _ _ (trivial) (fun hHeld => ?_)
        have HS2 := Lib.hid hHeld
        clear hK K hHeld
        try simp only [sA, sB, sC]
        obtain ⟨v, hv0, hcell⟩ := row_cell HB2.out hk
        refine tk 10 88 (.pointer (some ⟨X1.heap.size, k, none⟩)) HS2.out rfl rfl ?_ ?_
        · intro w2; go_simp; intro h8; omega
        try simp only [sA, sB, sC]
        refine wpAnyL_ready (rs := [11]) (by kernel_rfl) (by simp) ?_
        refine AllReadyL.cons rfl (fun K hK => ?_) AllReadyL.nil
        go_simp
        refine hK.out _ _ (trivial) (fun hHeld => ?_)
        have HS3 := Lib.hid hHeld
        clear hK K hHeld
        try simp only [sA, sB, sC]
        refine tj 12 90 (.agg #[.int .i64 1, .int .i64 0, .int .i64 v, .string ⟨#[]⟩, .slice none 0 0]) HS3.out rfl rfl ?_
        try simp only [sA, sB, sC]
        refine wpAnyL_ready (rs := [13]) (by kernel_rfl) (by simp) ?_
        refine AllReadyL.last rfl (by kernel_rfl) (fun K hK => ?_)
        have ub0 : X2.cell? ⟨w.heap.size, 0, none⟩ = some (.slice Av nv cv) := HN2.out.box.cell 0; have ub1 : X2.cell? ⟨w.heap.size, 1, none⟩ = some (.slice Aa na ca) := HN2.out.box.cell 1; have ub2 : X2.cell? ⟨w.heap.size, 2, none⟩ = some (.slice Af nf cf) := HN2.out.box.cell 2; have ub3 : X2.cell? ⟨w.heap.size, 3, none⟩ = some (.bool false) := HN2.out.box.cell 3; have ub4 : X2.cell? ⟨w.heap.size, 4, none⟩ = some (.bool loop) := HN2.out.box.cell 4; have ur0 : X2.cell? ⟨w.heap.size + 1, 0, none⟩ = some (.int .i64 0) := HN2.out.res.cell 0; have ur1 : X2.cell? ⟨w.heap.size + 1, 1, none⟩ = some (.int .i64 0) := HN2.out.res.cell 1; have ur2 : X2.cell? ⟨w.heap.size + 1, 2, none⟩ = some (.int .i64 0) := HN2.out.res.cell 2; have ur3 : X2.cell? ⟨w.heap.size + 1, 3, none⟩ = some (.string ⟨#[]⟩) := HN2.out.res.cell 3; have ur4 : X2.cell? ⟨w.heap.size + 1, 4, none⟩ = some (.slice none 0 0) := HN2.out.res.cell 4; have uz0 : X2.frozen? ⟨w.heap.size + 1, 0, none⟩ = false := HN2.out.res.frozen 0; have uz1 : X2.frozen? ⟨w.heap.size + 1, 1, none⟩ = false := HN2.out.res.frozen 1; have uz2 : X2.frozen? ⟨w.heap.size + 1, 2, none⟩ = false := HN2.out.res.frozen 2; have uz3 : X2.frozen? ⟨w.heap.size + 1, 3, none⟩ = false := HN2.out.res.frozen 3; have uz4 : X2.frozen? ⟨w.heap.size + 1, 4, none⟩ = false := HN2.out.res.frozen 4; have ult : w.heap.size + 1 < X2.heap.size := HN2.out.lt
        go_simp
        refine hK.out _ _ ?_
        clear hK K
        try simp only [sA, sB, sC]
        refine wpAnyL_done (by kernel_rfl) ?_ _
        go_wp2
        have hend := expr_end HN2.out ⟨1, 0, v, ⟨#[]⟩, []⟩ (.slice none 0 0) (made_num (c := c) hm hv0) (SlR.nil_ _ _ _ _)
        refine bodyPost_ret (v := .agg #[.int .i64 (⟨1, 0, v, ⟨#[]⟩, []⟩ : LExpr).kind, .int .i64 (⟨1, 0, v, ⟨#[]⟩, []⟩ : LExpr).op, .int .i64 (⟨1, 0, v, ⟨#[]⟩, []⟩ : LExpr).n, .string (⟨1, 0, v, ⟨#[]⟩, []⟩ : LExpr).name, .slice none 0 0]) (results_cell_row (p := 6) (ty := 42) (by kernel_rfl) _ _ (w.heap.size + 1) 42 _ (0, 0) _ rfl hend.1 Tryz.underlying42 rfl (by kernel_rfl)) rfl hend.2
    case inr.inr =>
      go_wp2
      have hend := expr_end HS2.out (⟨7, 0, 0, ⟨#[]⟩, []⟩) (.slice none 0 0) (made_read (c := c) hm) (SlR.nil_ _ _ _ _)
      refine bodyPost_ret (v := .agg #[.int .i64 (⟨7, 0, 0, ⟨#[]⟩, []⟩ : LExpr).kind, .int .i64 (⟨7, 0, 0, ⟨#[]⟩, []⟩ : LExpr).op, .int .i64 (⟨7, 0, 0, ⟨#[]⟩, []⟩ : LExpr).n, .string (⟨7, 0, 0, ⟨#[]⟩, []⟩ : LExpr).name, .slice none 0 0]) (results_cell_row (p := 6) (ty := 42) (by kernel_rfl) _ _ (w.heap.size + 1) 42 _ (0, 0) _ rfl hend.1 Tryz.underlying42 rfl (by kernel_rfl)) rfl hend.2
  case inr.inr.inr.inr.inl =>
    have HXX := Lib.hid (HX.out (by omega))
    go_upto_region 17 with (go_at_call 21; refine (next_any _ sb 3 (by omega) HS1.out.src).mono ?_; rintro e w2 ⟨⟨r, hr, rfl⟩, hs1, hg1⟩; have HS2 := Lib.hid (HS1.out.step hg1 hs1); clear hs1 hg1; have ob0 : w2.cell? ⟨w.heap.size, 0, none⟩ = some (.slice Av nv cv) := HS2.out.box.cell 0; have ob1 : w2.cell? ⟨w.heap.size, 1, none⟩ = some (.slice Aa na ca) := HS2.out.box.cell 1; have ob2 : w2.cell? ⟨w.heap.size, 2, none⟩ = some (.slice Af nf cf) := HS2.out.box.cell 2; have ob3 : w2.cell? ⟨w.heap.size, 3, none⟩ = some (.bool false) := HS2.out.box.cell 3; have ob4 : w2.cell? ⟨w.heap.size, 4, none⟩ = some (.bool loop) := HS2.out.box.cell 4; have or0 : w2.cell? ⟨w.heap.size + 1, 0, none⟩ = some (.int .i64 0) := HS2.out.res.cell 0; have or1 : w2.cell? ⟨w.heap.size + 1, 1, none⟩ = some (.int .i64 0) := HS2.out.res.cell 1; have or2 : w2.cell? ⟨w.heap.size + 1, 2, none⟩ = some (.int .i64 0) := HS2.out.res.cell 2; have or3 : w2.cell? ⟨w.heap.size + 1, 3, none⟩ = some (.string ⟨#[]⟩) := HS2.out.res.cell 3; have or4 : w2.cell? ⟨w.heap.size + 1, 4, none⟩ = some (.slice none 0 0) := HS2.out.res.cell 4; have oz0 : w2.frozen? ⟨w.heap.size + 1, 0, none⟩ = false := HS2.out.res.frozen 0; have oz1 : w2.frozen? ⟨w.heap.size + 1, 1, none⟩ = false := HS2.out.res.frozen 1; have oz2 : w2.frozen? ⟨w.heap.size + 1, 2, none⟩ = false := HS2.out.res.frozen 2; have oz3 : w2.frozen? ⟨w.heap.size + 1, 3, none⟩ = false := HS2.out.res.frozen 3; have oz4 : w2.frozen? ⟨w.heap.size + 1, 4, none⟩ = false := HS2.out.res.frozen 4; have olt : w.heap.size + 1 < w2.heap.size := HS2.out.lt)
    have HRR := Lib.hid hr
    clear ab0 ab1 ab2 ab3 ab4 ar0 ar1 ar2 ar3 ar4 az0 az1 az2 az3 az4 alt
    go_wp2_with (go_at_call 24; refine (HXX.out _ HS2.out.g HS2.out.src).mono ?_; intro e w3 hp; obtain ⟨x, Ax, cx, rfl, hmx, hrx, hsx, hgx⟩ := hp.open HS2.out; have HMx := Lib.hid hmx; have HRx := Lib.hid hrx; have HS3 := Lib.hid hsx; clear hp hmx hrx hsx hgx; have pb0 : w3.cell? ⟨w.heap.size, 0, none⟩ = some (.slice Av nv cv) := HS3.out.box.cell 0; have pb1 : w3.cell? ⟨w.heap.size, 1, none⟩ = some (.slice Aa na ca) := HS3.out.box.cell 1; have pb2 : w3.cell? ⟨w.heap.size, 2, none⟩ = some (.slice Af nf cf) := HS3.out.box.cell 2; have pb3 : w3.cell? ⟨w.heap.size, 3, none⟩ = some (.bool false) := HS3.out.box.cell 3; have pb4 : w3.cell? ⟨w.heap.size, 4, none⟩ = some (.bool loop) := HS3.out.box.cell 4; have pr0 : w3.cell? ⟨w.heap.size + 1, 0, none⟩ = some (.int .i64 0) := HS3.out.res.cell 0; have pr1 : w3.cell? ⟨w.heap.size + 1, 1, none⟩ = some (.int .i64 0) := HS3.out.res.cell 1; have pr2 : w3.cell? ⟨w.heap.size + 1, 2, none⟩ = some (.int .i64 0) := HS3.out.res.cell 2; have pr3 : w3.cell? ⟨w.heap.size + 1, 3, none⟩ = some (.string ⟨#[]⟩) := HS3.out.res.cell 3; have pr4 : w3.cell? ⟨w.heap.size + 1, 4, none⟩ = some (.slice none 0 0) := HS3.out.res.cell 4; have pz0 : w3.frozen? ⟨w.heap.size + 1, 0, none⟩ = false := HS3.out.res.frozen 0; have pz1 : w3.frozen? ⟨w.heap.size + 1, 1, none⟩ = false := HS3.out.res.frozen 1; have pz2 : w3.frozen? ⟨w.heap.size + 1, 2, none⟩ = false := HS3.out.res.frozen 2; have pz3 : w3.frozen? ⟨w.heap.size + 1, 3, none⟩ = false := HS3.out.res.frozen 3; have pz4 : w3.frozen? ⟨w.heap.size + 1, 4, none⟩ = false := HS3.out.res.frozen 4; have plt : w.heap.size + 1 < w3.heap.size := HS3.out.lt)
    have hrow := rowE_one (w := w) hm (Blk.new w3 42 #[.int .i64 x.kind, .int .i64 x.op, .int .i64 x.n, .string x.name, .slice Ax x.args.length cx]) (HRx.out.below (below1 _ _)) plt (by simp)
    have hend := expr_end_alloc HS3.out (.cells #[.int .i64 x.kind, .int .i64 x.op, .int .i64 x.n, .string x.name, .slice Ax x.args.length cx] 42) (⟨3, 17 + (r : Int), 0, ⟨#[]⟩, [x]⟩) (.slice (some ⟨w3.heap.size, 0, none⟩) 1 1) (made_one (by omega) HRR.out HMx.out) hrow
    refine bodyPost_ret (v := .agg #[.int .i64 (⟨3, 17 + (r : Int), 0, ⟨#[]⟩, [x]⟩ : LExpr).kind, .int .i64 (⟨3, 17 + (r : Int), 0, ⟨#[]⟩, [x]⟩ : LExpr).op, .int .i64 (⟨3, 17 + (r : Int), 0, ⟨#[]⟩, [x]⟩ : LExpr).n, .string (⟨3, 17 + (r : Int), 0, ⟨#[]⟩, [x]⟩ : LExpr).name, .slice (some ⟨w3.heap.size, 0, none⟩) 1 1]) (results_cell_row (p := 6) (ty := 42) (by kernel_rfl) _ _ (w.heap.size + 1) 42 _ (0, 0) _ rfl hend.1 Tryz.underlying42 rfl (by kernel_rfl)) rfl hend.2
  case inr.inr.inr.inr.inr.inl =>
    cases ba with
    | true =>
      have HXX := Lib.hid (HX.out (by omega))
      have hn0 : 0 < na := by have h := HBA.out; exact of_decide_eq_true h.symm
      have HAM := Lib.hid (HARR.out hn0)
      clear hn0
      go_upto_region 20 with (go_at_call 25; refine (HAM.out _ HS1.out.g HS1.out.src).mono ?_; rintro e w2 ⟨⟨s, sz, hsm, rfl⟩, hs2, hg2⟩; have HS2 := Lib.hid (HS1.out.step hg2 hs2); have HM := Lib.hid hsm; clear hs2 hg2 hsm; have hfld := field_arr s sz; have vb0 : w2.cell? ⟨w.heap.size, 0, none⟩ = some (.slice Av nv cv) := HS2.out.box.cell 0; have vb1 : w2.cell? ⟨w.heap.size, 1, none⟩ = some (.slice Aa na ca) := HS2.out.box.cell 1; have vb2 : w2.cell? ⟨w.heap.size, 2, none⟩ = some (.slice Af nf cf) := HS2.out.box.cell 2; have vb3 : w2.cell? ⟨w.heap.size, 3, none⟩ = some (.bool false) := HS2.out.box.cell 3; have vb4 : w2.cell? ⟨w.heap.size, 4, none⟩ = some (.bool loop) := HS2.out.box.cell 4; have vr0 : w2.cell? ⟨w.heap.size + 1, 0, none⟩ = some (.int .i64 0) := HS2.out.res.cell 0; have vr1 : w2.cell? ⟨w.heap.size + 1, 1, none⟩ = some (.int .i64 0) := HS2.out.res.cell 1; have vr2 : w2.cell? ⟨w.heap.size + 1, 2, none⟩ = some (.int .i64 0) := HS2.out.res.cell 2; have vr3 : w2.cell? ⟨w.heap.size + 1, 3, none⟩ = some (.string ⟨#[]⟩) := HS2.out.res.cell 3; have vr4 : w2.cell? ⟨w.heap.size + 1, 4, none⟩ = some (.slice none 0 0) := HS2.out.res.cell 4; have vz0 : w2.frozen? ⟨w.heap.size + 1, 0, none⟩ = false := HS2.out.res.frozen 0; have vz1 : w2.frozen? ⟨w.heap.size + 1, 1, none⟩ = false := HS2.out.res.frozen 1; have vz2 : w2.frozen? ⟨w.heap.size + 1, 2, none⟩ = false := HS2.out.res.frozen 2; have vz3 : w2.frozen? ⟨w.heap.size + 1, 3, none⟩ = false := HS2.out.res.frozen 3; have vz4 : w2.frozen? ⟨w.heap.size + 1, 4, none⟩ = false := HS2.out.res.frozen 4; have vlt : w.heap.size + 1 < w2.heap.size := HS2.out.lt)
      clear ab0 ab1 ab2 ab3 ab4 ar0 ar1 ar2 ar3 ar4 az0 az1 az2 az3 az4 alt
      go_wp2_with (go_at_call 24; refine (HXX.out _ HS2.out.g HS2.out.src).mono ?_; intro e w3 hp; obtain ⟨x, Ax, cx, rfl, hmx, hrx, hsx, hgx⟩ := hp.open HS2.out; have HMx := Lib.hid hmx; have HRx := Lib.hid hrx; have HS3 := Lib.hid hsx; clear hp hmx hrx hsx hgx; have pb0 : w3.cell? ⟨w.heap.size, 0, none⟩ = some (.slice Av nv cv) := HS3.out.box.cell 0; have pb1 : w3.cell? ⟨w.heap.size, 1, none⟩ = some (.slice Aa na ca) := HS3.out.box.cell 1; have pb2 : w3.cell? ⟨w.heap.size, 2, none⟩ = some (.slice Af nf cf) := HS3.out.box.cell 2; have pb3 : w3.cell? ⟨w.heap.size, 3, none⟩ = some (.bool false) := HS3.out.box.cell 3; have pb4 : w3.cell? ⟨w.heap.size, 4, none⟩ = some (.bool loop) := HS3.out.box.cell 4; have pr0 : w3.cell? ⟨w.heap.size + 1, 0, none⟩ = some (.int .i64 0) := HS3.out.res.cell 0; have pr1 : w3.cell? ⟨w.heap.size + 1, 1, none⟩ = some (.int .i64 0) := HS3.out.res.cell 1; have pr2 : w3.cell? ⟨w.heap.size + 1, 2, none⟩ = some (.int .i64 0) := HS3.out.res.cell 2; have pr3 : w3.cell? ⟨w.heap.size + 1, 3, none⟩ = some (.string ⟨#[]⟩) := HS3.out.res.cell 3; have pr4 : w3.cell? ⟨w.heap.size + 1, 4, none⟩ = some (.slice none 0 0) := HS3.out.res.cell 4; have pz0 : w3.frozen? ⟨w.heap.size + 1, 0, none⟩ = false := HS3.out.res.frozen 0; have pz1 : w3.frozen? ⟨w.heap.size + 1, 1, none⟩ = false := HS3.out.res.frozen 1; have pz2 : w3.frozen? ⟨w.heap.size + 1, 2, none⟩ = false := HS3.out.res.frozen 2; have pz3 : w3.frozen? ⟨w.heap.size + 1, 3, none⟩ = false := HS3.out.res.frozen 3; have pz4 : w3.frozen? ⟨w.heap.size + 1, 4, none⟩ = false := HS3.out.res.frozen 4; have plt : w.heap.size + 1 < w3.heap.size := HS3.out.lt)
      have hrow := rowE_one (w := w) hm (Blk.new w3 42 #[.int .i64 x.kind, .int .i64 x.op, .int .i64 x.n, .string x.name, .slice Ax x.args.length cx]) (HRx.out.below (below1 _ _)) plt (by simp)
      have hend := expr_end_alloc HS3.out (.cells #[.int .i64 x.kind, .int .i64 x.op, .int .i64 x.n, .string x.name, .slice Ax x.args.length cx] 42) (⟨6, 0, 0, s, [x]⟩) (.slice (some ⟨w3.heap.size, 0, none⟩) 1 1) (made_index (by omega) HOK.out.toScOk HM.out HMx.out) hrow
      refine bodyPost_ret (v := .agg #[.int .i64 (⟨6, 0, 0, s, [x]⟩ : LExpr).kind, .int .i64 (⟨6, 0, 0, s, [x]⟩ : LExpr).op, .int .i64 (⟨6, 0, 0, s, [x]⟩ : LExpr).n, .string (⟨6, 0, 0, s, [x]⟩ : LExpr).name, .slice (some ⟨w3.heap.size, 0, none⟩) 1 1]) (results_cell_row (p := 6) (ty := 42) (by kernel_rfl) _ _ (w.heap.size + 1) 42 _ (0, 0) _ rfl hend.1 Tryz.underlying42 rfl (by kernel_rfl)) rfl hend.2
    | false =>
      have HXX := Lib.hid (HX.out (by omega))
      go_upto_region 24 with (go_at_call 21; refine (next_any _ sb 16 (by omega) HS1.out.src).mono ?_; rintro e w2 ⟨⟨r, hr, rfl⟩, hs1, hg1⟩; have HS2 := Lib.hid (HS1.out.step hg1 hs1); clear hs1 hg1; have ob0 : w2.cell? ⟨w.heap.size, 0, none⟩ = some (.slice Av nv cv) := HS2.out.box.cell 0; have ob1 : w2.cell? ⟨w.heap.size, 1, none⟩ = some (.slice Aa na ca) := HS2.out.box.cell 1; have ob2 : w2.cell? ⟨w.heap.size, 2, none⟩ = some (.slice Af nf cf) := HS2.out.box.cell 2; have ob3 : w2.cell? ⟨w.heap.size, 3, none⟩ = some (.bool false) := HS2.out.box.cell 3; have ob4 : w2.cell? ⟨w.heap.size, 4, none⟩ = some (.bool loop) := HS2.out.box.cell 4; have or0 : w2.cell? ⟨w.heap.size + 1, 0, none⟩ = some (.int .i64 0) := HS2.out.res.cell 0; have or1 : w2.cell? ⟨w.heap.size + 1, 1, none⟩ = some (.int .i64 0) := HS2.out.res.cell 1; have or2 : w2.cell? ⟨w.heap.size + 1, 2, none⟩ = some (.int .i64 0) := HS2.out.res.cell 2; have or3 : w2.cell? ⟨w.heap.size + 1, 3, none⟩ = some (.string ⟨#[]⟩) := HS2.out.res.cell 3; have or4 : w2.cell? ⟨w.heap.size + 1, 4, none⟩ = some (.slice none 0 0) := HS2.out.res.cell 4; have oz0 : w2.frozen? ⟨w.heap.size + 1, 0, none⟩ = false := HS2.out.res.frozen 0; have oz1 : w2.frozen? ⟨w.heap.size + 1, 1, none⟩ = false := HS2.out.res.frozen 1; have oz2 : w2.frozen? ⟨w.heap.size + 1, 2, none⟩ = false := HS2.out.res.frozen 2; have oz3 : w2.frozen? ⟨w.heap.size + 1, 3, none⟩ = false := HS2.out.res.frozen 3; have oz4 : w2.frozen? ⟨w.heap.size + 1, 4, none⟩ = false := HS2.out.res.frozen 4; have olt : w.heap.size + 1 < w2.heap.size := HS2.out.lt)
      have HRR := Lib.hid hr
      clear ab0 ab1 ab2 ab3 ab4 ar0 ar1 ar2 ar3 ar4 az0 az1 az2 az3 az4 alt
      go_upto_region 25 with (go_at_call 24; refine (HXX.out _ HS2.out.g HS2.out.src).mono ?_; intro e w3 hp; obtain ⟨x, Ax, cx, rfl, hmx, hrx, hsx, hgx⟩ := hp.open HS2.out; have HMx := Lib.hid hmx; have HRx := Lib.hid hrx; have HS3 := Lib.hid hsx; clear hp hmx hrx hsx hgx; have pb0 : w3.cell? ⟨w.heap.size, 0, none⟩ = some (.slice Av nv cv) := HS3.out.box.cell 0; have pb1 : w3.cell? ⟨w.heap.size, 1, none⟩ = some (.slice Aa na ca) := HS3.out.box.cell 1; have pb2 : w3.cell? ⟨w.heap.size, 2, none⟩ = some (.slice Af nf cf) := HS3.out.box.cell 2; have pb3 : w3.cell? ⟨w.heap.size, 3, none⟩ = some (.bool false) := HS3.out.box.cell 3; have pb4 : w3.cell? ⟨w.heap.size, 4, none⟩ = some (.bool loop) := HS3.out.box.cell 4; have pr0 : w3.cell? ⟨w.heap.size + 1, 0, none⟩ = some (.int .i64 0) := HS3.out.res.cell 0; have pr1 : w3.cell? ⟨w.heap.size + 1, 1, none⟩ = some (.int .i64 0) := HS3.out.res.cell 1; have pr2 : w3.cell? ⟨w.heap.size + 1, 2, none⟩ = some (.int .i64 0) := HS3.out.res.cell 2; have pr3 : w3.cell? ⟨w.heap.size + 1, 3, none⟩ = some (.string ⟨#[]⟩) := HS3.out.res.cell 3; have pr4 : w3.cell? ⟨w.heap.size + 1, 4, none⟩ = some (.slice none 0 0) := HS3.out.res.cell 4; have pz0 : w3.frozen? ⟨w.heap.size + 1, 0, none⟩ = false := HS3.out.res.frozen 0; have pz1 : w3.frozen? ⟨w.heap.size + 1, 1, none⟩ = false := HS3.out.res.frozen 1; have pz2 : w3.frozen? ⟨w.heap.size + 1, 2, none⟩ = false := HS3.out.res.frozen 2; have pz3 : w3.frozen? ⟨w.heap.size + 1, 3, none⟩ = false := HS3.out.res.frozen 3; have pz4 : w3.frozen? ⟨w.heap.size + 1, 4, none⟩ = false := HS3.out.res.frozen 4; have plt : w.heap.size + 1 < w3.heap.size := HS3.out.lt)
      refine wp_world ?_
      intro W1 hW1
      have h4 : StE w sb W1 nv na nf Av Aa Af cv ca cf loop := by rw [← hW1]; exact HS3.out.below (below1 _ _)
      have h4r : RowE w W1 (m - 1) (.slice Ax x.args.length cx) x.args := by rw [← hW1]; exact HRx.out.below (below1 _ _)
      have h4b : Blk W1 w3.heap.size 42 #[.int .i64 x.kind, .int .i64 x.op, .int .i64 x.n, .string x.name, .slice Ax x.args.length cx] := by rw [← hW1]; exact Blk.new_at _ _ _ rfl
      have h4l : w3.heap.size < W1.heap.size := by rw [← hW1]; simp
      clear hW1 HS3 HS2
      clear ob0 ob1 ob2 ob3 ob4 or0 or1 or2 or3 or4 oz0 oz1 oz2 oz3 oz4 olt
      clear pb0 pb1 pb2 pb3 pb4 pr0 pr1 pr2 pr3 pr4 pz0 pz1 pz2 pz3 pz4
      have HS4 := Lib.hid h4; have HR4 := Lib.hid h4r; have HB4 := Lib.hid h4b; clear h4 h4r h4b
      have qb0 : W1.cell? ⟨w.heap.size, 0, none⟩ = some (.slice Av nv cv) := HS4.out.box.cell 0; have qb1 : W1.cell? ⟨w.heap.size, 1, none⟩ = some (.slice Aa na ca) := HS4.out.box.cell 1; have qb2 : W1.cell? ⟨w.heap.size, 2, none⟩ = some (.slice Af nf cf) := HS4.out.box.cell 2; have qb3 : W1.cell? ⟨w.heap.size, 3, none⟩ = some (.bool false) := HS4.out.box.cell 3; have qb4 : W1.cell? ⟨w.heap.size, 4, none⟩ = some (.bool loop) := HS4.out.box.cell 4; have qr0 : W1.cell? ⟨w.heap.size + 1, 0, none⟩ = some (.int .i64 0) := HS4.out.res.cell 0; have qr1 : W1.cell? ⟨w.heap.size + 1, 1, none⟩ = some (.int .i64 0) := HS4.out.res.cell 1; have qr2 : W1.cell? ⟨w.heap.size + 1, 2, none⟩ = some (.int .i64 0) := HS4.out.res.cell 2; have qr3 : W1.cell? ⟨w.heap.size + 1, 3, none⟩ = some (.string ⟨#[]⟩) := HS4.out.res.cell 3; have qr4 : W1.cell? ⟨w.heap.size + 1, 4, none⟩ = some (.slice none 0 0) := HS4.out.res.cell 4; have qz0 : W1.frozen? ⟨w.heap.size + 1, 0, none⟩ = false := HS4.out.res.frozen 0; have qz1 : W1.frozen? ⟨w.heap.size + 1, 1, none⟩ = false := HS4.out.res.frozen 1; have qz2 : W1.frozen? ⟨w.heap.size + 1, 2, none⟩ = false := HS4.out.res.frozen 2; have qz3 : W1.frozen? ⟨w.heap.size + 1, 3, none⟩ = false := HS4.out.res.frozen 3; have qz4 : W1.frozen? ⟨w.heap.size + 1, 4, none⟩ = false := HS4.out.res.frozen 4; have qlt : w.heap.size + 1 < W1.heap.size := HS4.out.lt
      go_upto_region 26 with (go_at_call 24; refine (HXX.out _ HS4.out.g HS4.out.src).mono ?_; intro e w5 hp; obtain ⟨y, Ay, cy, rfl, hmy, hry, hsy, hgy⟩ := hp.open HS4.out; have HMy := Lib.hid hmy; have HRy := Lib.hid hry; have HS5 := Lib.hid hsy; have HB5 := Lib.hid (HB4.out.grown hgy (fun e => by have := Option.some.inj e; have := HSB.out; omega)); have HR5 := Lib.hid (HR4.out.grown hgy HSB.out); have hsz5 := hgy.size; clear hp hmy hry hsy hgy; have sb0 : w5.cell? ⟨w.heap.size, 0, none⟩ = some (.slice Av nv cv) := HS5.out.box.cell 0; have sb1 : w5.cell? ⟨w.heap.size, 1, none⟩ = some (.slice Aa na ca) := HS5.out.box.cell 1; have sb2 : w5.cell? ⟨w.heap.size, 2, none⟩ = some (.slice Af nf cf) := HS5.out.box.cell 2; have sb3 : w5.cell? ⟨w.heap.size, 3, none⟩ = some (.bool false) := HS5.out.box.cell 3; have sb4 : w5.cell? ⟨w.heap.size, 4, none⟩ = some (.bool loop) := HS5.out.box.cell 4; have sr0 : w5.cell? ⟨w.heap.size + 1, 0, none⟩ = some (.int .i64 0) := HS5.out.res.cell 0; have sr1 : w5.cell? ⟨w.heap.size + 1, 1, none⟩ = some (.int .i64 0) := HS5.out.res.cell 1; have sr2 : w5.cell? ⟨w.heap.size + 1, 2, none⟩ = some (.int .i64 0) := HS5.out.res.cell 2; have sr3 : w5.cell? ⟨w.heap.size + 1, 3, none⟩ = some (.string ⟨#[]⟩) := HS5.out.res.cell 3; have sr4 : w5.cell? ⟨w.heap.size + 1, 4, none⟩ = some (.slice none 0 0) := HS5.out.res.cell 4; have sz0 : w5.frozen? ⟨w.heap.size + 1, 0, none⟩ = false := HS5.out.res.frozen 0; have sz1 : w5.frozen? ⟨w.heap.size + 1, 1, none⟩ = false := HS5.out.res.frozen 1; have sz2 : w5.frozen? ⟨w.heap.size + 1, 2, none⟩ = false := HS5.out.res.frozen 2; have sz3 : w5.frozen? ⟨w.heap.size + 1, 3, none⟩ = false := HS5.out.res.frozen 3; have sz4 : w5.frozen? ⟨w.heap.size + 1, 4, none⟩ = false := HS5.out.res.frozen 4; have slt : w.heap.size + 1 < w5.heap.size := HS5.out.lt)
      refine wp_world ?_
      intro W2 hW2
      have h6 : StE w sb W2 nv na nf Av Aa Af cv ca cf loop := by rw [← hW2]; exact HS5.out.below (below1 _ _)
      have h6r : RowE w W2 (m - 1) (.slice Ax x.args.length cx) x.args := by rw [← hW2]; exact HR5.out.below (below1 _ _)
      have h6s : RowE w W2 (m - 1) (.slice Ay y.args.length cy) y.args := by rw [← hW2]; exact HRy.out.below (below1 _ _)
      have h6b : Blk W2 w3.heap.size 42 #[.int .i64 x.kind, .int .i64 x.op, .int .i64 x.n, .string x.name, .slice Ax x.args.length cx] := by rw [← hW2]; exact HB5.out.alloc _
      have h6c : Blk W2 w5.heap.size 42 #[.int .i64 y.kind, .int .i64 y.op, .int .i64 y.n, .string y.name, .slice Ay y.args.length cy] := by rw [← hW2]; exact Blk.new_at _ _ _ rfl
      have h6l : w5.heap.size < W2.heap.size := by rw [← hW2]; simp
      clear hW2 HS5 HB5 HR5 HRy HS4 HB4 HR4
      clear qb0 qb1 qb2 qb3 qb4 qr0 qr1 qr2 qr3 qr4 qz0 qz1 qz2 qz3 qz4 qlt
      clear sb0 sb1 sb2 sb3 sb4 sr0 sr1 sr2 sr3 sr4 sz0 sz1 sz2 sz3 sz4
      have HS6 := Lib.hid h6; have HRx6 := Lib.hid h6r; have HRy6 := Lib.hid h6s; clear h6 h6r h6s
      have xa0 : W2.cell? ⟨w3.heap.size, 0, none⟩ = some (.int .i64 x.kind) := h6b.cell 0
      have xa1 : W2.cell? ⟨w3.heap.size, 1, none⟩ = some (.int .i64 x.op) := h6b.cell 1
      have xa2 : W2.cell? ⟨w3.heap.size, 2, none⟩ = some (.int .i64 x.n) := h6b.cell 2
      have xa3 : W2.cell? ⟨w3.heap.size, 3, none⟩ = some (.string x.name) := h6b.cell 3
      have xa4 : W2.cell? ⟨w3.heap.size, 4, none⟩ = some (.slice Ax x.args.length cx) := h6b.cell 4
      have ya0 : W2.cell? ⟨w5.heap.size, 0, none⟩ = some (.int .i64 y.kind) := h6c.cell 0
      have ya1 : W2.cell? ⟨w5.heap.size, 1, none⟩ = some (.int .i64 y.op) := h6c.cell 1
      have ya2 : W2.cell? ⟨w5.heap.size, 2, none⟩ = some (.int .i64 y.n) := h6c.cell 2
      have ya3 : W2.cell? ⟨w5.heap.size, 3, none⟩ = some (.string y.name) := h6c.cell 3
      have ya4 : W2.cell? ⟨w5.heap.size, 4, none⟩ = some (.slice Ay y.args.length cy) := h6c.cell 4
      clear h6b h6c
      have tb0 : W2.cell? ⟨w.heap.size, 0, none⟩ = some (.slice Av nv cv) := HS6.out.box.cell 0; have tb1 : W2.cell? ⟨w.heap.size, 1, none⟩ = some (.slice Aa na ca) := HS6.out.box.cell 1; have tb2 : W2.cell? ⟨w.heap.size, 2, none⟩ = some (.slice Af nf cf) := HS6.out.box.cell 2; have tb3 : W2.cell? ⟨w.heap.size, 3, none⟩ = some (.bool false) := HS6.out.box.cell 3; have tb4 : W2.cell? ⟨w.heap.size, 4, none⟩ = some (.bool loop) := HS6.out.box.cell 4; have tr0 : W2.cell? ⟨w.heap.size + 1, 0, none⟩ = some (.int .i64 0) := HS6.out.res.cell 0; have tr1 : W2.cell? ⟨w.heap.size + 1, 1, none⟩ = some (.int .i64 0) := HS6.out.res.cell 1; have tr2 : W2.cell? ⟨w.heap.size + 1, 2, none⟩ = some (.int .i64 0) := HS6.out.res.cell 2; have tr3 : W2.cell? ⟨w.heap.size + 1, 3, none⟩ = some (.string ⟨#[]⟩) := HS6.out.res.cell 3; have tr4 : W2.cell? ⟨w.heap.size + 1, 4, none⟩ = some (.slice none 0 0) := HS6.out.res.cell 4; have tz0 : W2.frozen? ⟨w.heap.size + 1, 0, none⟩ = false := HS6.out.res.frozen 0; have tz1 : W2.frozen? ⟨w.heap.size + 1, 1, none⟩ = false := HS6.out.res.frozen 1; have tz2 : W2.frozen? ⟨w.heap.size + 1, 2, none⟩ = false := HS6.out.res.frozen 2; have tz3 : W2.frozen? ⟨w.heap.size + 1, 3, none⟩ = false := HS6.out.res.frozen 3; have tz4 : W2.frozen? ⟨w.heap.size + 1, 4, none⟩ = false := HS6.out.res.frozen 4; have tlt : w.heap.size + 1 < W2.heap.size := HS6.out.lt
      go_wp2
      have hrow := rowE_two (w := w) hm (Blk.new W2 42 #[.int .i64 x.kind, .int .i64 x.op, .int .i64 x.n, .string x.name, .slice Ax x.args.length cx, .int .i64 y.kind, .int .i64 y.op, .int .i64 y.n, .string y.name, .slice Ay y.args.length cy]) (HRx6.out.below (below1 _ _)) (HRy6.out.below (below1 _ _)) tlt (by simp)
      have hend := expr_end_alloc HS6.out (.cells #[.int .i64 x.kind, .int .i64 x.op, .int .i64 x.n, .string x.name, .slice Ax x.args.length cx, .int .i64 y.kind, .int .i64 y.op, .int .i64 y.n, .string y.name, .slice Ay y.args.length cy] 42) (⟨4, 1 + (r : Int), 0, ⟨#[]⟩, [x, y]⟩) (.slice (some ⟨W2.heap.size, 0, none⟩) 2 2) (made_two (by omega) HRR.out HMx.out HMy.out) hrow
      refine bodyPost_ret (v := .agg #[.int .i64 (⟨4, 1 + (r : Int), 0, ⟨#[]⟩, [x, y]⟩ : LExpr).kind, .int .i64 (⟨4, 1 + (r : Int), 0, ⟨#[]⟩, [x, y]⟩ : LExpr).op, .int .i64 (⟨4, 1 + (r : Int), 0, ⟨#[]⟩, [x, y]⟩ : LExpr).n, .string (⟨4, 1 + (r : Int), 0, ⟨#[]⟩, [x, y]⟩ : LExpr).name, .slice (some ⟨W2.heap.size, 0, none⟩) 2 2]) (results_cell_row (p := 6) (ty := 42) (by kernel_rfl) _ _ (w.heap.size + 1) 42 _ (0, 0) _ rfl hend.1 Tryz.underlying42 rfl (by kernel_rfl)) rfl hend.2
  case inr.inr.inr.inr.inr.inr.inl =>
    have HXX := Lib.hid (HCL.out (by omega))
    go_wp2_with (go_at_call 41; refine (HXX.out _ HS1.out.g HS1.out.src).mono ?_; intro e w3 hp; obtain ⟨x, Ax, cx, rfl, hmx, hrx, hsx, hgx⟩ := hp.open HS1.out; have HMx := Lib.hid hmx; have HRx := Lib.hid hrx; have HS3 := Lib.hid hsx; clear hp hmx hrx hsx hgx; have pb0 : w3.cell? ⟨w.heap.size, 0, none⟩ = some (.slice Av nv cv) := HS3.out.box.cell 0; have pb1 : w3.cell? ⟨w.heap.size, 1, none⟩ = some (.slice Aa na ca) := HS3.out.box.cell 1; have pb2 : w3.cell? ⟨w.heap.size, 2, none⟩ = some (.slice Af nf cf) := HS3.out.box.cell 2; have pb3 : w3.cell? ⟨w.heap.size, 3, none⟩ = some (.bool false) := HS3.out.box.cell 3; have pb4 : w3.cell? ⟨w.heap.size, 4, none⟩ = some (.bool loop) := HS3.out.box.cell 4; have pr0 : w3.cell? ⟨w.heap.size + 1, 0, none⟩ = some (.int .i64 0) := HS3.out.res.cell 0; have pr1 : w3.cell? ⟨w.heap.size + 1, 1, none⟩ = some (.int .i64 0) := HS3.out.res.cell 1; have pr2 : w3.cell? ⟨w.heap.size + 1, 2, none⟩ = some (.int .i64 0) := HS3.out.res.cell 2; have pr3 : w3.cell? ⟨w.heap.size + 1, 3, none⟩ = some (.string ⟨#[]⟩) := HS3.out.res.cell 3; have pr4 : w3.cell? ⟨w.heap.size + 1, 4, none⟩ = some (.slice none 0 0) := HS3.out.res.cell 4; have pz0 : w3.frozen? ⟨w.heap.size + 1, 0, none⟩ = false := HS3.out.res.frozen 0; have pz1 : w3.frozen? ⟨w.heap.size + 1, 1, none⟩ = false := HS3.out.res.frozen 1; have pz2 : w3.frozen? ⟨w.heap.size + 1, 2, none⟩ = false := HS3.out.res.frozen 2; have pz3 : w3.frozen? ⟨w.heap.size + 1, 3, none⟩ = false := HS3.out.res.frozen 3; have pz4 : w3.frozen? ⟨w.heap.size + 1, 4, none⟩ = false := HS3.out.res.frozen 4; have plt : w.heap.size + 1 < w3.heap.size := HS3.out.lt)
    have hend := expr_end HS3.out x (.slice Ax x.args.length cx) HMx.out HRx.out
    refine bodyPost_ret (v := .agg #[.int .i64 (x : LExpr).kind, .int .i64 (x : LExpr).op, .int .i64 (x : LExpr).n, .string (x : LExpr).name, .slice Ax x.args.length cx]) (results_cell_row (p := 6) (ty := 42) (by kernel_rfl) _ _ (w.heap.size + 1) 42 _ (0, 0) _ rfl hend.1 Tryz.underlying42 rfl (by kernel_rfl)) rfl hend.2
  case inr.inr.inr.inr.inr.inr.inr =>
    have e1 : (j == 1) = false := beq_eq_false_iff_ne.2 (by omega)
    have e2 : (j == 2) = false := beq_eq_false_iff_ne.2 (by omega)
    have e3 : (j == 3) = false := beq_eq_false_iff_ne.2 (by omega)
    have e4 : (j == 4) = false := beq_eq_false_iff_ne.2 (by omega)
    have e5 : (j == 5) = false := beq_eq_false_iff_ne.2 (by omega)
    have e6 : (j == 6) = false := beq_eq_false_iff_ne.2 (by omega)
    have d1 : decide (j < 4) = false := decide_eq_false (by omega)
    have HXX := Lib.hid (HX.out (by omega))
    go_upto_region 24 with (go_at_call 21; refine (next_any _ sb 16 (by omega) HS1.out.src).mono ?_; rintro e w2 ⟨⟨r, hr, rfl⟩, hs1, hg1⟩; have HS2 := Lib.hid (HS1.out.step hg1 hs1); clear hs1 hg1; have ob0 : w2.cell? ⟨w.heap.size, 0, none⟩ = some (.slice Av nv cv) := HS2.out.box.cell 0; have ob1 : w2.cell? ⟨w.heap.size, 1, none⟩ = some (.slice Aa na ca) := HS2.out.box.cell 1; have ob2 : w2.cell? ⟨w.heap.size, 2, none⟩ = some (.slice Af nf cf) := HS2.out.box.cell 2; have ob3 : w2.cell? ⟨w.heap.size, 3, none⟩ = some (.bool false) := HS2.out.box.cell 3; have ob4 : w2.cell? ⟨w.heap.size, 4, none⟩ = some (.bool loop) := HS2.out.box.cell 4; have or0 : w2.cell? ⟨w.heap.size + 1, 0, none⟩ = some (.int .i64 0) := HS2.out.res.cell 0; have or1 : w2.cell? ⟨w.heap.size + 1, 1, none⟩ = some (.int .i64 0) := HS2.out.res.cell 1; have or2 : w2.cell? ⟨w.heap.size + 1, 2, none⟩ = some (.int .i64 0) := HS2.out.res.cell 2; have or3 : w2.cell? ⟨w.heap.size + 1, 3, none⟩ = some (.string ⟨#[]⟩) := HS2.out.res.cell 3; have or4 : w2.cell? ⟨w.heap.size + 1, 4, none⟩ = some (.slice none 0 0) := HS2.out.res.cell 4; have oz0 : w2.frozen? ⟨w.heap.size + 1, 0, none⟩ = false := HS2.out.res.frozen 0; have oz1 : w2.frozen? ⟨w.heap.size + 1, 1, none⟩ = false := HS2.out.res.frozen 1; have oz2 : w2.frozen? ⟨w.heap.size + 1, 2, none⟩ = false := HS2.out.res.frozen 2; have oz3 : w2.frozen? ⟨w.heap.size + 1, 3, none⟩ = false := HS2.out.res.frozen 3; have oz4 : w2.frozen? ⟨w.heap.size + 1, 4, none⟩ = false := HS2.out.res.frozen 4; have olt : w.heap.size + 1 < w2.heap.size := HS2.out.lt)
    have HRR := Lib.hid hr
    clear ab0 ab1 ab2 ab3 ab4 ar0 ar1 ar2 ar3 ar4 az0 az1 az2 az3 az4 alt
    go_upto_region 25 with (go_at_call 24; refine (HXX.out _ HS2.out.g HS2.out.src).mono ?_; intro e w3 hp; obtain ⟨x, Ax, cx, rfl, hmx, hrx, hsx, hgx⟩ := hp.open HS2.out; have HMx := Lib.hid hmx; have HRx := Lib.hid hrx; have HS3 := Lib.hid hsx; clear hp hmx hrx hsx hgx; have pb0 : w3.cell? ⟨w.heap.size, 0, none⟩ = some (.slice Av nv cv) := HS3.out.box.cell 0; have pb1 : w3.cell? ⟨w.heap.size, 1, none⟩ = some (.slice Aa na ca) := HS3.out.box.cell 1; have pb2 : w3.cell? ⟨w.heap.size, 2, none⟩ = some (.slice Af nf cf) := HS3.out.box.cell 2; have pb3 : w3.cell? ⟨w.heap.size, 3, none⟩ = some (.bool false) := HS3.out.box.cell 3; have pb4 : w3.cell? ⟨w.heap.size, 4, none⟩ = some (.bool loop) := HS3.out.box.cell 4; have pr0 : w3.cell? ⟨w.heap.size + 1, 0, none⟩ = some (.int .i64 0) := HS3.out.res.cell 0; have pr1 : w3.cell? ⟨w.heap.size + 1, 1, none⟩ = some (.int .i64 0) := HS3.out.res.cell 1; have pr2 : w3.cell? ⟨w.heap.size + 1, 2, none⟩ = some (.int .i64 0) := HS3.out.res.cell 2; have pr3 : w3.cell? ⟨w.heap.size + 1, 3, none⟩ = some (.string ⟨#[]⟩) := HS3.out.res.cell 3; have pr4 : w3.cell? ⟨w.heap.size + 1, 4, none⟩ = some (.slice none 0 0) := HS3.out.res.cell 4; have pz0 : w3.frozen? ⟨w.heap.size + 1, 0, none⟩ = false := HS3.out.res.frozen 0; have pz1 : w3.frozen? ⟨w.heap.size + 1, 1, none⟩ = false := HS3.out.res.frozen 1; have pz2 : w3.frozen? ⟨w.heap.size + 1, 2, none⟩ = false := HS3.out.res.frozen 2; have pz3 : w3.frozen? ⟨w.heap.size + 1, 3, none⟩ = false := HS3.out.res.frozen 3; have pz4 : w3.frozen? ⟨w.heap.size + 1, 4, none⟩ = false := HS3.out.res.frozen 4; have plt : w.heap.size + 1 < w3.heap.size := HS3.out.lt)
    refine wp_world ?_
    intro W1 hW1
    have h4 : StE w sb W1 nv na nf Av Aa Af cv ca cf loop := by rw [← hW1]; exact HS3.out.below (below1 _ _)
    have h4r : RowE w W1 (m - 1) (.slice Ax x.args.length cx) x.args := by rw [← hW1]; exact HRx.out.below (below1 _ _)
    have h4b : Blk W1 w3.heap.size 42 #[.int .i64 x.kind, .int .i64 x.op, .int .i64 x.n, .string x.name, .slice Ax x.args.length cx] := by rw [← hW1]; exact Blk.new_at _ _ _ rfl
    have h4l : w3.heap.size < W1.heap.size := by rw [← hW1]; simp
    clear hW1 HS3 HS2
    clear ob0 ob1 ob2 ob3 ob4 or0 or1 or2 or3 or4 oz0 oz1 oz2 oz3 oz4 olt
    clear pb0 pb1 pb2 pb3 pb4 pr0 pr1 pr2 pr3 pr4 pz0 pz1 pz2 pz3 pz4
    have HS4 := Lib.hid h4; have HR4 := Lib.hid h4r; have HB4 := Lib.hid h4b; clear h4 h4r h4b
    have qb0 : W1.cell? ⟨w.heap.size, 0, none⟩ = some (.slice Av nv cv) := HS4.out.box.cell 0; have qb1 : W1.cell? ⟨w.heap.size, 1, none⟩ = some (.slice Aa na ca) := HS4.out.box.cell 1; have qb2 : W1.cell? ⟨w.heap.size, 2, none⟩ = some (.slice Af nf cf) := HS4.out.box.cell 2; have qb3 : W1.cell? ⟨w.heap.size, 3, none⟩ = some (.bool false) := HS4.out.box.cell 3; have qb4 : W1.cell? ⟨w.heap.size, 4, none⟩ = some (.bool loop) := HS4.out.box.cell 4; have qr0 : W1.cell? ⟨w.heap.size + 1, 0, none⟩ = some (.int .i64 0) := HS4.out.res.cell 0; have qr1 : W1.cell? ⟨w.heap.size + 1, 1, none⟩ = some (.int .i64 0) := HS4.out.res.cell 1; have qr2 : W1.cell? ⟨w.heap.size + 1, 2, none⟩ = some (.int .i64 0) := HS4.out.res.cell 2; have qr3 : W1.cell? ⟨w.heap.size + 1, 3, none⟩ = some (.string ⟨#[]⟩) := HS4.out.res.cell 3; have qr4 : W1.cell? ⟨w.heap.size + 1, 4, none⟩ = some (.slice none 0 0) := HS4.out.res.cell 4; have qz0 : W1.frozen? ⟨w.heap.size + 1, 0, none⟩ = false := HS4.out.res.frozen 0; have qz1 : W1.frozen? ⟨w.heap.size + 1, 1, none⟩ = false := HS4.out.res.frozen 1; have qz2 : W1.frozen? ⟨w.heap.size + 1, 2, none⟩ = false := HS4.out.res.frozen 2; have qz3 : W1.frozen? ⟨w.heap.size + 1, 3, none⟩ = false := HS4.out.res.frozen 3; have qz4 : W1.frozen? ⟨w.heap.size + 1, 4, none⟩ = false := HS4.out.res.frozen 4; have qlt : w.heap.size + 1 < W1.heap.size := HS4.out.lt
    go_upto_region 26 with (go_at_call 24; refine (HXX.out _ HS4.out.g HS4.out.src).mono ?_; intro e w5 hp; obtain ⟨y, Ay, cy, rfl, hmy, hry, hsy, hgy⟩ := hp.open HS4.out; have HMy := Lib.hid hmy; have HRy := Lib.hid hry; have HS5 := Lib.hid hsy; have HB5 := Lib.hid (HB4.out.grown hgy (fun e => by have := Option.some.inj e; have := HSB.out; omega)); have HR5 := Lib.hid (HR4.out.grown hgy HSB.out); have hsz5 := hgy.size; clear hp hmy hry hsy hgy; have sb0 : w5.cell? ⟨w.heap.size, 0, none⟩ = some (.slice Av nv cv) := HS5.out.box.cell 0; have sb1 : w5.cell? ⟨w.heap.size, 1, none⟩ = some (.slice Aa na ca) := HS5.out.box.cell 1; have sb2 : w5.cell? ⟨w.heap.size, 2, none⟩ = some (.slice Af nf cf) := HS5.out.box.cell 2; have sb3 : w5.cell? ⟨w.heap.size, 3, none⟩ = some (.bool false) := HS5.out.box.cell 3; have sb4 : w5.cell? ⟨w.heap.size, 4, none⟩ = some (.bool loop) := HS5.out.box.cell 4; have sr0 : w5.cell? ⟨w.heap.size + 1, 0, none⟩ = some (.int .i64 0) := HS5.out.res.cell 0; have sr1 : w5.cell? ⟨w.heap.size + 1, 1, none⟩ = some (.int .i64 0) := HS5.out.res.cell 1; have sr2 : w5.cell? ⟨w.heap.size + 1, 2, none⟩ = some (.int .i64 0) := HS5.out.res.cell 2; have sr3 : w5.cell? ⟨w.heap.size + 1, 3, none⟩ = some (.string ⟨#[]⟩) := HS5.out.res.cell 3; have sr4 : w5.cell? ⟨w.heap.size + 1, 4, none⟩ = some (.slice none 0 0) := HS5.out.res.cell 4; have sz0 : w5.frozen? ⟨w.heap.size + 1, 0, none⟩ = false := HS5.out.res.frozen 0; have sz1 : w5.frozen? ⟨w.heap.size + 1, 1, none⟩ = false := HS5.out.res.frozen 1; have sz2 : w5.frozen? ⟨w.heap.size + 1, 2, none⟩ = false := HS5.out.res.frozen 2; have sz3 : w5.frozen? ⟨w.heap.size + 1, 3, none⟩ = false := HS5.out.res.frozen 3; have sz4 : w5.frozen? ⟨w.heap.size + 1, 4, none⟩ = false := HS5.out.res.frozen 4; have slt : w.heap.size + 1 < w5.heap.size := HS5.out.lt)
    refine wp_world ?_
    intro W2 hW2
    have h6 : StE w sb W2 nv na nf Av Aa Af cv ca cf loop := by rw [← hW2]; exact HS5.out.below (below1 _ _)
    have h6r : RowE w W2 (m - 1) (.slice Ax x.args.length cx) x.args := by rw [← hW2]; exact HR5.out.below (below1 _ _)
    have h6s : RowE w W2 (m - 1) (.slice Ay y.args.length cy) y.args := by rw [← hW2]; exact HRy.out.below (below1 _ _)
    have h6b : Blk W2 w3.heap.size 42 #[.int .i64 x.kind, .int .i64 x.op, .int .i64 x.n, .string x.name, .slice Ax x.args.length cx] := by rw [← hW2]; exact HB5.out.alloc _
    have h6c : Blk W2 w5.heap.size 42 #[.int .i64 y.kind, .int .i64 y.op, .int .i64 y.n, .string y.name, .slice Ay y.args.length cy] := by rw [← hW2]; exact Blk.new_at _ _ _ rfl
    have h6l : w5.heap.size < W2.heap.size := by rw [← hW2]; simp
    clear hW2 HS5 HB5 HR5 HRy HS4 HB4 HR4
    clear qb0 qb1 qb2 qb3 qb4 qr0 qr1 qr2 qr3 qr4 qz0 qz1 qz2 qz3 qz4 qlt
    clear sb0 sb1 sb2 sb3 sb4 sr0 sr1 sr2 sr3 sr4 sz0 sz1 sz2 sz3 sz4
    have HS6 := Lib.hid h6; have HRx6 := Lib.hid h6r; have HRy6 := Lib.hid h6s; clear h6 h6r h6s
    have xa0 : W2.cell? ⟨w3.heap.size, 0, none⟩ = some (.int .i64 x.kind) := h6b.cell 0
    have xa1 : W2.cell? ⟨w3.heap.size, 1, none⟩ = some (.int .i64 x.op) := h6b.cell 1
    have xa2 : W2.cell? ⟨w3.heap.size, 2, none⟩ = some (.int .i64 x.n) := h6b.cell 2
    have xa3 : W2.cell? ⟨w3.heap.size, 3, none⟩ = some (.string x.name) := h6b.cell 3
    have xa4 : W2.cell? ⟨w3.heap.size, 4, none⟩ = some (.slice Ax x.args.length cx) := h6b.cell 4
    have ya0 : W2.cell? ⟨w5.heap.size, 0, none⟩ = some (.int .i64 y.kind) := h6c.cell 0
    have ya1 : W2.cell? ⟨w5.heap.size, 1, none⟩ = some (.int .i64 y.op) := h6c.cell 1
    have ya2 : W2.cell? ⟨w5.heap.size, 2, none⟩ = some (.int .i64 y.n) := h6c.cell 2
    have ya3 : W2.cell? ⟨w5.heap.size, 3, none⟩ = some (.string y.name) := h6c.cell 3
    have ya4 : W2.cell? ⟨w5.heap.size, 4, none⟩ = some (.slice Ay y.args.length cy) := h6c.cell 4
    clear h6b h6c
    have tb0 : W2.cell? ⟨w.heap.size, 0, none⟩ = some (.slice Av nv cv) := HS6.out.box.cell 0; have tb1 : W2.cell? ⟨w.heap.size, 1, none⟩ = some (.slice Aa na ca) := HS6.out.box.cell 1; have tb2 : W2.cell? ⟨w.heap.size, 2, none⟩ = some (.slice Af nf cf) := HS6.out.box.cell 2; have tb3 : W2.cell? ⟨w.heap.size, 3, none⟩ = some (.bool false) := HS6.out.box.cell 3; have tb4 : W2.cell? ⟨w.heap.size, 4, none⟩ = some (.bool loop) := HS6.out.box.cell 4; have tr0 : W2.cell? ⟨w.heap.size + 1, 0, none⟩ = some (.int .i64 0) := HS6.out.res.cell 0; have tr1 : W2.cell? ⟨w.heap.size + 1, 1, none⟩ = some (.int .i64 0) := HS6.out.res.cell 1; have tr2 : W2.cell? ⟨w.heap.size + 1, 2, none⟩ = some (.int .i64 0) := HS6.out.res.cell 2; have tr3 : W2.cell? ⟨w.heap.size + 1, 3, none⟩ = some (.string ⟨#[]⟩) := HS6.out.res.cell 3; have tr4 : W2.cell? ⟨w.heap.size + 1, 4, none⟩ = some (.slice none 0 0) := HS6.out.res.cell 4; have tz0 : W2.frozen? ⟨w.heap.size + 1, 0, none⟩ = false := HS6.out.res.frozen 0; have tz1 : W2.frozen? ⟨w.heap.size + 1, 1, none⟩ = false := HS6.out.res.frozen 1; have tz2 : W2.frozen? ⟨w.heap.size + 1, 2, none⟩ = false := HS6.out.res.frozen 2; have tz3 : W2.frozen? ⟨w.heap.size + 1, 3, none⟩ = false := HS6.out.res.frozen 3; have tz4 : W2.frozen? ⟨w.heap.size + 1, 4, none⟩ = false := HS6.out.res.frozen 4; have tlt : w.heap.size + 1 < W2.heap.size := HS6.out.lt
    go_wp2
    have hrow := rowE_two (w := w) hm (Blk.new W2 42 #[.int .i64 x.kind, .int .i64 x.op, .int .i64 x.n, .string x.name, .slice Ax x.args.length cx, .int .i64 y.kind, .int .i64 y.op, .int .i64 y.n, .string y.name, .slice Ay y.args.length cy]) (HRx6.out.below (below1 _ _)) (HRy6.out.below (below1 _ _)) tlt (by simp)
    have hend := expr_end_alloc HS6.out (.cells #[.int .i64 x.kind, .int .i64 x.op, .int .i64 x.n, .string x.name, .slice Ax x.args.length cx, .int .i64 y.kind, .int .i64 y.op, .int .i64 y.n, .string y.name, .slice Ay y.args.length cy] 42) (⟨4, 1 + (r : Int), 0, ⟨#[]⟩, [x, y]⟩) (.slice (some ⟨W2.heap.size, 0, none⟩) 2 2) (made_two (by omega) HRR.out HMx.out HMy.out) hrow
    refine bodyPost_ret (v := .agg #[.int .i64 (⟨4, 1 + (r : Int), 0, ⟨#[]⟩, [x, y]⟩ : LExpr).kind, .int .i64 (⟨4, 1 + (r : Int), 0, ⟨#[]⟩, [x, y]⟩ : LExpr).op, .int .i64 (⟨4, 1 + (r : Int), 0, ⟨#[]⟩, [x, y]⟩ : LExpr).n, .string (⟨4, 1 + (r : Int), 0, ⟨#[]⟩, [x, y]⟩ : LExpr).name, .slice (some ⟨W2.heap.size, 0, none⟩) 2 2]) (results_cell_row (p := 6) (ty := 42) (by kernel_rfl) _ _ (w.heap.size + 1) 42 _ (0, 0) _ rfl hend.1 Tryz.underlying42 rfl (by kernel_rfl)) rfl hend.2
end
end Go.Proofs.YtmignlclfbaifaaGreat
