/- Chapter 11's statement on counting: a loop that counts down tells what it counted; functions call one another so deep as may be. For all numbers. -/
import Derived.Test.YtknccacfhknnaaaCountPlain
namespace Go.Proofs.Ytknccacfhknnaaa
open Go.RowKit

structure CntF (W : World) (a0 a1 a2 : Nat) : Prop where
  h0 : Blk W a0 3 #[.int .i64 2]
  h1 : Blk W a1 43 #[.int .i64 1, .int .i64 1, .int .i64 0, .int .i64 0, .int .i64 0, .int .i64 1, .string ⟨#[]⟩, .slice none 0 0, .int .i64 4, .int .i64 2, .int .i64 0, .int .i64 1, .int .i64 2, .int .i64 0, .string ⟨#[]⟩, .slice none 0 0, .int .i64 9, .int .i64 2, .int .i64 0, .int .i64 0, .int .i64 0, .int .i64 0, .string ⟨#[102]⟩, .slice (some ⟨a0, 0, none⟩) 1 1, .int .i64 4, .int .i64 2, .int .i64 2, .int .i64 1, .int .i64 1, .int .i64 0, .string ⟨#[]⟩, .slice none 0 0]
  h2 : Blk W a2 38 #[.slice none 0 0, .int .i64 2, .int .i64 0, .int .i64 1, .int .i64 2, .slice (some ⟨a1, 0, none⟩) 4 4, .int .i64 3, .int .i64 2, .int .i64 0, .int .i64 0, .slice none 0 0, .int .i64 3, .int .i64 0, .int .i64 0, .int .i64 0]
theorem CntF.below {W W' : World} {a0 a1 a2 : Nat} (h : CntF W a0 a1 a2) (hb : Below W.heap.size W W') : CntF W' a0 a1 a2 := ⟨h.h0.below hb h.h0.lt, h.h1.below hb h.h1.lt, h.h2.below hb h.h2.lt⟩
structure CntM (W : World) (m0 m1 m2 m3 m4 : Nat) : Prop where
  h0 : Blk W m0 43 #[.int .i64 7, .int .i64 0, .int .i64 0, .int .i64 0, .int .i64 0, .int .i64 0, .string ⟨#[]⟩, .slice none 0 0, .int .i64 1, .int .i64 2, .int .i64 0, .int .i64 0, .int .i64 0, .int .i64 1, .string ⟨#[]⟩, .slice none 0 0]
  h1 : Blk W m1 43 #[.int .i64 4, .int .i64 1, .int .i64 1, .int .i64 0, .int .i64 1, .int .i64 0, .string ⟨#[]⟩, .slice none 0 0, .int .i64 4, .int .i64 0, .int .i64 0, .int .i64 2, .int .i64 2, .int .i64 0, .string ⟨#[]⟩, .slice none 0 0]
  h2 : Blk W m2 3 #[.int .i64 3]
  h3 : Blk W m3 43 #[.int .i64 8, .int .i64 0, .int .i64 1, .int .i64 0, .int .i64 0, .int .i64 0, .string ⟨#[]⟩, .slice none 0 0, .int .i64 7, .int .i64 3, .int .i64 0, .int .i64 0, .int .i64 0, .int .i64 0, .string ⟨#[]⟩, .slice none 0 0, .int .i64 9, .int .i64 3, .int .i64 0, .int .i64 0, .int .i64 0, .int .i64 0, .string ⟨#[102]⟩, .slice (some ⟨m2, 0, none⟩) 1 1]
  h4 : Blk W m4 38 #[.slice (some ⟨m0, 0, none⟩) 2 2, .int .i64 1, .int .i64 0, .int .i64 1, .int .i64 0, .slice none 0 0, .int .i64 2, .int .i64 0, .int .i64 2, .int .i64 3, .slice (some ⟨m1, 0, none⟩) 2 2, .int .i64 1, .int .i64 0, .int .i64 1, .int .i64 0, .slice (some ⟨m3, 0, none⟩) 3 3, .int .i64 3, .int .i64 3, .int .i64 0, .int .i64 0]
theorem CntM.below {W W' : World} {m0 m1 m2 m3 m4 : Nat} (h : CntM W m0 m1 m2 m3 m4) (hb : Below W.heap.size W W') : CntM W' m0 m1 m2 m3 m4 := ⟨h.h0.below hb h.h0.lt, h.h1.below hb h.h1.lt, h.h2.below hb h.h2.lt, h.h3.below hb h.h3.lt, h.h4.below hb h.h4.lt⟩
theorem CntF.flow {W : World} {a0 a1 a2 : Nat} (h : CntF W a0 a1 a2) : RFlow W (· < W.heap.size) [.string ⟨#[102]⟩, .int .i64 1, .int .i64 3, .slice (some ⟨a2, 0, none⟩) 3 3] cF := by
  refine ⟨_, rfl, ?_⟩
  refine SlR.lit [[.slice none 0 0, .int .i64 2, .int .i64 0, .int .i64 1, .int .i64 2], [.slice (some ⟨a1, 0, none⟩) 4 4, .int .i64 3, .int .i64 2, .int .i64 0, .int .i64 0], [.slice none 0 0, .int .i64 3, .int .i64 0, .int .i64 0, .int .i64 0]] h.h2 rfl ⟨⟨rfl, ⟨_, rfl, SlR.nil_ _ _ _ _⟩⟩, ⟨rfl, ⟨_, rfl, ?_⟩⟩, ⟨rfl, ⟨_, rfl, SlR.nil_ _ _ _ _⟩⟩, trivial⟩ rfl h.h2.lt (by omega)
  exact SlR.lit [[.int .i64 1, .int .i64 1, .int .i64 0, .int .i64 0, .int .i64 0, .int .i64 1, .string ⟨#[]⟩, .slice none 0 0], [.int .i64 4, .int .i64 2, .int .i64 0, .int .i64 1, .int .i64 2, .int .i64 0, .string ⟨#[]⟩, .slice none 0 0], [.int .i64 9, .int .i64 2, .int .i64 0, .int .i64 0, .int .i64 0, .int .i64 0, .string ⟨#[102]⟩, .slice (some ⟨a0, 0, none⟩) 1 1], [.int .i64 4, .int .i64 2, .int .i64 2, .int .i64 1, .int .i64 1, .int .i64 0, .string ⟨#[]⟩, .slice none 0 0]] h.h1 rfl ⟨⟨rfl, ⟨_, rfl, SlR.nil_ _ _ _ _⟩⟩, ⟨rfl, ⟨_, rfl, SlR.nil_ _ _ _ _⟩⟩, ⟨rfl, ⟨_, rfl, SlR.ints [2] h.h0 rfl rfl h.h0.lt (by omega)⟩⟩, ⟨rfl, ⟨_, rfl, SlR.nil_ _ _ _ _⟩⟩, trivial⟩ rfl h.h1.lt (by omega)
theorem CntM.flow {W : World} {m0 m1 m2 m3 m4 : Nat} (h : CntM W m0 m1 m2 m3 m4) : RFlow W (· < W.heap.size) [.string ⟨#[109, 97, 105, 110]⟩, .int .i64 0, .int .i64 4, .slice (some ⟨m4, 0, none⟩) 4 4] cM := by
  refine ⟨_, rfl, ?_⟩
  refine SlR.lit [[.slice (some ⟨m0, 0, none⟩) 2 2, .int .i64 1, .int .i64 0, .int .i64 1, .int .i64 0], [.slice none 0 0, .int .i64 2, .int .i64 0, .int .i64 2, .int .i64 3], [.slice (some ⟨m1, 0, none⟩) 2 2, .int .i64 1, .int .i64 0, .int .i64 1, .int .i64 0], [.slice (some ⟨m3, 0, none⟩) 3 3, .int .i64 3, .int .i64 3, .int .i64 0, .int .i64 0]] h.h4 rfl ⟨⟨rfl, ⟨_, rfl, ?_⟩⟩, ⟨rfl, ⟨_, rfl, SlR.nil_ _ _ _ _⟩⟩, ⟨rfl, ⟨_, rfl, ?_⟩⟩, ⟨rfl, ⟨_, rfl, ?_⟩⟩, trivial⟩ rfl h.h4.lt (by omega)
  · exact SlR.lit [[.int .i64 7, .int .i64 0, .int .i64 0, .int .i64 0, .int .i64 0, .int .i64 0, .string ⟨#[]⟩, .slice none 0 0], [.int .i64 1, .int .i64 2, .int .i64 0, .int .i64 0, .int .i64 0, .int .i64 1, .string ⟨#[]⟩, .slice none 0 0]] h.h0 rfl ⟨⟨rfl, ⟨_, rfl, SlR.nil_ _ _ _ _⟩⟩, ⟨rfl, ⟨_, rfl, SlR.nil_ _ _ _ _⟩⟩, trivial⟩ rfl h.h0.lt (by omega)
  · exact SlR.lit [[.int .i64 4, .int .i64 1, .int .i64 1, .int .i64 0, .int .i64 1, .int .i64 0, .string ⟨#[]⟩, .slice none 0 0], [.int .i64 4, .int .i64 0, .int .i64 0, .int .i64 2, .int .i64 2, .int .i64 0, .string ⟨#[]⟩, .slice none 0 0]] h.h1 rfl ⟨⟨rfl, ⟨_, rfl, SlR.nil_ _ _ _ _⟩⟩, ⟨rfl, ⟨_, rfl, SlR.nil_ _ _ _ _⟩⟩, trivial⟩ rfl h.h1.lt (by omega)
  · exact SlR.lit [[.int .i64 8, .int .i64 0, .int .i64 1, .int .i64 0, .int .i64 0, .int .i64 0, .string ⟨#[]⟩, .slice none 0 0], [.int .i64 7, .int .i64 3, .int .i64 0, .int .i64 0, .int .i64 0, .int .i64 0, .string ⟨#[]⟩, .slice none 0 0], [.int .i64 9, .int .i64 3, .int .i64 0, .int .i64 0, .int .i64 0, .int .i64 0, .string ⟨#[102]⟩, .slice (some ⟨m2, 0, none⟩) 1 1]] h.h3 rfl ⟨⟨rfl, ⟨_, rfl, SlR.nil_ _ _ _ _⟩⟩, ⟨rfl, ⟨_, rfl, SlR.nil_ _ _ _ _⟩⟩, ⟨rfl, ⟨_, rfl, SlR.ints [3] h.h2 rfl rfl h.h2.lt (by omega)⟩⟩, trivial⟩ rfl h.h3.lt (by omega)
theorem cnt_run {W : World} {a0 a1 a2 m0 m1 m2 m3 m4 g : Nat} (hf : CntF W a0 a1 a2) (hm : CntM W m0 m1 m2 m3 m4) (hg : Blk W g 25 #[.string ⟨#[102]⟩, .int .i64 1, .int .i64 3, .slice (some ⟨a2, 0, none⟩) 3 3, .string ⟨#[109, 97, 105, 110]⟩, .int .i64 0, .int .i64 4, .slice (some ⟨m4, 0, none⟩) 4 4]) {k d : Nat} {st co sp acc : Int} (hx : CountX k d st co sp acc) (vin : Value) (hin : SlR W (· < W.heap.size) 1 RInt vin [(k : Int), (d : Int)]) :
    Calls Try.prog 20 #[.agg #[.slice none 0 0, .slice (some ⟨g, 0, none⟩) 2 2], vin, .int .i64 10000] W fun e w' => ∃ b off c, e = .returned (.agg #[.int .i64 st, .int .i64 co, .slice (some ⟨b, off, none⟩) 1 c, .int .i64 sp]) ∧ Below W.heap.size W w' ∧ w'.cell? ⟨b, off, none⟩ = some (.int .i64 acc) := by
  have hfl : SlR W (· < W.heap.size) 4 (RFlow W (· < W.heap.size)) (.slice (some ⟨g, 0, none⟩) 2 2) cU.flows := SlR.lit [[.string ⟨#[102]⟩, .int .i64 1, .int .i64 3, .slice (some ⟨a2, 0, none⟩) 3 3], [.string ⟨#[109, 97, 105, 110]⟩, .int .i64 0, .int .i64 4, .slice (some ⟨m4, 0, none⟩) 4 4]] hg rfl ⟨⟨rfl, hf.flow⟩, ⟨rfl, hm.flow⟩, trivial⟩ rfl hg.lt (by omega)
  have hr := run_any cU cU_ok [(k : Int), (d : Int)] 10000 (by omega) none (some ⟨g, 0, none⟩) 0 2 vin W (SlR.nil_ _ _ _ _) hfl hin
  rw [hx.status, hx.code, hx.steps, hx.out] at hr
  refine hr.mono fun e w' ⟨vout, he, hb, hown⟩ => ?_
  obtain ⟨b, off, c, hv, _, _, _, hel⟩ := (slr_of_own hown).form (by simp)
  subst hv
  obtain ⟨cs, _, hcs, hcell⟩ := hel 0 (by simp)
  unfold RInt at hcs
  subst hcs
  have h0 := hcell.at_ (j := 0) rfl
  exact ⟨b, off, c, he, hb, by simpa using h0⟩
set_option maxRecDepth 100000 in
set_option maxHeartbeats 8000000 in
theorem irrunCounts_walk (n deep : Int) (wa : (Lit.int .i64 n).wf = true) (wo : (Lit.int .i64 deep).wf = true) (w : World) :
    Calls Try.prog 8 #[.int .i64 n, .int .i64 deep] w fun e w' => e = .returned (.bool true) ∧ Below w.heap.size w w' := by
  obtain ⟨io, io'⟩ := i64_of_wf wa
  obtain ⟨jo, jo'⟩ := i64_of_wf wo
  have HAW := Lib.hid (awake11_any w)
  have HP1 := Lib.hid (fun w2 => pick11_any n 101 io io' (by omega) w2)
  have HP2 := Lib.hid (fun w2 => pick11_any deep 101 jo jo' (by omega) w2)
  have p0 := pk_lo n 101 (by omega)
  have p1 := pk_hi n 101 (by omega)
  have k0 := pk_lo deep 101 (by omega)
  have k1 := pk_hi deep 101 (by omega)
  generalize pk n 101 = kk at *
  generalize pk deep 101 = dd at *
  obtain ⟨k, rfl⟩ := Int.eq_ofNat_of_zero_le p0
  obtain ⟨d, rfl⟩ := Int.eq_ofNat_of_zero_le k0
  have hk : k ≤ 100 := by omega
  have hd : d ≤ 100 := by omega
  clear p0 p1 k0 k1
  have tok : True := trivial
  go_enter Try.func8, Try.ntmps8
  go_upto_region 4 with (first | (go_at_call 18; refine HAW.out.mono ?_; rintro e w2 ⟨rfl, hb2⟩) | (go_at_call 19; have _t := tok; refine (HP1.out _).mono ?_; rintro e w3 ⟨rfl, rfl⟩; clear tok) | (go_at_call 19; refine (HP2.out _).mono ?_; rintro e w4 ⟨rfl, rfl⟩))
  refine wp_world ?_
  intro W0 hW0
  have hB0 : Below w.heap.size w W0 := by rw [← hW0]; exact hb2
  have HB0 := Lib.hid hB0
  have hs0 := hB0.size
  clear hW0 hb2 hB0 HAW HP1 HP2
  go_upto_region 5 with fail
  refine wp_world ?_
  intro W1 hW1
  have hF1 : CntF W1 W0.heap.size (W0.heap.size + 1) (W0.heap.size + 1 + 1) := by
    rw [← hW1]
    exact ⟨(((Blk.new W0 _ _).alloc _).alloc _).alloc _, ((Blk.new_at _ _ _ (by simp)).alloc _).alloc _, (Blk.new_at _ _ _ (by simp)).alloc _⟩
  have hV1 : Blk W1 (W0.heap.size + 1 + 1 + 1) 25 #[.string ⟨#[102]⟩, .int .i64 1, .int .i64 3, .slice (some ⟨W0.heap.size + 1 + 1, 0, none⟩) 3 3] := by rw [← hW1]; exact Blk.new_at _ _ _ (by simp)
  have hB1 : Below w.heap.size w W1 := by
    rw [← hW1]
    exact (((HB0.out.alloc hs0 _).alloc (by simp; omega) _).alloc (by simp; omega) _).alloc (by simp; omega) _
  have HF1 := Lib.hid hF1
  have HV1 := Lib.hid hV1
  have HB1 := Lib.hid hB1
  have hvl := hV1.lt
  have hs1 := hB1.size
  clear hW1 hF1 hV1 hB1
  go_upto_region 6 with fail
  refine wp_world ?_
  intro W2 hW2
  have hb2 : Below W1.heap.size W1 W2 := by
    rw [← hW2]
    exact ((((((Below.refl _ _).alloc (Nat.le_refl _) _).alloc (by simp) _).alloc (by simp; omega) _).alloc (by simp; omega) _).alloc (by simp; omega) _).alloc (by simp; omega) _
  have hM2 : CntM W2 W1.heap.size (W1.heap.size + 1) (W1.heap.size + 1 + 1) (W1.heap.size + 1 + 1 + 1) (W1.heap.size + 1 + 1 + 1 + 1) := by
    rw [← hW2]
    exact ⟨(((((Blk.new W1 _ _).alloc _).alloc _).alloc _).alloc _).alloc _, ((((Blk.new_at _ _ _ (by simp)).alloc _).alloc _).alloc _).alloc _, (((Blk.new_at _ _ _ (by simp)).alloc _).alloc _).alloc _, ((Blk.new_at _ _ _ (by simp)).alloc _).alloc _, (Blk.new_at _ _ _ (by simp)).alloc _⟩
  have hV2 : Blk W2 (W1.heap.size + 1 + 1 + 1 + 1 + 1) 25 #[.string ⟨#[109, 97, 105, 110]⟩, .int .i64 0, .int .i64 4, .slice (some ⟨W1.heap.size + 1 + 1 + 1 + 1, 0, none⟩) 4 4] := by rw [← hW2]; exact Blk.new_at _ _ _ (by simp)
  clear hW2
  have hV1 := HV1.out.below hb2 hvl
  have f0 : W2.cell? ⟨W0.heap.size + 1 + 1 + 1, 0, none⟩ = some (.string ⟨#[102]⟩) := hV1.cell 0
  have f1 : W2.cell? ⟨W0.heap.size + 1 + 1 + 1, 1, none⟩ = some (.int .i64 1) := hV1.cell 1
  have f2 : W2.cell? ⟨W0.heap.size + 1 + 1 + 1, 2, none⟩ = some (.int .i64 3) := hV1.cell 2
  have f3 : W2.cell? ⟨W0.heap.size + 1 + 1 + 1, 3, none⟩ = some (.slice (some ⟨W0.heap.size + 1 + 1, 0, none⟩) 3 3) := hV1.cell 3
  have m0 : W2.cell? ⟨W1.heap.size + 1 + 1 + 1 + 1 + 1, 0, none⟩ = some (.string ⟨#[109, 97, 105, 110]⟩) := hV2.cell 0
  have m1 : W2.cell? ⟨W1.heap.size + 1 + 1 + 1 + 1 + 1, 1, none⟩ = some (.int .i64 0) := hV2.cell 1
  have m2 : W2.cell? ⟨W1.heap.size + 1 + 1 + 1 + 1 + 1, 2, none⟩ = some (.int .i64 4) := hV2.cell 2
  have m3 : W2.cell? ⟨W1.heap.size + 1 + 1 + 1 + 1 + 1, 3, none⟩ = some (.slice (some ⟨W1.heap.size + 1 + 1 + 1 + 1, 0, none⟩) 4 4) := hV2.cell 3
  have hb3 : Below W2.heap.size W2 ((W2.alloc (.cells #[.string ⟨#[102]⟩, .int .i64 1, .int .i64 3, .slice (some ⟨W0.heap.size + 1 + 1, 0, none⟩) 3 3, .string ⟨#[109, 97, 105, 110]⟩, .int .i64 0, .int .i64 4, .slice (some ⟨W1.heap.size + 1 + 1 + 1 + 1, 0, none⟩) 4 4] 25)).alloc (.cells #[.int .i64 (k : Int), .int .i64 (d : Int)] 3)) := ((Below.refl _ _).alloc (Nat.le_refl _) _).alloc (by simp) _
  have HM2 := Lib.hid hM2
  have HB2 := Lib.hid hb2
  have HB3 := Lib.hid hb3
  have HF3 := Lib.hid ((HF1.out.below hb2).below hb3)
  have HM3 := Lib.hid (hM2.below hb3)
  have hG3 : Blk ((W2.alloc (.cells #[.string ⟨#[102]⟩, .int .i64 1, .int .i64 3, .slice (some ⟨W0.heap.size + 1 + 1, 0, none⟩) 3 3, .string ⟨#[109, 97, 105, 110]⟩, .int .i64 0, .int .i64 4, .slice (some ⟨W1.heap.size + 1 + 1 + 1 + 1, 0, none⟩) 4 4] 25)).alloc (.cells #[.int .i64 (k : Int), .int .i64 (d : Int)] 3)) W2.heap.size 25 #[.string ⟨#[102]⟩, .int .i64 1, .int .i64 3, .slice (some ⟨W0.heap.size + 1 + 1, 0, none⟩) 3 3, .string ⟨#[109, 97, 105, 110]⟩, .int .i64 0, .int .i64 4, .slice (some ⟨W1.heap.size + 1 + 1 + 1 + 1, 0, none⟩) 4 4] := (Blk.new W2 _ _).alloc _
  have hI3 : SlR ((W2.alloc (.cells #[.string ⟨#[102]⟩, .int .i64 1, .int .i64 3, .slice (some ⟨W0.heap.size + 1 + 1, 0, none⟩) 3 3, .string ⟨#[109, 97, 105, 110]⟩, .int .i64 0, .int .i64 4, .slice (some ⟨W1.heap.size + 1 + 1 + 1 + 1, 0, none⟩) 4 4] 25)).alloc (.cells #[.int .i64 (k : Int), .int .i64 (d : Int)] 3)) (· < ((W2.alloc (.cells #[.string ⟨#[102]⟩, .int .i64 1, .int .i64 3, .slice (some ⟨W0.heap.size + 1 + 1, 0, none⟩) 3 3, .string ⟨#[109, 97, 105, 110]⟩, .int .i64 0, .int .i64 4, .slice (some ⟨W1.heap.size + 1 + 1 + 1 + 1, 0, none⟩) 4 4] 25)).alloc (.cells #[.int .i64 (k : Int), .int .i64 (d : Int)] 3)).heap.size) 1 RInt (.slice (some ⟨W2.heap.size + 1, 0, none⟩) 2 2) [(k : Int), (d : Int)] := SlR.ints [(k : Int), (d : Int)] (Blk.new_at _ _ _ (by simp)) rfl rfl (by simp) (by omega)
  have hall := HB1.out.trans (hb2.mono hs1)
  have hall3 := hall.trans (hb3.mono hall.size)
  have HALL := Lib.hid hall3
  clear hM2 hb2 hb3 hV2 hV1 hall hall3
  have w1 : IntKind.i64.wrap ((k : Int) + 1) = (k : Int) + 1 := by rw [IntKind.wrap_i64]; omega
  have hth := tri_half k hk
  have htl := tri_le k hk
  have hmul : (k : Int) * ((k : Int) + 1) ≤ 10100 ∧ 0 ≤ (k : Int) * ((k : Int) + 1) := by
    have h : ∀ k : Fin 101, (k.val : Int) * ((k.val : Int) + 1) ≤ 10100 ∧ 0 ≤ (k.val : Int) * ((k.val : Int) + 1) := by decide
    exact h ⟨k, by omega⟩
  have w2 : IntKind.i64.wrap ((k : Int) * ((k : Int) + 1)) = (k : Int) * ((k : Int) + 1) := by rw [IntKind.wrap_i64]; omega
  have HTH := Lib.hid hth
  by_cases hdd : d ≤ 48
  · have HR := Lib.hid (cnt_run HF3.out HM3.out hG3 (count_done hk hdd) _ hI3)
    clear hG3 hI3 hmul
    obtain ⟨sp, hsp⟩ : ∃ sp : Int, sp = 3 + 4 * k + 4 + 4 * d + 2 + 2 * d + 1 := ⟨_, rfl⟩
    rw [← hsp] at HR
    have HSP := Lib.hid hsp
    clear hsp
    go_upto_region 7 with (go_at_call 20; refine HR.out.mono ?_; rintro e w5 ⟨b, off, c, rfl, hb5, ho5⟩)
    refine wp_world ?_
    intro W6 hW6
    have hB6 : Below w.heap.size w W6 := by
      have h2 := HALL.out.trans (hb5.mono HALL.out.size)
      rw [← hW6]; exact h2.alloc h2.size _
    have hR6 : Blk W6 w5.heap.size 48 #[.int .i64 1, .int .i64 (d : Int), .slice (some ⟨b, off, none⟩) 1 c, .int .i64 sp] := by rw [← hW6]; exact Blk.new w5 _ _
    have o6 : W6.cell? ⟨b, off, none⟩ = some (.int .i64 (tri k : Int)) := by rw [← hW6]; exact (World.cell?_alloc_lt w5 _ _ (World.block_lt_of_cell? w5 _ ho5)).trans ho5
    clear hW6 ho5 f0 f1 f2 f3 m0 m1 m2 m3
    have r0 : W6.cell? ⟨w5.heap.size, 0, none⟩ = some (.int .i64 1) := hR6.cell 0
    have r1 : W6.cell? ⟨w5.heap.size, 1, none⟩ = some (.int .i64 (d : Int)) := hR6.cell 1
    have r2 : W6.cell? ⟨w5.heap.size, 2, none⟩ = some (.slice (some ⟨b, off, none⟩) 1 c) := hR6.cell 2
    have r3 : W6.cell? ⟨w5.heap.size, 3, none⟩ = some (.int .i64 sp) := hR6.cell 3
    have HB6 := Lib.hid hB6
    clear hR6 hB6
    have e3 : decide ((d : Int) > 48) = false := decide_eq_false (by omega)
    have e4 : decide (48 < (d : Int)) = false := decide_eq_false (by omega)
    have s1 : IntKind.i64.wrap (4 * (k : Int)) = 4 * (k : Int) := by rw [IntKind.wrap_i64]; omega
    have s2 : IntKind.i64.wrap (3 + 4 * (k : Int)) = 3 + 4 * (k : Int) := by rw [IntKind.wrap_i64]; omega
    have s3 : IntKind.i64.wrap (3 + 4 * (k : Int) + 1) = 3 + 4 * (k : Int) + 1 := by rw [IntKind.wrap_i64]; omega
    have s4 : IntKind.i64.wrap (3 + 4 * (k : Int) + 1 + 3) = 3 + 4 * (k : Int) + 1 + 3 := by rw [IntKind.wrap_i64]; omega
    have s5 : IntKind.i64.wrap (3 + 4 * (k : Int) + 1 + 3 + 1) = 3 + 4 * (k : Int) + 1 + 3 + 1 := by rw [IntKind.wrap_i64]; omega
    have s6 : IntKind.i64.wrap (6 * (d : Int)) = 6 * (d : Int) := by rw [IntKind.wrap_i64]; omega
    have s7 : IntKind.i64.wrap (3 + 4 * (k : Int) + 1 + 3 + 1 + 6 * (d : Int)) = 3 + 4 * (k : Int) + 1 + 3 + 1 + 6 * (d : Int) := by rw [IntKind.wrap_i64]; omega
    have s8 : IntKind.i64.wrap (3 + 4 * (k : Int) + 1 + 3 + 1 + 6 * (d : Int) + 2) = 3 + 4 * (k : Int) + 1 + 3 + 1 + 6 * (d : Int) + 2 := by rw [IntKind.wrap_i64]; omega
    have s9 : (sp == 3 + 4 * (k : Int) + 1 + 3 + 1 + 6 * (d : Int) + 2) = true := by have := HSP.out; rw [beq_dec]; exact decide_eq_true (by omega)
    go_wp2
    go_ret
    exact ⟨rfl, HB6.out⟩
  · obtain ⟨sp, hx⟩ := count_deep hk (by omega : 48 < d) hd
    have HR := Lib.hid (cnt_run HF3.out HM3.out hG3 hx _ hI3)
    clear hG3 hI3 hmul hx
    go_upto_region 7 with (go_at_call 20; refine HR.out.mono ?_; rintro e w5 ⟨b, off, c, rfl, hb5, ho5⟩)
    refine wp_world ?_
    intro W6 hW6
    have hB6 : Below w.heap.size w W6 := by
      have h2 := HALL.out.trans (hb5.mono HALL.out.size)
      rw [← hW6]; exact h2.alloc h2.size _
    have hR6 : Blk W6 w5.heap.size 48 #[.int .i64 4, .int .i64 0, .slice (some ⟨b, off, none⟩) 1 c, .int .i64 sp] := by rw [← hW6]; exact Blk.new w5 _ _
    have o6 : W6.cell? ⟨b, off, none⟩ = some (.int .i64 (tri k : Int)) := by rw [← hW6]; exact (World.cell?_alloc_lt w5 _ _ (World.block_lt_of_cell? w5 _ ho5)).trans ho5
    clear hW6 ho5 f0 f1 f2 f3 m0 m1 m2 m3
    have r0 : W6.cell? ⟨w5.heap.size, 0, none⟩ = some (.int .i64 4) := hR6.cell 0
    have r1 : W6.cell? ⟨w5.heap.size, 1, none⟩ = some (.int .i64 0) := hR6.cell 1
    have r2 : W6.cell? ⟨w5.heap.size, 2, none⟩ = some (.slice (some ⟨b, off, none⟩) 1 c) := hR6.cell 2
    have r3 : W6.cell? ⟨w5.heap.size, 3, none⟩ = some (.int .i64 sp) := hR6.cell 3
    have HB6 := Lib.hid hB6
    clear hR6 hB6
    have e3 : decide ((d : Int) > 48) = true := decide_eq_true (by omega)
    have e4 : decide (48 < (d : Int)) = true := decide_eq_true (by omega)
    go_wp2
    go_ret
    exact ⟨rfl, HB6.out⟩
end Go.Proofs.Ytknccacfhknnaaa
