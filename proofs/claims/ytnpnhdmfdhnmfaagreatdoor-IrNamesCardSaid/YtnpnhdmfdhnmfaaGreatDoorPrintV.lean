/- Texts of places and ends: ir.v, ir.b, ir.end at small numbers. -/
import Derived.Test.YtnpnhdmfdhnmfaaGreatDoorLaysE
import Derived.Test.YtnpnhdmfdhnmfaaGreatDoorPrintPlain
import Derived.Shelf.Strconv.Itoa3
import Derived.Deep.QuietTactic
import Derived.BigQuiet
import Derived.Laws.Concat
import Derived.Shelf.Strings.BuilderK
namespace Go.Proofs.YtnpnhdmfdhnmfaaGreatDoor
open Go.RowKit

theorem joinX : Builder.Extra Tryz.prog Tryz.joinS_ren := {
  sizeBuilder := by kernel_rfl,
  liesBuilder := by kernel_rfl,
  t5 := Tryz.underlying5,
  a5 := Tryz.isAgg5,
  z5 := Tryz.sizeOf5,
  v5 := Tryz.zeroValue5,
  infoByte := by kernel_rfl,
  cellsByte := by kernel_rfl,
  sizeByte := by kernel_rfl,
  neB5 := by decide }
theorem bwsX : Builder.Extra Tryz.prog Tryz.bws_ren := {
  sizeBuilder := by kernel_rfl,
  liesBuilder := by kernel_rfl,
  t5 := Tryz.underlying5,
  a5 := Tryz.isAgg5,
  z5 := Tryz.sizeOf5,
  v5 := Tryz.zeroValue5,
  infoByte := by kernel_rfl,
  cellsByte := by kernel_rfl,
  sizeByte := by kernel_rfl,
  neB5 := by decide }
theorem bstrX : Builder.Extra Tryz.prog Tryz.bstr_ren := {
  sizeBuilder := by kernel_rfl,
  liesBuilder := by kernel_rfl,
  t5 := Tryz.underlying5,
  a5 := Tryz.isAgg5,
  z5 := Tryz.sizeOf5,
  v5 := Tryz.zeroValue5,
  infoByte := by kernel_rfl,
  cellsByte := by kernel_rfl,
  sizeByte := by kernel_rfl,
  neB5 := by decide }
/-- a text, out of its bytes -/
def S8 (l : List UInt8) : ByteArray := ⟨l.toArray⟩
theorem S8_L8 (s : ByteArray) : S8 (L8 s) = s := by unfold S8 L8; cases s; rfl
theorem S8_size (l : List UInt8) : (S8 l).size = l.length := rfl
theorem sadd (a b : List UInt8) (h : a.length + b.length ≤ 9223372036854775807) (W : World) : (Op.stringOp .add (S8 a) (S8 b)).run Tryz.prog W = .ok (.string (S8 (a ++ b))) W := by
  rw [run_string_add_sum W _ _ (by rw [S8_size, S8_size]; exact h)]
  unfold S8
  rw [ByteArray.mk_append_mk]
theorem saddn (s : ByteArray) (b : List UInt8) (h : s.size + b.length ≤ 9223372036854775807) (W : World) : (Op.stringOp .add s (S8 b)).run Tryz.prog W = .ok (.string (S8 (L8 s ++ b))) W := by
  have := sadd (L8 s) b (by have : (L8 s).length = s.size := rfl; omega) W
  rw [S8_L8] at this
  exact this
theorem dec_len : ∀ (k u : Nat), u < 10 ^ (k + 1) → (Lib.decDigits u).length ≤ k + 1 := by
  intro k
  induction k with
  | zero => intro u h; rw [Lib.decDigits, dif_pos (by simpa using h)]; simp
  | succ k ih =>
    intro u h
    rw [Lib.decDigits]
    by_cases hu : u < 10
    · rw [dif_pos hu]; simp
    · rw [dif_neg hu, List.length_append]
      have := ih (u / 10) (by rw [Nat.pow_succ] at h; omega)
      simp
      omega
theorem itoa_len {n : Int} (h : I64 n) : (Lib.itoa n).length ≤ 20 := by
  obtain ⟨h0, h1⟩ := h
  unfold Lib.itoa
  by_cases hn : n < 0
  · rw [if_pos hn, List.length_cons]
    have := dec_len 18 n.natAbs (by omega)
    omega
  · rw [if_neg hn]
    have := dec_len 18 n.toNat (by omega)
    omega
theorem itoa_len2 {n : Int} (h0 : 0 ≤ n) (h1 : n < 100) : (Lib.itoa n).length ≤ 2 := by
  unfold Lib.itoa
  rw [if_neg (by omega)]
  exact dec_len 1 n.toNat (by omega)
/-- a place's number: 0 to 99 -/
def Pl (n : Int) : Prop := 0 ≤ n ∧ n < 100
theorem vT_len {n : Int} (h : Pl n) : (vT n).length ≤ 3 := by
  have := itoa_len2 h.1 h.2
  simp [vT]; omega
theorem bT_len {n : Int} (h : Pl n) : (bT n).length ≤ 3 := by
  have := itoa_len2 h.1 h.2
  simp [bT]; omega

theorem itoa_small (n : Int) (h : Pl n) (w : World) : Calls Tryz.prog 33 #[.int .i64 n] w fun e w' => e = .returned (.string (S8 (Lib.itoa n))) ∧ w = w' := by
  obtain ⟨i, rfl⟩ := Int.eq_ofNat_of_zero_le h.1
  have hi : i < 100 := by have := h.2; omega
  refine (Any.strconv_Itoa_small Tryz.itoaS i hi w).mono ?_
  rintro e w' ⟨rfl, rfl⟩
  refine ⟨?_, rfl⟩
  have : Lib.itoa (i : Int) = Lib.decDigits i := by unfold Lib.itoa; rw [if_neg (by omega)]; rfl
  rw [this]; rfl

theorem v_any (n : Int) (h : Pl n) (w : World) : Calls Tryz.prog 54 #[.int .i64 n] w fun e w' => e = .returned (.string (S8 (vT n))) ∧ w = w' := by
  have hadd : ∀ W : World, (Op.stringOp .add ⟨#[118]⟩ (S8 (Lib.itoa n))).run Tryz.prog W = .ok (.string (S8 (vT n))) W := fun W => sadd [118] _ (by have := itoa_len2 h.1 h.2; simp; omega) W
  have HI := Lib.hid (fun w => itoa_small n h w)
  clear h
  generalize S8 (Lib.itoa n) = s at *
  generalize S8 (vT n) = t at *
  go_enter Tryz.func54, Tryz.ntmps54
  go_wp2_with (go_at_call 33; refine (HI.out _).mono ?_; rintro e w' ⟨rfl, rfl⟩)
  go_ret
  exact ⟨rfl, rfl⟩
theorem b_any (n : Int) (h : Pl n) (w : World) : Calls Tryz.prog 34 #[.int .i64 n] w fun e w' => e = .returned (.string (S8 (bT n))) ∧ w = w' := by
  have hadd : ∀ W : World, (Op.stringOp .add ⟨#[98]⟩ (S8 (Lib.itoa n))).run Tryz.prog W = .ok (.string (S8 (bT n))) W := fun W => sadd [98] _ (by have := itoa_len2 h.1 h.2; simp; omega) W
  have HI := Lib.hid (fun w => itoa_small n h w)
  clear h
  generalize S8 (Lib.itoa n) = s at *
  generalize S8 (bT n) = t at *
  go_enter Tryz.func34, Tryz.ntmps34
  go_wp2_with (go_at_call 33; refine (HI.out _).mono ?_; rintro e w' ⟨rfl, rfl⟩)
  go_ret
  exact ⟨rfl, rfl⟩
theorem v_quiet {n : Int} {s : ByteArray} (H : ∀ w, Calls Tryz.prog 54 #[.int .i64 n] w fun e w' => e = .returned (.string s) ∧ w = w') (w : World) (m : Nat) : Calls Tryz.prog 54 #[.int .i64 n] (w.drewN m) fun e w'' => e = .returned (.string s) ∧ ∃ m, w'' = w.drewN m :=
  (H (w.drewN m)).mono fun _ _ ⟨he, hw⟩ => ⟨he, m, hw.symm⟩
theorem b_quiet {n : Int} {s : ByteArray} (H : ∀ w, Calls Tryz.prog 34 #[.int .i64 n] w fun e w' => e = .returned (.string s) ∧ w = w') (w : World) (m : Nat) : Calls Tryz.prog 34 #[.int .i64 n] (w.drewN m) fun e w'' => e = .returned (.string s) ∧ ∃ m, w'' = w.drewN m :=
  (H (w.drewN m)).mono fun _ _ ⟨he, hw⟩ => ⟨he, m, hw.symm⟩
theorem below_drewN {B : Nat} {a w : World} (h : Below B a w) (n : Nat) : Below B a (w.drewN n) := ⟨h.os, h.tape, h.output, h.size, h.block⟩

section
set_option maxHeartbeats 2000000
set_option maxRecDepth 100000
theorem end_any (t : LTerm) (ha : Pl t.a) (ht : Pl t.to) (he : Pl t.els) (hk : t.kind = 1 ∨ t.kind = 2 ∨ t.kind = 3 ∨ t.kind = 4) (w : World) :
    Calls Tryz.prog 36 #[.agg #[.int .i64 t.kind, .int .i64 t.a, .int .i64 t.to, .int .i64 t.els]] w fun e w' => e = .returned (.string (S8 (endT t))) ∧ Below w.heap.size w w' := by
  obtain ⟨k, a, dst, els⟩ := t
  replace ha : Pl a := ha
  replace ht : Pl dst := ht
  replace he : Pl els := he
  replace hk : k = 1 ∨ k = 2 ∨ k = 3 ∨ k = 4 := hk
  have la := vT_len ha
  have lt := bT_len ht
  have le := bT_len he
  have HVA := Lib.hid (v_any a ha)
  have HBT := Lib.hid (b_any dst ht)
  have HBE := Lib.hid (b_any els he)
  clear ha ht he
  rcases hk with rfl | rfl | rfl | rfl
  · have e0 : endT ⟨1, a, dst, els⟩ = [106, 117, 109, 112, 32] ++ bT dst := rfl
    rw [e0]
    have hadd : ∀ W : World, (Op.stringOp .add ⟨#[106, 117, 109, 112, 32]⟩ (S8 (bT dst))).run Tryz.prog W = .ok (.string (S8 ([106, 117, 109, 112, 32] ++ bT dst))) W := fun W => sadd _ _ (by simp; omega) W
    generalize S8 ([106, 117, 109, 112, 32] ++ bT dst) = r at *
    generalize S8 (bT dst) = s at *
    clear HVA HBE la lt le e0
    go_enter Tryz.func36, Tryz.ntmps36
    go_wp2_with (go_at_call 34; refine (HBT.out _).mono ?_; rintro e w' ⟨rfl, rfl⟩)
    go_ret
    exact ⟨rfl, (Below.refl _ _).alloc (Nat.le_refl _) _⟩
  · have e0 : endT ⟨2, a, dst, els⟩ = [105, 102, 32] ++ vT a ++ [32] ++ bT dst ++ [32] ++ bT els := rfl
    rw [e0]
    have h1 : ∀ W : World, (Op.stringOp .add ⟨#[105, 102, 32]⟩ (S8 (vT a))).run Tryz.prog W = .ok (.string (S8 ([105, 102, 32] ++ vT a))) W := fun W => sadd _ _ (by simp; omega) W
    have h2 : ∀ W : World, (Op.stringOp .add (S8 ([105, 102, 32] ++ vT a)) ⟨#[32]⟩).run Tryz.prog W = .ok (.string (S8 ([105, 102, 32] ++ vT a ++ [32]))) W := fun W => sadd _ [32] (by simp; omega) W
    have h3 : ∀ W : World, (Op.stringOp .add (S8 ([105, 102, 32] ++ vT a ++ [32])) (S8 (bT dst))).run Tryz.prog W = .ok (.string (S8 ([105, 102, 32] ++ vT a ++ [32] ++ bT dst))) W := fun W => sadd _ _ (by simp; omega) W
    have h4 : ∀ W : World, (Op.stringOp .add (S8 ([105, 102, 32] ++ vT a ++ [32] ++ bT dst)) ⟨#[32]⟩).run Tryz.prog W = .ok (.string (S8 ([105, 102, 32] ++ vT a ++ [32] ++ bT dst ++ [32]))) W := fun W => sadd _ [32] (by simp; omega) W
    have h5 : ∀ W : World, (Op.stringOp .add (S8 ([105, 102, 32] ++ vT a ++ [32] ++ bT dst ++ [32])) (S8 (bT els))).run Tryz.prog W = .ok (.string (S8 ([105, 102, 32] ++ vT a ++ [32] ++ bT dst ++ [32] ++ bT els))) W := fun W => sadd _ _ (by simp; omega) W
    generalize S8 ([105, 102, 32] ++ vT a ++ [32] ++ bT dst ++ [32] ++ bT els) = r5 at *
    generalize S8 ([105, 102, 32] ++ vT a ++ [32] ++ bT dst ++ [32]) = r4 at *
    generalize S8 ([105, 102, 32] ++ vT a ++ [32] ++ bT dst) = r3 at *
    generalize S8 ([105, 102, 32] ++ vT a ++ [32]) = r2 at *
    generalize S8 ([105, 102, 32] ++ vT a) = r1 at *
    generalize S8 (vT a) = va at *
    generalize S8 (bT dst) = bt at *
    generalize S8 (bT els) = be at *
    clear la lt le e0
    go_enter Tryz.func36, Tryz.ntmps36
    go_upto_region 5 with fail
    refine wp_world ?_
    intro W hW
    have hB : Below w.heap.size w W := by rw [← hW]; exact below1 _ _
    have hT : Blk W w.heap.size 41 #[.int .i64 2, .int .i64 a, .int .i64 dst, .int .i64 els] := by rw [← hW]; exact Blk.new_at _ _ _ rfl
    have c1 : W.cell? ⟨w.heap.size, 1, none⟩ = some (.int .i64 a) := hT.cell 1
    have c2 : W.cell? ⟨w.heap.size, 2, none⟩ = some (.int .i64 dst) := hT.cell 2
    have c3 : W.cell? ⟨w.heap.size, 3, none⟩ = some (.int .i64 els) := hT.cell 3
    clear hW
    go_quiet (first | (go_at_call 54; with_reducible exact v_quiet HVA.out _ _) | (go_at_call 34; first | with_reducible exact b_quiet HBT.out _ _ | with_reducible exact b_quiet HBE.out _ _))
    go_wp2
    go_ret
    exact ⟨rfl, below_drewN hB _⟩
  · have e0 : endT ⟨3, a, dst, els⟩ = [114, 101, 116, 117, 114, 110, 32] ++ vT a := rfl
    rw [e0]
    have hadd : ∀ W : World, (Op.stringOp .add ⟨#[114, 101, 116, 117, 114, 110, 32]⟩ (S8 (vT a))).run Tryz.prog W = .ok (.string (S8 ([114, 101, 116, 117, 114, 110, 32] ++ vT a))) W := fun W => sadd _ _ (by simp; omega) W
    generalize S8 ([114, 101, 116, 117, 114, 110, 32] ++ vT a) = r at *
    generalize S8 (vT a) = s at *
    clear HBT HBE la lt le e0
    go_enter Tryz.func36, Tryz.ntmps36
    go_wp2_with (go_at_call 54; refine (HVA.out _).mono ?_; rintro e w' ⟨rfl, rfl⟩)
    go_ret
    exact ⟨rfl, (Below.refl _ _).alloc (Nat.le_refl _) _⟩
  · have e0 : endT ⟨4, a, dst, els⟩ = [116, 114, 97, 112, 32] ++ vT a := rfl
    rw [e0]
    have hadd : ∀ W : World, (Op.stringOp .add ⟨#[116, 114, 97, 112, 32]⟩ (S8 (vT a))).run Tryz.prog W = .ok (.string (S8 ([116, 114, 97, 112, 32] ++ vT a))) W := fun W => sadd _ _ (by simp; omega) W
    generalize S8 ([116, 114, 97, 112, 32] ++ vT a) = r at *
    generalize S8 (vT a) = s at *
    clear HBT HBE la lt le e0
    go_enter Tryz.func36, Tryz.ntmps36
    go_wp2_with (go_at_call 54; refine (HVA.out _).mono ?_; rintro e w' ⟨rfl, rfl⟩)
    go_ret
    exact ⟨rfl, (Below.refl _ _).alloc (Nat.le_refl _) _⟩
end
end Go.Proofs.YtnpnhdmfdhnmfaaGreatDoor
