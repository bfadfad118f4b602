/- What scan.Name does at the names that there are here: it tells that they may be. The library's functions that are leaned on: their bodies are those that the shelf's contracts speak of. Printed by wip/gen_lays.py. The library's functions that are leaned on: their bodies are those that the shelf's contracts speak of. Printed by wip/gen_lays.py. The library's functions that are leaned on: their bodies are those that the shelf's contracts speak of. Printed by wip/gen_lays.py. What ir.names does at a unit whose names may be, each there once: it tells that they may be, together. Printed by wip/gen_irnames.py. -/
import Derived.Test.YtkpigkopjfkepaaGreatDoorPrIrSmall
import Derived.Laws.RangeString
import Derived.Laws.RangeAny
import Derived.Test.YtkpigkopjfkepaaGreatDoorRows
import Derived.Shelf.SlLaysE
import Derived.Shelf.SlLaysM
import Derived.Shelf.SlLaysX
import Derived.Shelf.SlLaysZI
import Derived.Shelf.SlLaysE0
import Derived.Shelf.Lays
import Derived.Shelf.LaysM
import Derived.Test.YtkpigkopjfkepaaGreatDoorPrIrNamed
import Derived.Deep.AppendLies
import Derived.Shelf.SortM.Plain
import Derived.Shelf.SortM.SortNone
import Derived.Sort.OwnSorted
import Derived.Shelf.SlicesE.Clone
import Derived.Shelf.SlicesE.Compact
namespace Go.Proofs.YtkpigkopjfkepaaGreatDoor
open Go.RowKit
def NameG (s : ByteArray) : Prop := s = sMain ∨ s = sF ∨ s = sG ∨ s = sA ∨ s = sB
theorem NameG.size {s : ByteArray} (h : NameG s) : 0 < s.size ∧ s.size ≤ 20 := by
 rcases h with rfl | rfl | rfl | rfl | rfl <;> decide
theorem NameG.low {s : ByteArray} (h : NameG s) : ∀ (i : Nat) (hi : i < s.size), 97 ≤ (s[i]'hi).toNat ∧ (s[i]'hi).toNat ≤ 122 := by
 rcases h with rfl | rfl | rfl | rfl | rfl <;> decide
theorem word_any {s : ByteArray} (h : NameG s) (w : World) : Calls Tryz.prog 91 #[.string s] w fun e w' => e = .returned (.bool false) ∧ w = w' := by
 rcases h with rfl | rfl | rfl | rfl | rfl
 ·unfold sMain
  go_enter Tryz.func91, Tryz.ntmps91
  go_wp2
  go_ret
  exact ⟨rfl, rfl⟩
 ·unfold sF
  go_enter Tryz.func91, Tryz.ntmps91
  go_wp2
  go_ret
  exact ⟨rfl, rfl⟩
 ·unfold sG
  go_enter Tryz.func91, Tryz.ntmps91
  go_wp2
  go_ret
  exact ⟨rfl, rfl⟩
 ·unfold sA
  go_enter Tryz.func91, Tryz.ntmps91
  go_wp2
  go_ret
  exact ⟨rfl, rfl⟩
 ·unfold sB
  go_enter Tryz.func91, Tryz.ntmps91
  go_wp2
  go_ret
  exact ⟨rfl, rfl⟩
theorem letter_any (r : Int) (h1 : 97 ≤ r) (h2 : r ≤ 122) (w : World) : Calls Tryz.prog 92 #[.int .i32 r] w fun e w' => e = .returned (.bool true) ∧ w = w' := by
 have b0 : (r == 95) = false := by rw [beq_dec]; exact decide_eq_false (by omega)
 have d1 : decide (97 ≤ r) = true := decide_eq_true h1
 have d2 : decide (r ≤ 122) = true := decide_eq_true h2
 go_enter Tryz.func92, Tryz.ntmps92
 go_wp2
 go_ret
 exact ⟨rfl, rfl⟩
set_option maxRecDepth 100000 in
set_option maxHeartbeats 2000000 in
theorem name_any {s : ByteArray} (h : NameG s) (w : World) : Calls Tryz.prog 59 #[.string s] w fun e w' => e = .returned (.bool true) ∧ Below w.heap.size w w' := by
 have HL := Lib.hid h.low
 have HW := Lib.hid (fun w => word_any h w)
 obtain ⟨hs0, hs20⟩ := h.size
 have dn : ¬ s.toList = [] := fun e => by
  rw [ByteArray.toList_eq] at e
  have : s.size = 0 := by show s.data.size = 0; rw [← Array.length_toList, e]; rfl
  omega
 have dn2 : s.toList.isEmpty = false := by rw [List.isEmpty_eq_false_iff]; exact dn
 have dn3 : (s.toList == []) = false := by simp [dn]
 have d1 : decide ((s.size : Int) > 20) = false := decide_eq_false (by omega)
 have d2 : decide (20 < (s.size : Int)) = false := decide_eq_false (by omega)
 clear h
 go_enter Tryz.func59, Tryz.ntmps59
 go_wp2_with (go_at_call 91; refine (HW.out _).mono ?_; rintro e w' ⟨rfl, rfl⟩)
 clear dn dn2 dn3 d1 d2
 go_loopw [3] (fun _ wr => ∃ pos : Nat, wr = w.iter s pos) (fun _ w' => s.size - w'.iterPos w.heap.size)
 case atStart => exact ⟨0, rfl⟩
 case round =>
  obtain ⟨pos, rfl⟩ := hrel
  by_cases hp : pos < s.size
  ·have hlo := HL.out pos hp
   have hnx : ∀ ty, (Instr.next (.pointer (some ⟨w.heap.size, 0, none⟩)) true ty).run Tryz.prog (w.iter s pos) = _ := fun ty => run_next_ascii w s pos ty hp (by omega)
   have HLE := Lib.hid (fun w => letter_any ((s[pos]'hp).toNat : Int) (by omega) (by omega) w)
   clear hlo
   go_wp2_with (go_at_call 92; refine (HLE.out _).mono ?_; rintro e w' ⟨rfl, rfl⟩)
   go_roundw
   case rel => exact ⟨_, rfl⟩
   case measure => simp; omega
  ·have hnx : ∀ ty, (Instr.next (.pointer (some ⟨w.heap.size, 0, none⟩)) true ty).run Tryz.prog (w.iter s pos) = _ := fun ty => run_next_end w s pos ty hp
   go_wp2
   go_ret
   exact ⟨rfl, below1 _ _⟩
theorem names1_pred (l : List ByteArray) (w : World) (hl : ∀ s ∈ l, NameG s) : Pred_str 58 #[] (fun _ => false) l w := by
 intro W x hx hb
 have HN := Lib.hid (name_any (hl x hx) W)
 go_enter Tryz.func58, Tryz.ntmps58
 go_wp2_with (go_at_call 59; refine HN.out.mono ?_; rintro e w' ⟨rfl, hb1⟩)
 go_ret
 exact ⟨rfl, hb.trans (hb1.mono hb.size)⟩
end Go.Proofs.YtkpigkopjfkepaaGreatDoor
namespace Go.Proofs.YtkpigkopjfkepaaGreatDoor
open Go.Shelf Go.Proofs
def Tryz.keysL_ren : Go.Shelf.Ren := ⟨fun | 7 => 163 | 10 => 177 | n => n, fun | 23 => 165 | 26 => 3 | 3 => 196 | 28 => 200 | 0 => 0 | 27 => 199 | 33 => 121 | 4 => 4 | n => n, fun | n => n⟩
theorem Tryz.keysL : Go.Proofs.SlLaysZI.n7 Tryz.prog Tryz.keysL_ren := {
 mixed := by kernel_rfl,
 f7 := ⟨Tryz.f163.name, by decide, Tryz.func163.trans (congrArg some (by kernel_rfl))⟩,
 f10 := ⟨Tryz.f177.name, by decide, Tryz.func177.trans (congrArg some (by kernel_rfl))⟩,
 t0 := Tryz.underlying0,
 a0 := Tryz.isAgg0,
 z0 := Tryz.sizeOf0,
 v0 := Tryz.zeroValue0,
 t4 := Tryz.underlying4,
 a4 := Tryz.isAgg4,
 z4 := Tryz.sizeOf4,
 v4 := Tryz.zeroValue4,
 t23 := Tryz.underlying165,
 a23 := Tryz.isAgg165,
 z23 := Tryz.sizeOf165,
 v23 := Tryz.zeroValue165,
 t26 := Tryz.underlying3,
 a26 := Tryz.isAgg3,
 z26 := Tryz.sizeOf3,
 v26 := Tryz.zeroValue3,
 t27 := Tryz.underlying199,
 a27 := Tryz.isAgg199,
 z27 := Tryz.sizeOf199,
 v27 := Tryz.zeroValue199,
 t28 := Tryz.underlying200,
 a28 := Tryz.isAgg200,
 z28 := Tryz.sizeOf200,
 v28 := Tryz.zeroValue200,
 t33 := Tryz.underlying121,
 a33 := Tryz.isAgg121,
 z33 := Tryz.sizeOf121,
 v33 := Tryz.zeroValue121 }
def Tryz.sortedL_ren : Go.Shelf.Ren := ⟨fun | 6 => 162 | 8 => 175 | 9 => 176 | 11 => 181 | 13 => 89 | 12 => 182 | 23 => 129 | 24 => 130 | 14 => 183 | 15 => 184 | 16 => 185 | 17 => 186 | 18 => 187 | 19 => 188 | 20 => 189 | 21 => 190 | 22 => 191 | 25 => 192 | 26 => 165 | 27 => 166 | 28 => 193 | 29 => 194 | 30 => 195 | 31 => 196 | n => n, fun | 26 => 3 | 28 => 200 | 24 => 38 | 0 => 0 | 3 => 3 | 37 => 141 | 48 => 186 | 50 => 188 | 4 => 4 | 40 => 179 | 39 => 178 | 45 => 77 | 5 => 5 | 9 => 9 | 51 => 202 | 55 => 153 | 57 => 211 | 58 => 212 | 33 => 121 | n => n, fun | n => n⟩
theorem Tryz.sortedL : Go.Proofs.SlLaysZI.n6 Tryz.prog Tryz.sortedL_ren := {
 mixed := by kernel_rfl,
 f6 := ⟨Tryz.f162.name, by decide, Tryz.func162.trans (congrArg some (by kernel_rfl))⟩,
 f8 := ⟨Tryz.f175.name, by decide, Tryz.func175.trans (congrArg some (by kernel_rfl))⟩,
 f11 := ⟨Tryz.f181.name, by decide, Tryz.func181.trans (congrArg some (by kernel_rfl))⟩,
 t0 := Tryz.underlying0,
 a0 := Tryz.isAgg0,
 z0 := Tryz.sizeOf0,
 v0 := Tryz.zeroValue0,
 t24 := Tryz.underlying38,
 a24 := Tryz.isAgg38,
 z24 := Tryz.sizeOf38,
 v24 := Tryz.zeroValue38,
 t26 := Tryz.underlying3,
 a26 := Tryz.isAgg3,
 z26 := Tryz.sizeOf3,
 v26 := Tryz.zeroValue3,
 t28 := Tryz.underlying200,
 a28 := Tryz.isAgg200,
 z28 := Tryz.sizeOf200,
 v28 := Tryz.zeroValue200,
 i26 := by kernel_rfl }
def Tryz.sortL_ren : Go.Shelf.Ren := ⟨fun | 5 => 176 | 8 => 89 | 7 => 182 | 19 => 129 | 20 => 130 | 10 => 183 | 11 => 184 | 12 => 185 | 13 => 186 | 14 => 187 | 15 => 188 | 16 => 189 | 17 => 190 | 18 => 191 | 30 => 192 | 31 => 165 | 32 => 166 | 33 => 193 | 34 => 194 | 35 => 195 | 40 => 196 | n => n, fun | 23 => 38 | 25 => 3 | 3 => 3 | 32 => 141 | 22 => 38 | 0 => 0 | 44 => 186 | 46 => 188 | 4 => 4 | 36 => 179 | 35 => 178 | 41 => 77 | 5 => 5 | 9 => 9 | 53 => 202 | 57 => 153 | 63 => 211 | 64 => 212 | n => n, fun | n => n⟩
theorem Tryz.sortL : Go.Proofs.SlLaysM.n5 Tryz.prog Tryz.sortL_ren := {
 mixed := by kernel_rfl,
 f5 := ⟨Tryz.f176.name, by decide, Tryz.func176.trans (congrArg some (by kernel_rfl))⟩,
 f7 := ⟨Tryz.f182.name, by decide, Tryz.func182.trans (congrArg some (by kernel_rfl))⟩,
 f8 := Tryz.func89.trans (congrArg some (by kernel_rfl)),
 f10 := ⟨Tryz.f183.name, by decide, Tryz.func183.trans (congrArg some (by kernel_rfl))⟩,
 f11 := ⟨Tryz.f184.name, by decide, Tryz.func184.trans (congrArg some (by kernel_rfl))⟩,
 f12 := ⟨Tryz.f185.name, by decide, Tryz.func185.trans (congrArg some (by kernel_rfl))⟩,
 f13 := ⟨Tryz.f186.name, by decide, Tryz.func186.trans (congrArg some (by kernel_rfl))⟩,
 f14 := ⟨Tryz.f187.name, by decide, Tryz.func187.trans (congrArg some (by kernel_rfl))⟩,
 f15 := ⟨Tryz.f188.name, by decide, Tryz.func188.trans (congrArg some (by kernel_rfl))⟩,
 f16 := ⟨Tryz.f189.name, by decide, Tryz.func189.trans (congrArg some (by kernel_rfl))⟩,
 f17 := ⟨Tryz.f190.name, by decide, Tryz.func190.trans (congrArg some (by kernel_rfl))⟩,
 f18 := ⟨Tryz.f191.name, by decide, Tryz.func191.trans (congrArg some (by kernel_rfl))⟩,
 f19 := Tryz.func129.trans (congrArg some (by kernel_rfl)),
 f20 := Tryz.func130.trans (congrArg some (by kernel_rfl)),
 f30 := ⟨Tryz.f192.name, by decide, Tryz.func192.trans (congrArg some (by kernel_rfl))⟩,
 f31 := Tryz.func165.trans (congrArg some (by kernel_rfl)),
 f32 := Tryz.func166.trans (congrArg some (by kernel_rfl)),
 f33 := ⟨Tryz.f193.name, by decide, Tryz.func193.trans (congrArg some (by kernel_rfl))⟩,
 f34 := ⟨Tryz.f194.name, by decide, Tryz.func194.trans (congrArg some (by kernel_rfl))⟩,
 f35 := ⟨Tryz.f195.name, by decide, Tryz.func195.trans (congrArg some (by kernel_rfl))⟩,
 f40 := ⟨Tryz.f196.name, by decide, Tryz.func196.trans (congrArg some (by kernel_rfl))⟩,
 t0 := Tryz.underlying0,
 a0 := Tryz.isAgg0,
 z0 := Tryz.sizeOf0,
 v0 := Tryz.zeroValue0,
 t3 := Tryz.underlying3,
 a3 := Tryz.isAgg3,
 z3 := Tryz.sizeOf3,
 v3 := Tryz.zeroValue3,
 t4 := Tryz.underlying4,
 a4 := Tryz.isAgg4,
 z4 := Tryz.sizeOf4,
 v4 := Tryz.zeroValue4,
 t5 := Tryz.underlying5,
 a5 := Tryz.isAgg5,
 z5 := Tryz.sizeOf5,
 v5 := Tryz.zeroValue5,
 t9 := Tryz.underlying9,
 a9 := Tryz.isAgg9,
 z9 := Tryz.sizeOf9,
 v9 := Tryz.zeroValue9,
 t22 := Tryz.underlying38,
 a22 := Tryz.isAgg38,
 z22 := Tryz.sizeOf38,
 v22 := Tryz.zeroValue38,
 t23 := Tryz.underlying38,
 a23 := Tryz.isAgg38,
 z23 := Tryz.sizeOf38,
 v23 := Tryz.zeroValue38,
 t25 := Tryz.underlying3,
 a25 := Tryz.isAgg3,
 z25 := Tryz.sizeOf3,
 v25 := Tryz.zeroValue3,
 t32 := Tryz.underlying141,
 a32 := Tryz.isAgg141,
 z32 := Tryz.sizeOf141,
 v32 := Tryz.zeroValue141,
 t35 := Tryz.underlying178,
 a35 := Tryz.isAgg178,
 z35 := Tryz.sizeOf178,
 v35 := Tryz.zeroValue178,
 t36 := Tryz.underlying179,
 a36 := Tryz.isAgg179,
 z36 := Tryz.sizeOf179,
 v36 := Tryz.zeroValue179,
 t41 := Tryz.underlying77,
 a41 := Tryz.isAgg77,
 z41 := Tryz.sizeOf77,
 v41 := Tryz.zeroValue77,
 t44 := Tryz.underlying186,
 a44 := Tryz.isAgg186,
 z44 := Tryz.sizeOf186,
 v44 := Tryz.zeroValue186,
 t46 := Tryz.underlying188,
 a46 := Tryz.isAgg188,
 z46 := Tryz.sizeOf188,
 v46 := Tryz.zeroValue188,
 t53 := Tryz.underlying202,
 a53 := Tryz.isAgg202,
 z53 := Tryz.sizeOf202,
 v53 := Tryz.zeroValue202,
 t57 := Tryz.underlying153,
 a57 := Tryz.isAgg153,
 z57 := Tryz.sizeOf153,
 v57 := Tryz.zeroValue153,
 t63 := Tryz.underlying211,
 a63 := Tryz.isAgg211,
 z63 := Tryz.sizeOf211,
 v63 := Tryz.zeroValue211,
 t64 := Tryz.underlying212,
 a64 := Tryz.isAgg212,
 z64 := Tryz.sizeOf212,
 v64 := Tryz.zeroValue212 }
def Tryz.revL_ren : Go.Shelf.Ren := ⟨fun | 35 => 118 | n => n, fun | 22 => 109 | 23 => 38 | 3 => 3 | 4 => 4 | 0 => 0 | n => n, fun | n => n⟩
theorem Tryz.revL : Go.Proofs.SlLaysE.n35 Tryz.prog Tryz.revL_ren := {
 mixed := by kernel_rfl,
 f35 := ⟨Tryz.f118.name, by decide, Tryz.func118.trans (congrArg some (by kernel_rfl))⟩,
 t0 := Tryz.underlying0,
 a0 := Tryz.isAgg0,
 z0 := Tryz.sizeOf0,
 v0 := Tryz.zeroValue0,
 t3 := Tryz.underlying3,
 a3 := Tryz.isAgg3,
 z3 := Tryz.sizeOf3,
 v3 := Tryz.zeroValue3,
 t4 := Tryz.underlying4,
 a4 := Tryz.isAgg4,
 z4 := Tryz.sizeOf4,
 v4 := Tryz.zeroValue4,
 t22 := Tryz.underlying109,
 a22 := Tryz.isAgg109,
 z22 := Tryz.sizeOf109,
 v22 := Tryz.zeroValue109,
 a23 := Tryz.isAgg38,
 z23 := Tryz.sizeOf38 }
def Tryz.sortS_ren : Go.Shelf.Ren := ⟨fun | 6 => 56 | 8 => 89 | 9 => 88 | 19 => 129 | 20 => 130 | 21 => 120 | 22 => 121 | 23 => 122 | 24 => 123 | 25 => 124 | 26 => 125 | 27 => 126 | 28 => 127 | 29 => 128 | 36 => 164 | 31 => 165 | 32 => 166 | 37 => 167 | 38 => 168 | 39 => 169 | 41 => 178 | n => n, fun | 27 => 54 | 29 => 9 | 3 => 3 | 32 => 141 | 26 => 54 | 0 => 0 | 44 => 186 | 46 => 188 | 4 => 4 | 36 => 179 | 35 => 178 | 41 => 77 | 5 => 5 | 9 => 9 | 53 => 202 | 57 => 153 | 63 => 211 | 64 => 212 | n => n, fun | n => n⟩
theorem Tryz.sortS : Go.Proofs.SlLaysM.n6 Tryz.prog Tryz.sortS_ren := {
 mixed := by kernel_rfl,
 f6 := ⟨Tryz.f56.name, by decide, Tryz.func56.trans (congrArg some (by kernel_rfl))⟩,
 f8 := Tryz.func89.trans (congrArg some (by kernel_rfl)),
 f9 := ⟨Tryz.f88.name, by decide, Tryz.func88.trans (congrArg some (by kernel_rfl))⟩,
 f19 := Tryz.func129.trans (congrArg some (by kernel_rfl)),
 f20 := Tryz.func130.trans (congrArg some (by kernel_rfl)),
 f21 := ⟨Tryz.f120.name, by decide, Tryz.func120.trans (congrArg some (by kernel_rfl))⟩,
 f22 := ⟨Tryz.f121.name, by decide, Tryz.func121.trans (congrArg some (by kernel_rfl))⟩,
 f23 := ⟨Tryz.f122.name, by decide, Tryz.func122.trans (congrArg some (by kernel_rfl))⟩,
 f24 := ⟨Tryz.f123.name, by decide, Tryz.func123.trans (congrArg some (by kernel_rfl))⟩,
 f25 := ⟨Tryz.f124.name, by decide, Tryz.func124.trans (congrArg some (by kernel_rfl))⟩,
 f26 := ⟨Tryz.f125.name, by decide, Tryz.func125.trans (congrArg some (by kernel_rfl))⟩,
 f27 := ⟨Tryz.f126.name, by decide, Tryz.func126.trans (congrArg some (by kernel_rfl))⟩,
 f28 := ⟨Tryz.f127.name, by decide, Tryz.func127.trans (congrArg some (by kernel_rfl))⟩,
 f29 := ⟨Tryz.f128.name, by decide, Tryz.func128.trans (congrArg some (by kernel_rfl))⟩,
 f31 := Tryz.func165.trans (congrArg some (by kernel_rfl)),
 f32 := Tryz.func166.trans (congrArg some (by kernel_rfl)),
 f36 := ⟨Tryz.f164.name, by decide, Tryz.func164.trans (congrArg some (by kernel_rfl))⟩,
 f37 := ⟨Tryz.f167.name, by decide, Tryz.func167.trans (congrArg some (by kernel_rfl))⟩,
 f38 := ⟨Tryz.f168.name, by decide, Tryz.func168.trans (congrArg some (by kernel_rfl))⟩,
 f39 := ⟨Tryz.f169.name, by decide, Tryz.func169.trans (congrArg some (by kernel_rfl))⟩,
 f41 := ⟨Tryz.f178.name, by decide, Tryz.func178.trans (congrArg some (by kernel_rfl))⟩,
 t0 := Tryz.underlying0,
 a0 := Tryz.isAgg0,
 z0 := Tryz.sizeOf0,
 v0 := Tryz.zeroValue0,
 t3 := Tryz.underlying3,
 a3 := Tryz.isAgg3,
 z3 := Tryz.sizeOf3,
 v3 := Tryz.zeroValue3,
 t4 := Tryz.underlying4,
 a4 := Tryz.isAgg4,
 z4 := Tryz.sizeOf4,
 v4 := Tryz.zeroValue4,
 t5 := Tryz.underlying5,
 a5 := Tryz.isAgg5,
 z5 := Tryz.sizeOf5,
 v5 := Tryz.zeroValue5,
 t9 := Tryz.underlying9,
 a9 := Tryz.isAgg9,
 z9 := Tryz.sizeOf9,
 v9 := Tryz.zeroValue9,
 t26 := Tryz.underlying54,
 a26 := Tryz.isAgg54,
 z26 := Tryz.sizeOf54,
 v26 := Tryz.zeroValue54,
 t27 := Tryz.underlying54,
 a27 := Tryz.isAgg54,
 z27 := Tryz.sizeOf54,
 v27 := Tryz.zeroValue54,
 t29 := Tryz.underlying9,
 a29 := Tryz.isAgg9,
 z29 := Tryz.sizeOf9,
 v29 := Tryz.zeroValue9,
 t32 := Tryz.underlying141,
 a32 := Tryz.isAgg141,
 z32 := Tryz.sizeOf141,
 v32 := Tryz.zeroValue141,
 t35 := Tryz.underlying178,
 a35 := Tryz.isAgg178,
 z35 := Tryz.sizeOf178,
 v35 := Tryz.zeroValue178,
 t36 := Tryz.underlying179,
 a36 := Tryz.isAgg179,
 z36 := Tryz.sizeOf179,
 v36 := Tryz.zeroValue179,
 t41 := Tryz.underlying77,
 a41 := Tryz.isAgg77,
 z41 := Tryz.sizeOf77,
 v41 := Tryz.zeroValue77,
 t44 := Tryz.underlying186,
 a44 := Tryz.isAgg186,
 z44 := Tryz.sizeOf186,
 v44 := Tryz.zeroValue186,
 t46 := Tryz.underlying188,
 a46 := Tryz.isAgg188,
 z46 := Tryz.sizeOf188,
 v46 := Tryz.zeroValue188,
 t53 := Tryz.underlying202,
 a53 := Tryz.isAgg202,
 z53 := Tryz.sizeOf202,
 v53 := Tryz.zeroValue202,
 t57 := Tryz.underlying153,
 a57 := Tryz.isAgg153,
 z57 := Tryz.sizeOf153,
 v57 := Tryz.zeroValue153,
 t63 := Tryz.underlying211,
 a63 := Tryz.isAgg211,
 z63 := Tryz.sizeOf211,
 v63 := Tryz.zeroValue211,
 t64 := Tryz.underlying212,
 a64 := Tryz.isAgg212,
 z64 := Tryz.sizeOf212,
 v64 := Tryz.zeroValue212 }
end Go.Proofs.YtkpigkopjfkepaaGreatDoor
namespace Go.Proofs.YtkpigkopjfkepaaGreatDoor
open Go.Shelf Go.Proofs
def Tryz.cloneS_ren : Go.Shelf.Ren := ⟨fun | 41 => 61 | n => n, fun | 22 => 54 | 23 => 9 | 4 => 4 | n => n, fun | n => n⟩
theorem Tryz.cloneS : Go.Proofs.SlLaysE0.n41 Tryz.prog Tryz.cloneS_ren := {
 mixed := by kernel_rfl,
 f41 := ⟨Tryz.f61.name, by decide, Tryz.func61.trans (congrArg some (by kernel_rfl))⟩,
 t4 := Tryz.underlying4,
 a4 := Tryz.isAgg4,
 z4 := Tryz.sizeOf4,
 v4 := Tryz.zeroValue4,
 t22 := Tryz.underlying54,
 a22 := Tryz.isAgg54,
 z22 := Tryz.sizeOf54,
 v22 := Tryz.zeroValue54 }
def Tryz.compactS_ren : Go.Shelf.Ren := ⟨fun | 43 => 60 | n => n, fun | 22 => 54 | 23 => 9 | 3 => 3 | 4 => 4 | 0 => 0 | n => n, fun | n => n⟩
theorem Tryz.compactS : Go.Proofs.SlLaysE.n43 Tryz.prog Tryz.compactS_ren := {
 mixed := by kernel_rfl,
 f43 := ⟨Tryz.f60.name, by decide, Tryz.func60.trans (congrArg some (by kernel_rfl))⟩,
 t0 := Tryz.underlying0,
 a0 := Tryz.isAgg0,
 z0 := Tryz.sizeOf0,
 v0 := Tryz.zeroValue0,
 t3 := Tryz.underlying3,
 a3 := Tryz.isAgg3,
 z3 := Tryz.sizeOf3,
 v3 := Tryz.zeroValue3,
 t4 := Tryz.underlying4,
 a4 := Tryz.isAgg4,
 z4 := Tryz.sizeOf4,
 v4 := Tryz.zeroValue4,
 t22 := Tryz.underlying54,
 a22 := Tryz.isAgg54,
 z22 := Tryz.sizeOf54,
 v22 := Tryz.zeroValue54,
 a23 := Tryz.isAgg9,
 z23 := Tryz.sizeOf9 }
end Go.Proofs.YtkpigkopjfkepaaGreatDoor
namespace Go.Proofs.YtkpigkopjfkepaaGreatDoor
open Go.Shelf Go.Proofs
def Tryz.itoaS_ren : Go.Shelf.Ren := ⟨fun | 171 => 41 | 243 => 79 | 246 => 109 | 283 => 134 | 284 => 135 | 285 => 136 | 286 => 137 | 129 => 130 | 317 => 170 | 318 => 171 | 319 => 172 | 320 => 173 | 337 => 179 | 338 => 180 | n => n, fun | 3 => 3 | 9 => 9 | 2 => 2 | 4 => 4 | 171 => 189 | 0 => 0 | 53 => 188 | 37 => 91 | 5 => 5 | 173 => 191 | 212 => 207 | 51 => 186 | 20 => 20 | 213 => 208 | 46 => 141 | 232 => 216 | 233 => 217 | n => n, fun | 17 => 0 | 18 => 2 | 19 => 3 | n => n⟩
theorem Tryz.itoaS : Go.Proofs.Lays.n171 Tryz.prog Tryz.itoaS_ren := {
 mixed := by kernel_rfl,
 f129 := Tryz.func130.trans (congrArg some (by kernel_rfl)),
 f171 := Tryz.func41.trans (congrArg some (by kernel_rfl)),
 f243 := Tryz.func79.trans (congrArg some (by kernel_rfl)),
 f246 := Tryz.func109.trans (congrArg some (by kernel_rfl)),
 f283 := Tryz.func134.trans (congrArg some (by kernel_rfl)),
 f284 := Tryz.func135.trans (congrArg some (by kernel_rfl)),
 f285 := Tryz.func136.trans (congrArg some (by kernel_rfl)),
 f286 := Tryz.func137.trans (congrArg some (by kernel_rfl)),
 f317 := Tryz.func170.trans (congrArg some (by kernel_rfl)),
 f318 := Tryz.func171.trans (congrArg some (by kernel_rfl)),
 f319 := Tryz.func172.trans (congrArg some (by kernel_rfl)),
 f320 := Tryz.func173.trans (congrArg some (by kernel_rfl)),
 f337 := Tryz.func179.trans (congrArg some (by kernel_rfl)),
 f338 := Tryz.func180.trans (congrArg some (by kernel_rfl)),
 t0 := Tryz.underlying0,
 a0 := Tryz.isAgg0,
 z0 := Tryz.sizeOf0,
 v0 := Tryz.zeroValue0,
 t2 := Tryz.underlying2,
 a2 := Tryz.isAgg2,
 z2 := Tryz.sizeOf2,
 v2 := Tryz.zeroValue2,
 t3 := Tryz.underlying3,
 a3 := Tryz.isAgg3,
 z3 := Tryz.sizeOf3,
 v3 := Tryz.zeroValue3,
 t4 := Tryz.underlying4,
 a4 := Tryz.isAgg4,
 z4 := Tryz.sizeOf4,
 v4 := Tryz.zeroValue4,
 t5 := Tryz.underlying5,
 a5 := Tryz.isAgg5,
 z5 := Tryz.sizeOf5,
 v5 := Tryz.zeroValue5,
 t9 := Tryz.underlying9,
 a9 := Tryz.isAgg9,
 z9 := Tryz.sizeOf9,
 v9 := Tryz.zeroValue9,
 t20 := Tryz.underlying20,
 a20 := Tryz.isAgg20,
 z20 := Tryz.sizeOf20,
 v20 := Tryz.zeroValue20,
 t37 := Tryz.underlying91,
 a37 := Tryz.isAgg91,
 z37 := Tryz.sizeOf91,
 v37 := Tryz.zeroValue91,
 t46 := Tryz.underlying141,
 a46 := Tryz.isAgg141,
 z46 := Tryz.sizeOf141,
 v46 := Tryz.zeroValue141,
 t51 := Tryz.underlying186,
 a51 := Tryz.isAgg186,
 z51 := Tryz.sizeOf186,
 v51 := Tryz.zeroValue186,
 t53 := Tryz.underlying188,
 a53 := Tryz.isAgg188,
 z53 := Tryz.sizeOf188,
 v53 := Tryz.zeroValue188,
 t171 := Tryz.underlying189,
 a171 := Tryz.isAgg189,
 z171 := Tryz.sizeOf189,
 v171 := Tryz.zeroValue189,
 t173 := Tryz.underlying191,
 a173 := Tryz.isAgg191,
 z173 := Tryz.sizeOf191,
 v173 := Tryz.zeroValue191,
 t212 := Tryz.underlying207,
 a212 := Tryz.isAgg207,
 z212 := Tryz.sizeOf207,
 v212 := Tryz.zeroValue207,
 t213 := Tryz.underlying208,
 a213 := Tryz.isAgg208,
 z213 := Tryz.sizeOf208,
 t232 := Tryz.underlying216,
 a232 := Tryz.isAgg216,
 z232 := Tryz.sizeOf216,
 v232 := Tryz.zeroValue216,
 t233 := Tryz.underlying217,
 a233 := Tryz.isAgg217,
 z233 := Tryz.sizeOf217,
 v233 := Tryz.zeroValue217,
 g17 := by kernel_rfl,
 g18 := by kernel_rfl,
 g19 := by kernel_rfl }
def Tryz.bws_ren : Go.Shelf.Ren := ⟨fun | 166 => 40 | 240 => 78 | 276 => 108 | n => n, fun | 70 => 90 | 9 => 9 | 3 => 3 | 75 => 95 | 0 => 0 | 72 => 93 | 37 => 91 | 4 => 4 | 164 => 157 | 80 => 101 | 5 => 5 | 20 => 20 | n => n, fun | n => n⟩
theorem Tryz.bws : Go.Proofs.Lays.n166 Tryz.prog Tryz.bws_ren := {
 mixed := by kernel_rfl,
 f166 := Tryz.func40.trans (congrArg some (by kernel_rfl)),
 f240 := Tryz.func78.trans (congrArg some (by kernel_rfl)),
 f276 := Tryz.func108.trans (congrArg some (by kernel_rfl)),
 t0 := Tryz.underlying0,
 a0 := Tryz.isAgg0,
 z0 := Tryz.sizeOf0,
 v0 := Tryz.zeroValue0,
 t3 := Tryz.underlying3,
 a3 := Tryz.isAgg3,
 z3 := Tryz.sizeOf3,
 v3 := Tryz.zeroValue3,
 t4 := Tryz.underlying4,
 a4 := Tryz.isAgg4,
 z4 := Tryz.sizeOf4,
 v4 := Tryz.zeroValue4,
 t9 := Tryz.underlying9,
 a9 := Tryz.isAgg9,
 z9 := Tryz.sizeOf9,
 v9 := Tryz.zeroValue9,
 t20 := Tryz.underlying20,
 a20 := Tryz.isAgg20,
 z20 := Tryz.sizeOf20,
 v20 := Tryz.zeroValue20,
 t37 := Tryz.underlying91,
 a37 := Tryz.isAgg91,
 z37 := Tryz.sizeOf91,
 v37 := Tryz.zeroValue91,
 t70 := Tryz.underlying90,
 a70 := Tryz.isAgg90,
 z70 := Tryz.sizeOf90,
 v70 := Tryz.zeroValue90,
 t72 := Tryz.underlying93,
 a72 := Tryz.isAgg93,
 z72 := Tryz.sizeOf93,
 v72 := Tryz.zeroValue93,
 t75 := Tryz.underlying95,
 a75 := Tryz.isAgg95,
 z75 := Tryz.sizeOf95,
 v75 := Tryz.zeroValue95,
 t164 := Tryz.underlying157,
 a164 := Tryz.isAgg157,
 z164 := Tryz.sizeOf157,
 v164 := Tryz.zeroValue157 }
def Tryz.bstr_ren : Go.Shelf.Ren := ⟨fun | 169 => 45 | n => n, fun | 70 => 90 | 9 => 9 | 0 => 0 | 72 => 93 | 37 => 91 | 127 => 133 | 3 => 3 | 5 => 5 | 20 => 20 | n => n, fun | n => n⟩
theorem Tryz.bstr : Go.Proofs.Lays.n169 Tryz.prog Tryz.bstr_ren := {
 mixed := by kernel_rfl,
 f169 := Tryz.func45.trans (congrArg some (by kernel_rfl)),
 t0 := Tryz.underlying0,
 a0 := Tryz.isAgg0,
 z0 := Tryz.sizeOf0,
 v0 := Tryz.zeroValue0,
 t3 := Tryz.underlying3,
 a3 := Tryz.isAgg3,
 z3 := Tryz.sizeOf3,
 v3 := Tryz.zeroValue3,
 t9 := Tryz.underlying9,
 a9 := Tryz.isAgg9,
 z9 := Tryz.sizeOf9,
 v9 := Tryz.zeroValue9,
 t37 := Tryz.underlying91,
 a37 := Tryz.isAgg91,
 z37 := Tryz.sizeOf91,
 v37 := Tryz.zeroValue91,
 t70 := Tryz.underlying90,
 a70 := Tryz.isAgg90,
 z70 := Tryz.sizeOf90,
 v70 := Tryz.zeroValue90,
 t72 := Tryz.underlying93,
 a72 := Tryz.isAgg93,
 z72 := Tryz.sizeOf93,
 v72 := Tryz.zeroValue93,
 t127 := Tryz.underlying133,
 a127 := Tryz.isAgg133,
 z127 := Tryz.sizeOf133,
 v127 := Tryz.zeroValue133 }
end Go.Proofs.YtkpigkopjfkepaaGreatDoor
namespace Go.Proofs.YtkpigkopjfkepaaGreatDoor
open Go.RowKit Go.Sort Go.Shelf
def allNames (u : LUnit) : List ByteArray := u.arrays.map (·.1) ++ u.flows.map (·.name)
def encT (s : ByteArray) : Value := .string s
theorem info_string : (Tryz.prog.info? 9).map (fun i => (i.zero, i.size, i.bytes)) = some (some (.string ⟨#[]⟩), 1, 16) := by kernel_rfl
theorem grown_below' {w w' : World} {row : Option Nat} (h : Below w.heap.size w w') : w.grownBy w' row := ⟨h.os, h.tape, h.output, h.size, fun k hk _ => h.block k hk⟩
structure NamesAt (W wr : World) (v : Value) (l : List ByteArray) : Prop where
 row : wr.ownsRow W.heap.size 9 1 v l.length (l.map encT)
 below : Below W.heap.size W wr
theorem namesAt_next {W wr w1 : World} {v : Value} {l : List ByteArray} {s : ByteArray} {n g cap : Nat} {xs : List Value} {o1 o2 : Obj} (h : NamesAt W wr v l) (hn : n = l.length) (hx : xs = l.map encT) (hown : w1.ownsRow W.heap.size 9 1 (.slice (some ⟨g, 0, none⟩) (n + 1) cap) (n + 1) (xs ++ [.string s]))
  (hg : ((wr.alloc o1).alloc o2).grownBy w1 v.ownBlock) : NamesAt W w1 (.slice (some ⟨g, 0, none⟩) (n + 1) cap) (l ++ [s]) := by
 subst hn
 subst hx
 have hs := h.below.size
 refine ⟨by simpa [encT] using hown, ?_⟩
 refine ((h.below.alloc hs o1).alloc (by simp; omega) o2).grown hg (by simp; omega) (fun k e => ?_)
 have := h.row.lt k e
 omega
theorem take_map_succ {α : Type} (f : α → ByteArray) (l : List α) (k : Nat) (h : k < l.length) : (l.map f).take (k + 1) = (l.map f).take k ++ [f l[k]] := by
 rw [List.take_succ_eq_append_getElem (by simpa using h)]; simp
theorem take_map_len {α : Type} (f : α → ByteArray) (l : List α) (k : Nat) (h : k ≤ l.length) : ((l.map f).take k).length = k := by simp; omega
theorem encs_eq (l : List ByteArray) : l.map encT = (l.map (·.data.toList)).map encStr := by simp [encT, Function.comp_def]
theorem strs_of_own {w : World} {base : Nat} {e : TypeId} {v : Value} {n : Nat} {l : List ByteArray} {ok : Nat → Prop} (h : w.ownsRow base e 1 v n (l.map encT)) (hok : ∀ g, v.ownBlock = some g → ok g) : SlR w ok 1 RStr v l := by
 have hf : ((l.map encT).map fun x => [x]).flatten = l.map encT := flatten_single _
 have hn : n = l.length := by have := h.1; simp at this; omega
 refine SlR.of_own (css := (l.map encT).map fun x => [x]) (by rw [hf]; exact h) hn (by simp) ?_ ?_ hok
 ·intro cs hcs
  obtain ⟨_, _, rfl⟩ := List.mem_map.1 hcs
  rfl
 ·intro i h1 h2
  simp [RStr, encT]
theorem sort_names (base g cap : Nat) (l : List ByteArray) (w : World) (hrow : w.ownsRow base 9 1 (.slice (some ⟨g, 0, none⟩) l.length cap) l.length (l.map encT)) (hl : l.length ≤ 1000) :
  Calls Tryz.prog 56 #[.slice (some ⟨g, 0, none⟩) l.length cap] w fun e w' => e = .returned (.tuple #[]) ∧ ∃ l' : List ByteArray, l'.Perm l ∧ w'.ownsRow base 9 1 (.slice (some ⟨g, 0, none⟩) l.length cap) l.length (l'.map encT) ∧ w.grownBy w' (some g) := by
 rcases hrow.2 with ⟨hnil, _⟩ | ⟨g', cap', cur, hv, hbase, hb, h1, h2, h3, h4⟩
 ·cases hnil
 ·obtain ⟨rfl, rfl⟩ : g = g' ∧ cap = cap' := by injection hv with h5 _ h6; injection h5 with h5; injection h5 with h5; exact ⟨h5, h6⟩
  have hH : Holds encStr w g 0 (l.map (·.data.toList)).toArray := holds_of_block hb (by rw [encs_eq] at h4; simpa using h4)
  have hc := AnyM.slices_Sort_string Tryz.sortS g 0 cap (l.map (·.data.toList)) w hH (Array.getElem?_eq_some_iff.1 hb).1 (by simp; omega)
  rw [List.length_map] at hc
  refine hc.mono ?_
  rintro e w' ⟨he, n, os, rfl⟩
  have hp := List.mergeSort_perm (l.map (·.data.toList)) (fun x y => decide (x ≤ y))
  have hlen := hp.length_eq
  generalize hss : (l.map (·.data.toList)).mergeSort (fun x y => decide (x ≤ y)) = ss at *
  refine ⟨he, ss.map (fun x => ⟨x.toArray⟩), ?_, ?_, grownBy_sorted _⟩
  ·have := hp.map (fun x : List UInt8 => (⟨x.toArray⟩ : ByteArray))
   simpa [Function.comp_def] using this
  ·have h := ownsRow_sorted (n := n) (os := os) (ss := l.map (·.data.toList)) (ts := ss) hlen hbase hb (by simpa using h1) h2 h3
   rw [List.length_map] at h
   have e2 : (ss.map (fun x => (⟨x.toArray⟩ : ByteArray))).map encT = ss.map encStr := by simp [encT, Function.comp_def]
   rw [e2]; exact h
theorem sizeOf_string (w : World) : (Go.sizeOf 9).run Tryz.prog w = .ok 1 w := by kernel_rfl
theorem zero_string (w : World) : (zeroValue 9).run Tryz.prog w = .ok (.string ⟨#[]⟩) w := by kernel_rfl
theorem clone_names (base g cap : Nat) (l : List ByteArray) (w : World) (hrow : w.ownsRow base 9 1 (.slice (some ⟨g, 0, none⟩) l.length cap) l.length (l.map encT)) (hl : l.length ≤ 1000) :
  Calls Tryz.prog 61 #[.slice (some ⟨g, 0, none⟩) l.length cap] w fun e w' => ∃ g4 c4, e = .returned (.slice (some ⟨g4, 0, none⟩) l.length c4) ∧ w'.ownsRow w.heap.size 9 1 (.slice (some ⟨g4, 0, none⟩) l.length c4) l.length (l.map encT) ∧ Below w.heap.size w w' := by
 obtain ⟨z0, hi0, hz0, hz1, hz2⟩ := info_parts info_string
 have hc := Cells.of_own hrow rfl
 refine (AnyE.slices_Clone Tryz.cloneS z0 _ 1 16 hi0 hz0 hz1 hz2 rfl (by decide) sizeOf_string g 0 l.length cap (l.map encT) w (by simp) (by unfold maxLen; omega) (by omega) (fun j u hu => by
  obtain ⟨hj, rfl⟩ := List.getElem?_eq_some_iff.1 hu
  exact hc j hj) (fun u hu => by
  obtain ⟨s, _, rfl⟩ := List.mem_map.1 hu
  rfl)).mono ?_
 rintro e w' ⟨v', rfl, hr, hne, hb⟩
 replace hr : w'.ownsRow w.heap.size 9 1 v' l.length (l.map encT) := hr
 rcases hr.2 with ⟨hn4, _⟩ | ⟨g4, c4, _, hv4, _⟩
 ·exact absurd hn4 hne
 ·subst hv4
  exact ⟨g4, c4, rfl, hr, hb⟩
theorem keeps_nodup {l : List (List UInt8)} (h : l.Nodup) : Lib.compactUpTo l.toArray l.toArray.size = l := by
 rw [Lib.compactUpTo_all]
 ·rw [Lib.range_map_get]
 ·intro j hj
  have hj' : j < l.length := by simpa using hj
  unfold Lib.keeps
  refine decide_eq_true ?_
  by_cases h0 : j = 0
  ·exact .inl h0
  ·refine .inr ?_
   have h1 : j - 1 < l.length := by omega
   simp only [List.getElem!_toArray]
   rw [getElem!_pos l j hj', getElem!_pos l (j - 1) h1]
   exact fun e => (List.pairwise_iff_getElem.1 h (j - 1) j h1 hj' (by omega)) e.symm
theorem compact_names (base g cap : Nat) (l : List ByteArray) (w : World) (hrow : w.ownsRow base 9 1 (.slice (some ⟨g, 0, none⟩) l.length cap) l.length (l.map encT)) (hl : l.length ≤ 1000) (hn : l.Nodup) :
  Calls Tryz.prog 60 #[.slice (some ⟨g, 0, none⟩) l.length cap] w fun e w' => e = .returned (.slice (some ⟨g, 0, none⟩) l.length cap) ∧ w.grownBy w' (some g) := by
 rcases hrow.2 with ⟨hnil, _⟩ | ⟨g', cap', cur, hv, hbase, hb, h1, h2, h3, h4⟩
 ·cases hnil
 ·obtain ⟨rfl, rfl⟩ : g = g' ∧ cap = cap' := by injection hv with h5 _ h6; injection h5 with h5; injection h5 with h5; exact ⟨h5, h6⟩
  have hH : Holds encStr w g 0 (l.map (·.data.toList)).toArray := holds_of_block hb (by rw [encs_eq] at h4; simpa using h4)
  have hnd : (l.map (·.data.toList)).Nodup := by
   refine List.pairwise_map.2 (hn.imp fun hne e => hne ?_)
   exact ByteArray.ext (Array.ext' e)
  have hgd : GuardAt Tryz.prog 9 encStr := fun op a b x y w => GuardAt.string Tryz.prog 9 op a b ⟨x.toArray⟩ ⟨y.toArray⟩ w
  have hbd : ∀ x y : List UInt8, ((⟨x.toArray⟩ : ByteArray).toList == (⟨y.toArray⟩ : ByteArray).toList) = decide (x = y) := fun x y => by rw [Bool.eq_iff_iff]; simp [ByteArray.toList_eq]
  have heq : EqlAt Tryz.prog 9 encStr (fun x y => decide (x = y)) := ⟨fun x y w => by show _ = Result.ok (Value.bool (decide (x = y))) w; rw [← hbd]; exact (EqlAt.string Tryz.prog 9).1 ⟨x.toArray⟩ ⟨y.toArray⟩ w, hgd⟩
  have hne : NeqAt Tryz.prog 9 encStr (fun x y => decide (x = y)) := ⟨fun x y w => by show _ = Result.ok (Value.bool (!decide (x = y))) w; rw [← hbd]; exact (NeqAt.string Tryz.prog 9).1 ⟨x.toArray⟩ ⟨y.toArray⟩ w, hgd⟩
  have hc := AnyE.slices_Compact Tryz.compactS encStr (fun _ => rfl) heq hne [] zero_string g 0 cap (l.map (·.data.toList)).toArray w hH (by simp; omega) (by simpa using h1)
  rw [keeps_nodup hnd] at hc
  simp only [List.size_toArray, List.length_map, Nat.sub_self, List.replicate_zero, List.append_nil] at hc
  refine hc.mono ?_
  rintro e w' ⟨he, q, rfl⟩
  refine ⟨he, ?_⟩
  have h := grownBy_sorted (w := w) (g := g) (n := q) (os := #[]) (l.map (·.data.toList)).toArray
  rw [grow_empty] at h
  exact h
section
set_option maxRecDepth 100000
set_option maxHeartbeats 4000000
theorem names_any (u : LUnit) (A1 A2 : Option Addr) (c1 c2 : Nat) (w : World) (ha : SlR w (· < w.heap.size) 2 RArr (.slice A1 u.arrays.length c1) u.arrays) (hf : SlR w (· < w.heap.size) 4 (RFlow w (· < w.heap.size)) (.slice A2 u.flows.length c2) u.flows) (hl1 : u.arrays.length ≤ 500) (hl2 : u.flows.length ≤ 500)
  (hg : ∀ s ∈ allNames u, NameG s) (hn : (allNames u).Nodup) (hpos : 0 < (allNames u).length) :
  Calls Tryz.prog 29 #[.agg #[.slice A1 u.arrays.length c1, .slice A2 u.flows.length c2]] w fun e w' => e = .returned (.bool true) ∧ Below w.heap.size w w' := by
 obtain ⟨z0, hi0, hz0, hz1, hz2⟩ := info_parts info_string
 have HG := Lib.hid hg
 have HND := Lib.hid hn
 have HPOS := Lib.hid hpos
 have HAA := Lib.hid ha
 have HFF := Lib.hid hf
 clear hg hn ha hf hpos
 go_enter Tryz.func29, Tryz.ntmps29
 go_upto_region 1 with fail
 refine wp_world ?_
 intro W hW
 have hB : Below w.heap.size w W := by rw [← hW]; exact below1 _ _
 have hU : Blk W w.heap.size 27 #[.slice A1 u.arrays.length c1, .slice A2 u.flows.length c2] := by rw [← hW]; exact Blk.new_at _ _ _ rfl
 clear hW
 have up : ∀ b, b < w.heap.size → b < W.heap.size := fun b h => Nat.lt_of_lt_of_le h hB.size
 have kp : Keeps (· < w.heap.size) w W := fun b h => hB.block b h
 have HA := Lib.hid (HAA.out.imp (ok' := (· < W.heap.size)) (R' := RArr) up kp (fun _ _ _ r => r))
 have HF := Lib.hid (HFF.out.imp (ok' := (· < W.heap.size)) (R' := RFlow W (· < W.heap.size)) up kp (fun _ _ _ r => r.imp up kp))
 have u0 : W.cell? ⟨w.heap.size, 0, none⟩ = some (.slice A1 u.arrays.length c1) := hU.cell 0
 have HU := Lib.hid hU
 have HB := Lib.hid hB
 clear up kp hU hB HAA HFF
 go_wp2
 clear u0
 go_loopw [3, 11] (fun v i wr => ∃ k : Nat, k ≤ u.arrays.length ∧ i = .int .i64 k ∧ NamesAt W wr v ((u.arrays.map (·.1)).take k)) (fun _ i _ => u.arrays.length - (RowKit.intOf i).toNat)
 case atStart => exact ⟨0, by omega, rfl, World.ownsRow_nil _ _ _ _, Below.refl _ _⟩
 case round =>
  obtain ⟨k, hk, rfl, hna⟩ := hrel
  obtain ⟨Av, cv, hv⟩ := own_form hna.row
  have htl := take_map_len (·.1) u.arrays k hk
  rw [htl] at hv
  subst hv
  have hbr := hna.below
  have hsz := hbr.size
  by_cases hlt : k < u.arrays.length
  ·have d1 : decide ((k : Int) < (u.arrays.length : Int)) = true := decide_eq_true (by omega)
   obtain ⟨b3, o3, c3, f3, _, _, hb3, q3⟩ := HA.out.form (by omega)
   obtain rfl : A1 = some ⟨b3, o3, none⟩ := by injection f3
   obtain ⟨cs, _, hcs, hcell⟩ := q3 k hlt
   obtain ⟨x, hx⟩ : ∃ x, x = u.arrays[k] := ⟨_, rfl⟩
   rw [← hx] at hcs
   obtain ⟨nm, sz⟩ := x
   subst hcs
   have hcw := hcell.keep (hbr.block b3 hb3)
   have i0 : wr.cell? ⟨b3, o3 + k * 2, none⟩ = some (.string nm) := by have h := hcw.at_ (j := 0) rfl; simpa using h
   have i1 : wr.cell? ⟨b3, o3 + k * 2 + 1, none⟩ = some (.int .i64 sz) := hcw.at_ (j := 1) rfl
   have hts := take_map_succ (·.1) u.arrays k hlt
   rw [← hx] at hts
   have HTS := Lib.hid hts
   have hown : wr.ownsRow W.heap.size 9 1 (.slice Av k cv) k (((u.arrays.map (·.1)).take k).map encT) := by have h := hna.row; rw [htl] at h; exact h
   have HNA := Lib.hid hna
   have HTL := Lib.hid htl
   clear f3 q3 hcell hcw hx hts htl hna hb3
   generalize hxs : ((u.arrays.map (·.1)).take k).map encT = xs at *
   have HXS := Lib.hid hxs
   clear hxs
   go_wp2_with (at_builtin; refine wpList_append_lies _ rfl (.tmp 15) (.tmp 18) _ rfl W.heap.size 9 z0 _ 1 16 Tryz.underlying54 hi0 hz0 hz1 hz2 rfl (by decide) _ _ _ rfl ((hown.alloc _).alloc _) ⟨wr.heap.size + 1, 0, none⟩ 1 1 [.string nm] rfl rfl (World.news_of_block (cs := #[.string nm]) (t := 9) (fr := (0, 0)) (Blk.new_at _ _ _ (by simp))) (by simp [Value.oneCell']) (by decide) (by unfold maxLen; omega) (by omega) (by simp; omega) (wr.heap.size + 1 + 1) (by simp) ?_; intro g cap w1 hown1 hgrow hat hlt1)
   go_roundw
   case rel =>
    refine ⟨k + 1, by omega, by go_num, ?_⟩
    rw [HTS.out]
    exact namesAt_next HNA.out HTL.out.symm HXS.out.symm hown1 hgrow
   case measure => simp [RowKit.intOf]; omega
  ·obtain rfl : k = u.arrays.length := by omega
   have htk : (u.arrays.map (·.1)).take u.arrays.length = u.arrays.map (·.1) := List.take_of_length_le (by simp)
   rw [htk] at hna
   have u1 : wr.cell? ⟨w.heap.size, 1, none⟩ = some (.slice A2 u.flows.length c2) := (HU.out.below hbr HU.out.lt).cell 1
   have HNA := Lib.hid hna
   clear htk hna hbr hsz htl
   obtain ⟨wo, hwo⟩ : ∃ wo, wo = wr := ⟨_, rfl⟩
   subst hwo
   go_wp2
   clear u1 hlt
   go_loopw [3, 24] (fun v i wr => ∃ k : Nat, k ≤ u.flows.length ∧ i = .int .i64 k ∧ NamesAt W wr v (u.arrays.map (·.1) ++ (u.flows.map (·.name)).take k)) (fun _ i _ => u.flows.length - (RowKit.intOf i).toNat)
   case atStart =>
    refine ⟨0, by omega, rfl, ?_⟩
    rw [List.take_zero, List.append_nil]
    exact HNA.out
   case round =>
    obtain ⟨k2, hk2, rfl, hna⟩ := hrel
    obtain ⟨Av2, cv2, hv⟩ := own_form hna.row
    have htl : (u.arrays.map (·.1) ++ (u.flows.map (·.name)).take k2).length = u.arrays.length + k2 := by rw [List.length_append, take_map_len (·.name) u.flows k2 hk2, List.length_map]
    rw [htl] at hv
    subst hv
    have hbr := hna.below
    have hsz := hbr.size
    by_cases hlt : k2 < u.flows.length
    ·have d1 : decide ((k2 : Int) < (u.flows.length : Int)) = true := decide_eq_true (by omega)
     obtain ⟨b3, o3, c3, f3, _, _, hb3, q3⟩ := HF.out.form (by omega)
     obtain rfl : A2 = some ⟨b3, o3, none⟩ := by injection f3
     obtain ⟨cs, _, ⟨vbx, hcs, hsx⟩, hcell⟩ := q3 k2 hlt
     obtain ⟨x, hx⟩ : ∃ x, x = u.flows[k2] := ⟨_, rfl⟩
     rw [← hx] at hcs hsx
     obtain ⟨Ax, cx, hvx, _, _⟩ := hsx.val
     subst hvx
     obtain ⟨nm, pr, vl, bs⟩ := x
     subst hcs
     have hcw := hcell.keep (hbr.block b3 hb3)
     have i0 : wr.cell? ⟨b3, o3 + k2 * 4, none⟩ = some (.string nm) := by have h := hcw.at_ (j := 0) rfl; simpa using h
     have i1 : wr.cell? ⟨b3, o3 + k2 * 4 + 1, none⟩ = some (.int .i64 pr) := hcw.at_ (j := 1) rfl
     have i2 : wr.cell? ⟨b3, o3 + k2 * 4 + 2, none⟩ = some (.int .i64 vl) := hcw.at_ (j := 2) rfl
     have i3 : wr.cell? ⟨b3, o3 + k2 * 4 + 3, none⟩ = some (.slice Ax bs.length cx) := hcw.at_ (j := 3) rfl
     have hts := take_map_succ (·.name) u.flows k2 hlt
     rw [← hx] at hts
     have HTS := Lib.hid hts
     have hown : wr.ownsRow W.heap.size 9 1 (.slice Av2 (u.arrays.length + k2) cv2) (u.arrays.length + k2) ((u.arrays.map (·.1) ++ (u.flows.map (·.name)).take k2).map encT) := by have h := hna.row; rw [htl] at h; exact h
     have HNA2 := Lib.hid hna
     have HTL := Lib.hid htl
     clear f3 q3 hcell hcw hx hts htl hna hb3 hsx
     generalize hxs : (u.arrays.map (·.1) ++ (u.flows.map (·.name)).take k2).map encT = xs at *
     have HXS := Lib.hid hxs
     clear hxs
     go_wp2_with (at_builtin; refine wpList_append_lies _ rfl (.tmp 28) (.tmp 31) _ rfl W.heap.size 9 z0 _ 1 16 Tryz.underlying54 hi0 hz0 hz1 hz2 rfl (by decide) _ _ _ rfl ((hown.alloc _).alloc _) ⟨wr.heap.size + 1, 0, none⟩ 1 1 [.string nm] rfl rfl (World.news_of_block (cs := #[.string nm]) (t := 9) (fr := (0, 0)) (Blk.new_at _ _ _ (by simp))) (by simp [Value.oneCell']) (by decide) (by unfold maxLen; omega) (by omega) (by simp; omega) (wr.heap.size + 1 + 1) (by simp) ?_; intro g cap w1 hown1 hgrow hat hlt1)
     go_roundw
     case rel =>
      refine ⟨k2 + 1, by omega, by go_num, ?_⟩
      rw [HTS.out, ← List.append_assoc]
      exact namesAt_next HNA2.out HTL.out.symm HXS.out.symm hown1 hgrow
     case measure => simp [RowKit.intOf]; omega
    ·have d1 : decide ((k2 : Int) < (u.flows.length : Int)) = false := decide_eq_false (by omega)
     have htk : u.arrays.map (·.1) ++ (u.flows.map (·.name)).take k2 = allNames u := by rw [List.take_of_length_le (by simp; omega)]; rfl
     rw [htk] at hna
     have hlA : u.arrays.length + k2 = (allNames u).length := by rw [← htl, htk]
     have hN : (allNames u).length ≤ 1000 := by unfold allNames; simp; omega
     rw [hlA] at hna
     rw [hlA]
     generalize allNames u = L at *
     have hpos := HPOS.out
     rcases hna.row.2 with ⟨hnil, _⟩ | ⟨g, cap, cur, hv2, hbase, hb, h1, h2, h3, h4⟩
     ·injection hnil with _ hz _
      omega
     obtain ⟨rfl, rfl⟩ : Av2 = some ⟨g, 0, none⟩ ∧ cv2 = cap := by injection hv2 with h5 _ h6; exact ⟨h5, h6⟩
     have hrow := hna.row
     have HNA3 := Lib.hid hna
     have HS := Lib.hid (sort_names W.heap.size g cv2 L wr hrow hN)
     have hwl := hna.below.size
     have hgl := hrow.lt g rfl
     have HWL := Lib.hid hwl
     have HGL := Lib.hid hgl
     clear hv2 hbase hb h1 h2 h3 h4 hrow hna htk hlA hbr hsz hwl hgl htl
     go_upto_region 13 with (go_at_call 56; refine HS.out.mono ?_; rintro e w2 ⟨rfl, l2, hperm, hrow2, hg2⟩)
     have hl2 : l2.length = L.length := hperm.length_eq
     have hnd2 : l2.Nodup := hperm.nodup_iff.2 HND.out
     have hb2 : Below W.heap.size W w2 := HNA3.out.below.grown hg2 HWL.out (fun k e => by injection e with e; have := HGL.out; omega)
     have hsl : SlR w2 (· < w2.heap.size) 1 RStr (.slice (some ⟨g, 0, none⟩) L.length cv2) l2 := strs_of_own hrow2 (fun k e => (hrow2.lt k e).2)
     have HM := Lib.hid (con_name l2 (.slice (some ⟨g, 0, none⟩) L.length cv2) (fun _ => false) w2 hsl (names1_pred l2 w2 (fun s hs => HG.out s (hperm.mem_iff.1 hs))))
     have hany : (l2.any fun _ => false) = false := by simp
     rw [hany] at HM
     have HR2 := Lib.hid hrow2
     have HB2 := Lib.hid hb2
     have HL2 := Lib.hid hl2
     have HD2 := Lib.hid hnd2
     clear hany hsl hrow2 hb2 hl2 hnd2 hperm hg2
     go_wp2_with (first | (go_at_call 57; refine HM.out.mono ?_; rintro e w3 ⟨rfl, hb3⟩; have hr3 : w3.ownsRow W.heap.size 9 1 (.slice (some ⟨g, 0, none⟩) l2.length cv2) l2.length (l2.map encT) := (by rw [HL2.out]; exact HR2.out.kept (grown_below' (row := none) hb3) (Classical.em _)); have HCL := Lib.hid (clone_names W.heap.size g cv2 l2 w3 hr3 (by rw [HL2.out]; exact hN)); rw [HL2.out] at HCL; have HB3 := Lib.hid (HB2.out.trans (hb3.mono HB2.out.size)); clear hr3 hb3) | (go_at_call 61; refine HCL.out.mono ?_; rintro e w4 ⟨g4, c4, rfl, hr4, hb4⟩; have HCO := Lib.hid (compact_names w3.heap.size g4 c4 l2 w4 (by rw [HL2.out]; exact hr4) (by rw [HL2.out]; exact hN) HD2.out); rw [HL2.out] at HCO; have HG4 := Lib.hid (hr4.lt g4 rfl); have HB4 := Lib.hid hb4; clear hr4 hb4) | (go_at_call 60; refine HCO.out.mono ?_; rintro e w5 ⟨rfl, hg5⟩))
     go_ret
     have e1 := HB.out.trans (HB3.out.mono HB.out.size)
     have e2 : Below w3.heap.size w3 w5 := HB4.out.grown hg5 HB4.out.size (fun k e => by injection e with e; have := HG4.out; omega)
     exact ⟨by first | rfl | simp, e1.trans (e2.mono e1.size)⟩
end
end Go.Proofs.YtkpigkopjfkepaaGreatDoor
