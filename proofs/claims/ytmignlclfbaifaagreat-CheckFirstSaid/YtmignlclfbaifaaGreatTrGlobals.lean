/- What check.globals hands back: the names of arrays and functions, in a row of the call's own. -/
import Derived.Test.YtmignlclfbaifaaGreatTrTwice
import Derived.Test.YtmignlclfbaifaaGreatTrMem
import Derived.Deep.AppendLies
namespace Go.Proofs.YtmignlclfbaifaaGreat
open Go.RowKit Go.Sort Go.Shelf

/-- what a loop of check.globals has collected -/
structure NamesAt (W wr : World) (v : Value) (l : List ByteArray) : Prop where
  row : wr.ownsRow W.heap.size 9 1 v l.length (l.map encT)
  below : Below W.heap.size W wr
theorem namesAt_next {W wr w1 : World} {v : Value} {l : List ByteArray} {s : ByteArray} {n g cap : Nat} {xs : List Value} {o1 o2 : Obj} (h : NamesAt W wr v l) (hn : n = l.length) (hx : xs = l.map encT) (hown : w1.ownsRow W.heap.size 9 1 (.slice (some ⟨g, 0, none⟩) (n + 1) cap) (n + 1) (xs ++ [.string s]))
    (hg : ((wr.alloc o1).alloc o2).grownBy w1 v.ownBlock) : NamesAt W w1 (.slice (some ⟨g, 0, none⟩) (n + 1) cap) (l ++ [s]) := by
  subst hn
  subst hx
  have hs := h.below.size
  refine ⟨by simpa [encT] using hown, ?_⟩
  refine ((h.below.alloc hs o1).alloc (by simp; omega) o2).grown hg (by simp; omega) (fun k e => ?_)
  have := h.row.lt k e
  omega
theorem take_map_succ {α : Type} (f : α → ByteArray) (l : List α) (k : Nat) (h : k < l.length) : (l.map f).take (k + 1) = (l.map f).take k ++ [f l[k]] := by
  rw [List.take_succ_eq_append_getElem (by simpa using h)]; simp
theorem take_map_len {α : Type} (f : α → ByteArray) (l : List α) (k : Nat) (h : k ≤ l.length) : ((l.map f).take k).length = k := by simp; omega

section
set_option maxRecDepth 100000
set_option maxHeartbeats 4000000
theorem globals_any (d : Nat) (u : LProg) (A1 A2 : Option Addr) (c1 c2 : Nat) (w : World) (ha : SlR w (· < w.heap.size) 2 RArr (.slice A1 u.arrays.length c1) u.arrays) (hf : SlR w (· < w.heap.size) 4 (RFunc d w (· < w.heap.size)) (.slice A2 u.funcs.length c2) u.funcs) (hl1 : u.arrays.length ≤ 400) (hl2 : u.funcs.length ≤ 400) :
    Calls Tryz.prog 29 #[.agg #[.slice A1 u.arrays.length c1, .slice A2 u.funcs.length c2]] w fun e w' => ∃ v, e = .returned v ∧ w'.ownsRow w.heap.size 9 1 v (globalsL u).length ((globalsL u).map encT) ∧ Below w.heap.size w w' := by
  obtain ⟨z0, hi0, hz0, hz1, hz2⟩ := info_parts info_string
  have HAA := Lib.hid ha
  have HFF := Lib.hid hf
  clear ha hf
  go_enter Tryz.func29, Tryz.ntmps29
  go_upto_region 1 with fail
  refine wp_world ?_
  intro W hW
  have hB : Below w.heap.size w W := by rw [← hW]; exact below1 _ _
  have hU : Blk W w.heap.size 27 #[.slice A1 u.arrays.length c1, .slice A2 u.funcs.length c2] := by rw [← hW]; exact Blk.new_at _ _ _ rfl
  clear hW
  have up : ∀ b, b < w.heap.size → b < W.heap.size := fun b h => Nat.lt_of_lt_of_le h hB.size
  have kp : Keeps (· < w.heap.size) w W := fun b h => hB.block b h
  have HA := Lib.hid (HAA.out.imp (ok' := (· < W.heap.size)) (R' := RArr) up kp (fun _ _ _ r => r))
  have HF := Lib.hid (HFF.out.imp (ok' := (· < W.heap.size)) (R' := RFunc d W (· < W.heap.size)) up kp (fun _ _ _ r => r.imp up kp))
  have u0 : W.cell? ⟨w.heap.size, 0, none⟩ = some (.slice A1 u.arrays.length c1) := hU.cell 0
  have HU := Lib.hid hU
  have HB := Lib.hid hB
  clear up kp hU hB HAA HFF
  go_wp2
  clear u0
  go_loopw [2, 10] (fun v i wr => ∃ k : Nat, k ≤ u.arrays.length ∧ i = .int .i64 k ∧ NamesAt W wr v ((u.arrays.map (·.1)).take k)) (fun _ i _ => u.arrays.length - (RowKit.intOf i).toNat)
  case atStart => exact ⟨0, by omega, rfl, World.ownsRow_nil _ _ _ _, Below.refl _ _⟩
  case round =>
    obtain ⟨k, hk, rfl, hna⟩ := hrel
    obtain ⟨Av, cv, hv⟩ := own_form hna.row
    have htl := take_map_len (·.1) u.arrays k hk
    rw [htl] at hv
    subst hv
    have hbr := hna.below
    have hsz := hbr.size
    by_cases hlt : k < u.arrays.length
    · have d1 : decide ((k : Int) < (u.arrays.length : Int)) = true := decide_eq_true (by omega)
      obtain ⟨b3, o3, c3, f3, _, _, hb3, q3⟩ := HA.out.form (by omega)
      obtain rfl : A1 = some ⟨b3, o3, none⟩ := by injection f3
      obtain ⟨cs, _, hcs, hcell⟩ := q3 k hlt
      obtain ⟨x, hx⟩ : ∃ x, x = u.arrays[k] := ⟨_, rfl⟩
      rw [← hx] at hcs
      obtain ⟨nm, sz⟩ := x
      subst hcs
      have hcw := hcell.keep (hbr.block b3 hb3)
      have i0 : wr.cell? ⟨b3, o3 + k * 2, none⟩ = some (.string nm) := by have h := hcw.at_ (j := 0) rfl; simpa using h
      have i1 : wr.cell? ⟨b3, o3 + k * 2 + 1, none⟩ = some (.int .i64 sz) := hcw.at_ (j := 1) rfl
      have hts := take_map_succ (·.1) u.arrays k hlt
      rw [← hx] at hts
      have HTS := Lib.hid hts
      have hown : wr.ownsRow W.heap.size 9 1 (.slice Av k cv) k (((u.arrays.map (·.1)).take k).map encT) := by have h := hna.row; rw [htl] at h; exact h
      have HNA := Lib.hid hna
      have HTL := Lib.hid htl
      clear f3 q3 hcell hcw hx hts htl hna hb3
      generalize hxs : ((u.arrays.map (·.1)).take k).map encT = xs at *
      have HXS := Lib.hid hxs
      clear hxs
      go_wp2_with (at_builtin; refine wpList_append_lies _ rfl (.tmp 14) (.tmp 17) _ rfl W.heap.size 9 z0 _ 1 16 Tryz.underlying47 hi0 hz0 hz1 hz2 rfl (by decide) _ _ _ rfl ((hown.alloc _).alloc _) ⟨wr.heap.size + 1, 0, none⟩ 1 1 [.string nm] rfl rfl (World.news_of_block (cs := #[.string nm]) (t := 9) (fr := (0, 0)) (Blk.new_at _ _ _ (by simp))) (by simp [Value.oneCell']) (by decide) (by unfold maxLen; omega) (by omega) (by simp; omega) (wr.heap.size + 1 + 1) (by simp) ?_; intro g cap w1 hown1 hgrow hat hlt1)
      go_roundw
      case rel =>
        refine ⟨k + 1, by omega, by go_num, ?_⟩
        rw [HTS.out]
        exact namesAt_next HNA.out HTL.out.symm HXS.out.symm hown1 hgrow
      case measure => simp [RowKit.intOf]; omega
    · obtain rfl : k = u.arrays.length := by omega
      have htk : (u.arrays.map (·.1)).take u.arrays.length = u.arrays.map (·.1) := List.take_of_length_le (by simp)
      rw [htk] at hna
      have u1 : wr.cell? ⟨w.heap.size, 1, none⟩ = some (.slice A2 u.funcs.length c2) := (HU.out.below hbr HU.out.lt).cell 1
      have HNA := Lib.hid hna
      clear htk hna hbr hsz htl
      obtain ⟨wo, hwo⟩ : ∃ wo, wo = wr := ⟨_, rfl⟩
      subst hwo
      go_wp2
      clear u1 hlt
      go_loopw [2, 23] (fun v i wr => ∃ k : Nat, k ≤ u.funcs.length ∧ i = .int .i64 k ∧ NamesAt W wr v (u.arrays.map (·.1) ++ (u.funcs.map (·.name)).take k)) (fun _ i _ => u.funcs.length - (RowKit.intOf i).toNat)
      case atStart =>
        refine ⟨0, by omega, rfl, ?_⟩
        rw [List.take_zero, List.append_nil]
        exact HNA.out
      case round =>
        obtain ⟨k2, hk2, rfl, hna⟩ := hrel
        obtain ⟨Av2, cv2, hv⟩ := own_form hna.row
        have htl : (u.arrays.map (·.1) ++ (u.funcs.map (·.name)).take k2).length = u.arrays.length + k2 := by rw [List.length_append, take_map_len (·.name) u.funcs k2 hk2, List.length_map]
        rw [htl] at hv
        subst hv
        have hbr := hna.below
        have hsz := hbr.size
        by_cases hlt : k2 < u.funcs.length
        · have d1 : decide ((k2 : Int) < (u.funcs.length : Int)) = true := decide_eq_true (by omega)
          obtain ⟨b3, o3, c3, f3, _, _, hb3, q3⟩ := HF.out.form (by omega)
          obtain rfl : A2 = some ⟨b3, o3, none⟩ := by injection f3
          obtain ⟨cs, _, ⟨vp, vl, vb, hcs, hsp, hsl, hsb⟩, hcell⟩ := q3 k2 hlt
          obtain ⟨x, hx⟩ : ∃ x, x = u.funcs[k2] := ⟨_, rfl⟩
          rw [← hx] at hcs hsp hsl hsb
          obtain ⟨Ap, cp, rfl, _, _⟩ := hsp.val
          obtain ⟨Al, cl, rfl, _, _⟩ := hsl.val
          obtain ⟨Ab, cb, rfl, _, _⟩ := hsb.val
          obtain ⟨nm, ps, ls, bs⟩ := x
          subst hcs
          have hcw := hcell.keep (hbr.block b3 hb3)
          have i0 : wr.cell? ⟨b3, o3 + k2 * 4, none⟩ = some (.string nm) := by have h := hcw.at_ (j := 0) rfl; simpa using h
          have i1 : wr.cell? ⟨b3, o3 + k2 * 4 + 1, none⟩ = some (.slice Ap ps.length cp) := hcw.at_ (j := 1) rfl
          have i2 : wr.cell? ⟨b3, o3 + k2 * 4 + 2, none⟩ = some (.slice Al ls.length cl) := hcw.at_ (j := 2) rfl
          have i3 : wr.cell? ⟨b3, o3 + k2 * 4 + 3, none⟩ = some (.slice Ab bs.length cb) := hcw.at_ (j := 3) rfl
          have hts := take_map_succ (·.name) u.funcs k2 hlt
          rw [← hx] at hts
          have HTS := Lib.hid hts
          have hown : wr.ownsRow W.heap.size 9 1 (.slice Av2 (u.arrays.length + k2) cv2) (u.arrays.length + k2) ((u.arrays.map (·.1) ++ (u.funcs.map (·.name)).take k2).map encT) := by have h := hna.row; rw [htl] at h; exact h
          have HNA2 := Lib.hid hna
          have HTL := Lib.hid htl
          clear f3 q3 hcell hcw hx hts htl hna hb3 hsp hsl hsb
          generalize hxs : (u.arrays.map (·.1) ++ (u.funcs.map (·.name)).take k2).map encT = xs at *
          have HXS := Lib.hid hxs
          clear hxs
          go_wp2_with (at_builtin; refine wpList_append_lies _ rfl (.tmp 27) (.tmp 30) _ rfl W.heap.size 9 z0 _ 1 16 Tryz.underlying47 hi0 hz0 hz1 hz2 rfl (by decide) _ _ _ rfl ((hown.alloc _).alloc _) ⟨wr.heap.size + 1, 0, none⟩ 1 1 [.string nm] rfl rfl (World.news_of_block (cs := #[.string nm]) (t := 9) (fr := (0, 0)) (Blk.new_at _ _ _ (by simp))) (by simp [Value.oneCell']) (by decide) (by unfold maxLen; omega) (by omega) (by simp; omega) (wr.heap.size + 1 + 1) (by simp) ?_; intro g cap w1 hown1 hgrow hat hlt1)
          go_roundw
          case rel =>
            refine ⟨k2 + 1, by omega, by go_num, ?_⟩
            rw [HTS.out, ← List.append_assoc]
            exact namesAt_next HNA2.out HTL.out.symm HXS.out.symm hown1 hgrow
          case measure => simp [RowKit.intOf]; omega
        · have htk : u.arrays.map (·.1) ++ (u.funcs.map (·.name)).take k2 = globalsL u := by rw [List.take_of_length_le (by simp; omega)]; rfl
          rw [htk] at hna
          have hlA : u.arrays.length + k2 = (globalsL u).length := by rw [← htl, htk]
          have hk3 : k2 = u.funcs.length := by omega
          have HNA3 := Lib.hid hna
          have HLA := Lib.hid hlA
          clear htk hna hlA htl hbr hsz
          subst hk3
          go_wp2
          go_ret
          refine ⟨.slice Av2 (globalsL u).length cv2, ?_, ?_, HB.out.trans (HNA3.out.below.mono HB.out.size)⟩
          · rw [← HLA.out]; rfl
          · have h := own_low HNA3.out.row HB.out.size
            rw [HLA.out] at h
            exact h
end
end Go.Proofs.YtmignlclfbaifaaGreat
