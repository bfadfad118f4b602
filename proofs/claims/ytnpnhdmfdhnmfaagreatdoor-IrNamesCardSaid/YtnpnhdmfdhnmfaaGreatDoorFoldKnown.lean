/- What is known of values (map[int]fact), as a function: what a world holds, what a look-up, a store and a delete make of it. slices.Clone at numbers and at arrays: a row of the call's own. Printed by wip/gen_clone.py. fold in plain words; what (fold.facts).known and fold.places do. Printed by wip/gen_foldins.py. -/
import Derived.Test.YtnpnhdmfdhnmfaaGreatDoorAw10
import Derived.Test.YtnpnhdmfdhnmfaaGreatDoorUnitMem
import Derived.Test.YtnpnhdmfdhnmfaaGreatDoorArA
import Derived.Test.YtnpnhdmfdhnmfaaGreatDoorRegion
import Derived.Maps.Own
import Derived.Maps.OwnSet
import Derived.Maps.OwnOps
import Derived.Maps.Ext
import Derived.Maps.RangeWalk
import Derived.Laws.IdiomRangeMap
import Derived.Lib.SlKeysI
import Derived.Lib.IfaceEq
import Derived.Stop.Asserts
namespace Go.Proofs.YtnpnhdmfdhnmfaaGreatDoor
open Go.RowKit Go.Maps

/-- what is known of a value: a number, or that it is another value -/
inductive Fact where
  | num (n : Int)
  | val (v : Int)
deriving DecidableEq
abbrev Env := Int → Option Fact
abbrev DF := DataW Unit

def factV : Option Fact → Value
  | none => .nilIface
  | some (.num n) => .iface 151 (.int .i64 n)
  | some (.val v) => .iface 153 (.int .i64 v)
def factD : Option Fact → DF
  | none => .agg []
  | some (.num n) => .iface "n" (.lit (.int .i64 n))
  | some (.val v) => .iface "v" (.lit (.int .i64 v))
def factElem : Value → Option (DF × List MemPlace)
  | .nilIface => some (factD none, [])
  | .iface t (.int .i64 n) => if t = 151 then some (factD (some (.num n)), []) else if t = 153 then some (factD (some (.val n)), []) else none
  | _ => none
theorem factElem_mk (o : Option Fact) : factElem (factV o) = some (factD o, []) := by
  rcases o with _ | n | n <;> rfl
theorem factElem_inv {v : Value} {z : DF × List MemPlace} (h : factElem v = some z) : ∃ o, v = factV o ∧ z = (factD o, []) := by
  unfold factElem at h
  split at h
  · exact ⟨none, rfl, (Option.some.inj h).symm⟩
  · split at h
    · rename_i e; exact ⟨some (.num _), by rw [e]; rfl, (Option.some.inj h).symm⟩
    · split at h
      · rename_i e; exact ⟨some (.val _), by rw [e]; rfl, (Option.some.inj h).symm⟩
      · cases h
  · cases h
theorem factD_inj {a b : Option Fact} (h : factD a = factD b) : a = b := by
  rcases a with _ | n | n <;> rcases b with _ | m | m <;> simp [factD] at h <;> simp [h]

def inPlace (n : Int) : Bool := decide (0 ≤ n ∧ n < 50000)
def allPl : List Int := (List.range 50000).map Int.ofNat
theorem mem_allPl (n : Int) : n ∈ allPl ↔ inPlace n = true := by
  unfold allPl inPlace
  simp only [List.mem_map, List.mem_range, decide_eq_true_eq]
  constructor
  · rintro ⟨i, hi, rfl⟩
    simp only [Int.ofNat_eq_natCast]
    omega
  · rintro ⟨h0, h1⟩; exact ⟨n.toNat, by omega, by simp only [Int.ofNat_eq_natCast]; omega⟩
theorem nodup_allPl : allPl.Nodup := by
  unfold allPl
  rw [List.nodup_iff_pairwise_ne, List.pairwise_map]
  exact List.nodup_range.imp fun h e => h (by simp only [Int.ofNat_eq_natCast] at e; omega)
theorem keyF : Keyed Tryz.prog 3 := int_keyed Tryz.underlying3
theorem owns_least {w : World} {b n : Nat} {D : DF} {R : Value → Option (DF × List MemPlace)} (h : w.ownsMap Tryz.prog 3 R b n D) : w.ownsMap Tryz.prog 3 R b (Maps.size D) D := by
  obtain ⟨es, clock, h1, h2, _, rfl⟩ := h
  refine ⟨es, clock, h1, h2, ?_, rfl⟩
  rw [Maps.size_eq, length_sorted]
  simp
theorem litk_ne {x k : Int} (h : x ≠ k) : (Lit.int .i64 x) ≠ Lit.int .i64 k := fun e => h (by injection e)
theorem size_le_places {w : World} {b n : Nat} {D : DF} {S : Int → Bool} {R : Value → Option (DF × List MemPlace)} (h : w.ownsMap Tryz.prog 3 R b n D) (hh : ∀ k, Maps.has D (.int .i64 k) = S k) (hp : ∀ k, S k = true → inPlace k = true) : Maps.size D ≤ 50000 := by
  have hperm : (allPl.filter S).Perm (intKeys D) :=
    CollectedI.perm (left := fun _ => false) ⟨List.Pairwise.filter _ nodup_allPl, fun x => by rw [List.mem_filter, mem_allPl, hh x]; exact ⟨fun h => ⟨h.2, rfl⟩, fun h => ⟨hp x h.1, h.1⟩⟩⟩ h keyF Tryz.underlying3 (fun _ => rfl)
  have hs : Maps.size D = (intKeys D).length := by
    unfold Maps.size intKeys
    split <;> simp
  rw [hs, ← hperm.length_eq]
  exact Nat.le_trans (List.length_filter_le _ _) (by simp [allPl])

/-- block b of w holds what E knows -/
def MFacts (w : World) (b : Nat) (E : Env) : Prop :=
  ∃ (n : Nat) (D : DF), w.ownsMap Tryz.prog 3 factElem b n D ∧ n ≤ 50000 ∧ (∀ k, D.atKey (.int .i64 k) (factD none) = factD (E k)) ∧ (∀ k, Maps.has D (.int .i64 k) = (E k).isSome) ∧ (∀ k, (E k).isSome = true → inPlace k = true)
theorem MFacts.of {w : World} {b n : Nat} {D : DF} {E : Env} (h : w.ownsMap Tryz.prog 3 factElem b n D) (ha : ∀ k, D.atKey (.int .i64 k) (factD none) = factD (E k)) (hh : ∀ k, Maps.has D (.int .i64 k) = (E k).isSome) (hp : ∀ k, (E k).isSome = true → inPlace k = true) : MFacts w b E :=
  ⟨_, D, owns_least h, size_le_places h hh hp, ha, hh, hp⟩
section
variable {w w' : World} {b : Nat} {E : Env}
theorem MFacts.lt (h : MFacts w b E) : b < w.heap.size := by
  obtain ⟨_, _, h, _⟩ := h
  exact h.lt
theorem MFacts.place (h : MFacts w b E) {k : Int} (hk : (E k).isSome = true) : inPlace k = true := by
  obtain ⟨_, _, _, _, _, _, h⟩ := h
  exact h k hk
theorem MFacts.kept {row : Option Nat} (h : MFacts w b E) (hg : w.grownBy w' row) (hne : some b ≠ row) : MFacts w' b E := by
  obtain ⟨n, D, h1, h2⟩ := h
  exact ⟨n, D, h1.kept hg hne, h2⟩
theorem MFacts.made (w : World) : MFacts (w.alloc (.map #[] 0)) w.heap.size (fun _ => none) :=
  MFacts.of (World.ownsMap_made _ _ _ _) (fun _ => rfl) (fun _ => rfl) (fun _ h => by cases h)
def putE (E : Env) (k : Int) (f : Fact) : Env := fun x => if x = k then some f else E x
def delE (E : Env) (k : Int) : Env := fun x => if x = k then none else E x
theorem MFacts.put {n : Nat} {D : DF} {k : Int} {f : Fact} (h0 : w.ownsMap Tryz.prog 3 factElem b n D) (ha : ∀ k, D.atKey (.int .i64 k) (factD none) = factD (E k)) (hh : ∀ k, Maps.has D (.int .i64 k) = (E k).isSome) (hp : ∀ k, (E k).isSome = true → inPlace k = true)
    (hk : inPlace k = true) (h1 : w'.ownsMap Tryz.prog 3 factElem b (n + 1) (D.put (.int .i64 k) (factD (some f)))) : MFacts w' b (putE E k f) := by
  have hkey : WideAt.IsKeyLit (Lit.int .i64 k) := by first | trivial | exact rfl | simp [WideAt.IsKeyLit]
  refine MFacts.of h1 (fun x => ?_) (fun x => ?_) (fun x hx => ?_)
  · unfold putE
    by_cases e : x = k
    · subst e; rw [if_pos rfl, Maps.atKey_put_same h0.isMap hkey]
    · rw [if_neg e, Maps.atKey_put_other (litk_ne e), ha x]
  · unfold putE
    by_cases e : x = k
    · subst e; rw [if_pos rfl, Maps.has_put_same h0.isMap hkey]; rfl
    · rw [if_neg e, Maps.has_put_other (litk_ne e), hh x]
  · unfold putE at hx
    by_cases e : x = k
    · subst e; exact hk
    · rw [if_neg e] at hx; exact hp x hx
theorem MFacts.del {n : Nat} {D : DF} {k : Int} (ha : ∀ k, D.atKey (.int .i64 k) (factD none) = factD (E k)) (hh : ∀ k, Maps.has D (.int .i64 k) = (E k).isSome) (hp : ∀ k, (E k).isSome = true → inPlace k = true)
    (h1 : w'.ownsMap Tryz.prog 3 factElem b n (D.del (.int .i64 k))) : MFacts w' b (delE E k) := by
  refine MFacts.of h1 (fun x => ?_) (fun x => ?_) (fun x hx => ?_)
  · unfold delE
    by_cases e : x = k
    · subst e; rw [if_pos rfl, Maps.atKey_del_same]
    · rw [if_neg e, Maps.atKey_del_other (litk_ne e), ha x]
  · unfold delE
    by_cases e : x = k
    · subst e; rw [if_pos rfl, Maps.has_del_same]; rfl
    · rw [if_neg e, Maps.has_del_other (litk_ne e), hh x]
  · unfold delE at hx
    by_cases e : x = k
    · subst e; simp at hx
    · rw [if_neg e] at hx; exact hp x hx
theorem key_i64 {k : Int} (hk : -9223372036854775808 ≤ k ∧ k ≤ 9223372036854775807) : keyOf Tryz.prog 3 (.int .i64 k) = some (.int .i64 k) := Maps.keyOf_int_mk Tryz.underlying3 (WalkArith.wf_i64 hk)
theorem zero_fact (w : World) : (zeroValue 152).run Tryz.prog w = .ok .nilIface w := by kernel_rfl
theorem MFacts.look (h : MFacts w b E) {k : Int} (hk : -9223372036854775808 ≤ k ∧ k ≤ 9223372036854775807) : (Instr.lookup 120 (.map (some b)) (.int .i64 k) false).run Tryz.prog w = .ok (factV (E k)) w := by
  obtain ⟨n, D, ho, _, ha, _, _⟩ := h
  obtain ⟨v, ps, hrun, hv⟩ := ho.lookup keyF Tryz.underlying120 (zero_fact w) (zd := factD none) (zp := []) rfl (key_i64 hk)
  obtain ⟨o, rfl, e⟩ := factElem_inv hv
  rw [hrun]
  have e1 : D.atKey (.int .i64 k) (factD none) = factD o := by injection e
  rw [ha k] at e1
  rw [factD_inj e1]
end

/-- the number that is known, and whether one is -/
def numOf : Option Fact → Int
  | some (.num n) => n
  | _ => 0
def isNum : Option Fact → Bool
  | some (.num _) => true
  | _ => false
def valOf : Option Fact → Int
  | some (.val n) => n
  | _ => 0
def isVal : Option Fact → Bool
  | some (.val _) => true
  | _ => false
def valueE (E : Env) (v : Int) : Int := match E v with
  | some (.val o) => o
  | _ => v
theorem assert_num (o : Option Fact) (w : World) : (Instr.typeAssert (factV o) 152 151 true).run Tryz.prog w = .ok (.tuple #[.int .i64 (numOf o), .bool (isNum o)]) w := by
  rcases o with _ | n | n <;> kernel_rfl
theorem assert_val (o : Option Fact) (w : World) : (Instr.typeAssert (factV o) 152 153 true).run Tryz.prog w = .ok (.tuple #[.int .i64 (valOf o), .bool (isVal o)]) w := by
  rcases o with _ | n | n <;> kernel_rfl

set_option maxRecDepth 100000 in
set_option maxHeartbeats 4000000 in
theorem number_any {b : Nat} {E : Env} {k : Int} (hk : -9223372036854775808 ≤ k ∧ k ≤ 9223372036854775807) (w : World) (h : MFacts w b E) :
    Calls Tryz.prog 95 #[.map (some b), .int .i64 k] w fun e w' => e = .returned (.tuple #[.int .i64 (numOf (E k)), .bool (isNum (E k))]) ∧ w' = w := by
  have hl := h.look hk
  have ha := assert_num (E k) w
  generalize factV (E k) = fv at hl ha
  generalize numOf (E k) = n at *
  generalize isNum (E k) = is at *
  clear h
  go_enter Tryz.func95, Tryz.ntmps95
  go_wp2
  go_ret2
  exact ⟨rfl, rfl⟩

set_option maxRecDepth 100000 in
set_option maxHeartbeats 4000000 in
theorem value_any {b : Nat} {E : Env} {k : Int} (hk : -9223372036854775808 ≤ k ∧ k ≤ 9223372036854775807) (w : World) (h : MFacts w b E) :
    Calls Tryz.prog 92 #[.map (some b), .int .i64 k] w fun e w' => e = .returned (.int .i64 (valueE E k)) ∧ w' = w := by
  have hl := h.look hk
  have ha := assert_val (E k) w
  have hv : valueE E k = if isVal (E k) = true then valOf (E k) else k := by
    unfold valueE
    rcases E k with _ | n | n <;> rfl
  rw [hv]
  clear hv
  generalize factV (E k) = fv at hl ha
  generalize valOf (E k) = n at *
  generalize isVal (E k) = is at *
  clear h
  cases is
  · go_enter Tryz.func92, Tryz.ntmps92
    go_wp2
    go_ret
    exact ⟨rfl, rfl⟩
  · go_enter Tryz.func92, Tryz.ntmps92
    go_wp2
    go_ret
    exact ⟨rfl, rfl⟩

/-- nothing is known of a value, and of none that it is that one -/
def forgetE (E : Env) (d : Int) : Env := fun k => if k = d then none else if E k = some (.val d) then none else E k
/-- what is known while the range is under way: those that are still to come are known as they were -/
def midE (E : Env) (d : Int) (left : Lit → Bool) : Env := fun k => if left (.int .i64 k) = false ∧ E k = some (.val d) then none else E k
theorem eql_fact (o : Option Fact) (d : Int) (w : World) : (binOp .eql 152 (factV o) (factV (some (.val d)))).run Tryz.prog w = .ok (.bool (decide (o = some (.val d)))) w := by
  rcases o with _ | n | n
  · rw [decide_eq_false (by simp)]; kernel_rfl
  · rw [decide_eq_false (by simp)]
    exact run_eql_iface_types _ _ _ _ Tryz.underlying152 (by decide) w
  · have h := Lib.run_eql_iface_int (P := Tryz.prog) w (t := 152) (tx := 153) (k := .i64) n d Tryz.underlying152 (by kernel_rfl) Tryz.underlying153
    have e : (n == d) = decide (some (Fact.val n) = some (.val d)) := by
      by_cases h : n = d
      · subst h; simp
      · have h1 : (n == d) = false := by simpa using h
        rw [h1, decide_eq_false (by simpa using h)]
    rw [← e]
    exact h
theorem guard_fact (o : Option Fact) (d : Int) (x y : Operand) (w : World) : (eqGuard .eql 152 x y (factV o) (.iface 153 (.int .i64 d))).run Tryz.prog w = .ok () w := by
  rcases o with _ | n | n <;> simp [eqGuard, factV]
set_option maxRecDepth 100000 in
set_option maxHeartbeats 4000000 in
theorem forget_any {b : Nat} {E : Env} {d : Int} (hd : -9223372036854775808 ≤ d ∧ d ≤ 9223372036854775807) (w : World) (h : MFacts w b E) :
    Calls Tryz.prog 94 #[.map (some b), .int .i64 d] w fun e w' => e = .returned (.tuple #[]) ∧ MFacts w' b (forgetE E d) ∧ w.grownBy w' (some b) := by
  obtain ⟨n, D, ho, hn, ha, hh, hp⟩ := h
  have hbl := ho.lt
  have hkey := key_i64 hd
  have HA := Lib.hid ha
  have HH := Lib.hid hh
  have HP := Lib.hid hp
  clear ha hh hp
  go_enter Tryz.func94, Tryz.ntmps94
  go_wp2_with (first | (at_delete; refine wpList_delete_own _ rfl _ _ 120 3 rfl 152 keyF Tryz.underlying120 factElem b n D rfl ho _ _ rfl hkey ?_; intro w1 ho1 htn1) | (at_range; refine wpList_range_own _ rfl _ 120 rfl 3 152 keyF Tryz.underlying120 factElem b n _ rfl ho1 ?_; intro w0 hrg0 hg0 hs0))
  have hw1 : w.grownBy w1 (some b) := htn1.grown
  have HA1 : Hid (∀ k, (D.del (.int .i64 d)).atKey (.int .i64 k) (factD none) = factD (delE E d k)) := Lib.hid fun k => by
    unfold delE
    by_cases e : k = d
    · subst e; rw [if_pos rfl, Maps.atKey_del_same]
    · rw [if_neg e, Maps.atKey_del_other (litk_ne e), HA.out k]
  have HH1 : Hid (∀ k, Maps.has (D.del (.int .i64 d)) (.int .i64 k) = (delE E d k).isSome) := Lib.hid fun k => by
    unfold delE
    by_cases e : k = d
    · subst e; rw [if_pos rfl, Maps.has_del_same]; rfl
    · rw [if_neg e, Maps.has_del_other (litk_ne e), HH.out k]
  obtain ⟨E1, hE1⟩ : ∃ E1, E1 = delE E d := ⟨_, rfl⟩
  rw [← hE1] at HA1 HH1
  have HE1 := Lib.hid hE1
  obtain ⟨r, hr⟩ : ∃ r, r = w1.heap.size := ⟨_, rfl⟩
  rw [← hr] at hrg0 ⊢
  have hrb : w.heap.size ≤ r := by have := hw1.size; omega
  clear ho ho1 hs0 hE1 hr htn1
  go_frame
  go_loopw [10] (fun _ wr => ∃ (left : Lit → Bool) (cnt : Nat) (D' : DF), wr.ranges Tryz.prog 3 factElem b r n D' left cnt ∧
      (∀ k, D'.atKey (.int .i64 k) (factD none) = factD (midE E1 d left k)) ∧ (∀ k, Maps.has D' (.int .i64 k) = (midE E1 d left k).isSome) ∧ w.grownBy wr (some b))
    (fun _ wr => wr.rangeLeft b r)
  case atStart =>
    have e : ∀ k, midE E1 d (Maps.has (D.del (.int .i64 d))) k = E1 k := fun k => by
      unfold midE
      rw [HH1.out k]
      by_cases h : (E1 k).isSome = false ∧ E1 k = some (.val d)
      · rw [h.2] at h; simp at h
      · rw [if_neg h]
    refine ⟨_, _, _, hrg0, fun k => ?_, fun k => ?_, hw1.trans (hg0.but _)⟩
    · rw [e k]; exact HA1.out k
    · rw [e k]; exact HH1.out k
  case round =>
    obtain ⟨left, cnt0, D', hrg, hat0, hhas0, hgw⟩ := hrel
    have HAT := Lib.hid hat0
    have HHAS := Lib.hid hhas0
    clear hat0 hhas0
    go_wp2_with (at_next; refine wpList_next_ranges _ rfl _ rfl 3 keyF factElem (fun x : Int => Value.int .i64 x) factV (fun key kl h => by obtain ⟨x, hx, _⟩ := Maps.keyOf_i64 Tryz.underlying3 h; exact ⟨x, hx⟩) (fun v y h => by obtain ⟨o, ho, _⟩ := factElem_inv h; exact ⟨o, ho⟩) b r n _ _ _ rfl hrg ?_ ?_)
    · intro hc0 hl0
      go_wp2
      refine bodyPost_end (results_none rfl _ _ _) rfl ⟨rfl, ?_, hgw⟩
      have e : ∀ k, midE E1 d left k = forgetE E d k := fun k => by
        unfold midE forgetE
        rw [hl0, HE1.out]
        unfold delE
        by_cases h : k = d
        · rw [if_pos h, if_pos h]; simp
        · rw [if_neg h, if_neg h]; simp
      refine MFacts.of hrg.owns (fun k => by rw [← e k]; exact HAT.out k) (fun k => by rw [← e k]; exact HHAS.out k) (fun k hk => ?_)
      refine HP.out k ?_
      unfold forgetE at hk
      by_cases h : k = d
      · rw [if_pos h] at hk; cases hk
      · rw [if_neg h] at hk
        by_cases h2 : E k = some (.val d)
        · rw [if_pos h2] at hk; cases hk
        · rw [if_neg h2] at hk; exact hk
    · intro x c kl yd yp w2 cnt1 hkey hlx hv hat hrg1 hlt hg1 hs1 hen
      obtain ⟨x', ex, rfl, hwf⟩ := Maps.keyOf_i64 Tryz.underlying3 hkey
      obtain rfl : x = x' := by injection ex
      obtain rfl : yd = factD c := by
        rw [factElem_mk] at hv
        injection hv with hv
        injection hv with h1 h2
        exact h1.symm
      have hc : midE E1 d left x = c := factD_inj (by rw [← HAT.out x]; exact hat _)
      have hc1 : E1 x = c := by
        rw [← hc]
        unfold midE
        rw [if_neg (by rw [hlx]; simp)]
      have heq : ∀ W, (binOp .eql 152 (factV c) (.iface 153 (.int .i64 d))).run Tryz.prog W = .ok (.bool (decide (c = some (.val d)))) W := fun W => eql_fact c d W
      have hgd : ∀ a b W, (eqGuard .eql 152 a b (factV c) (.iface 153 (.int .i64 d))).run Tryz.prog W = .ok () W := fun a b W => guard_fact c d a b W
      have hmid : ∀ k, midE E1 d (fun z => left z && !z.sameKey (.int .i64 x)) k = if k = x then (if c = some (.val d) then none else c) else midE E1 d left k := fun k => by
        unfold midE
        by_cases e : k = x
        · subst e
          rw [if_pos rfl, hc1]
          simp [Lit.sameKey]
        · rw [if_neg e]
          simp [Lit.sameKey, e]
      have hsw : w2.heap.size = wr.heap.size := hs1
      have HMID := Lib.hid hmid
      have HC := Lib.hid hc
      have HLT := Lib.hid hlt
      have HG := Lib.hid (hgw.andThen hg1 (fun j hj => .inl (by cases hj; exact hrb)))
      have hge : ∀ k, left (.int .i64 k) = true → True := fun _ _ => trivial
      clear hge hat hv hc hc1 hmid hsw hs1 hlt hlx ex hg1
      by_cases hcd : c = some (.val d)
      · have HCD := Lib.hid hcd
        rw [decide_eq_true hcd] at heq
        clear hcd
        generalize factV c = fv at *
        go_wp2_with (at_delete; refine wpList_delete_ranges _ rfl _ _ 120 3 rfl 152 keyF Tryz.underlying120 factElem b r n D' _ _ rfl hrg1 _ _ rfl hkey ?_; intro w3 cnt2 hrg2 hle htn2)
        rw [Maps.strike_twice] at hrg2
        have hg2 := htn2.grown
        go_roundw
        case rel =>
          refine ⟨_, _, _, _, _, _, _, _, _, _, _, _, _, ⟨_, _, _, hrg2, fun k => ?_, fun k => ?_, HG.out.trans hg2⟩, rfl⟩
          · rw [HMID.out k, if_pos HCD.out]
            by_cases e : k = x
            · subst e; rw [if_pos rfl, Maps.atKey_del_same]
            · rw [if_neg e, Maps.atKey_del_other (litk_ne e), HAT.out k]
          · rw [HMID.out k, if_pos HCD.out]
            by_cases e : k = x
            · subst e; rw [if_pos rfl, Maps.has_del_same]; rfl
            · rw [if_neg e, Maps.has_del_other (litk_ne e), HHAS.out k]
        case measure => rw [hrg2.left_eq, hrg.left_eq]; have := HLT.out; omega
      · have HCD := Lib.hid hcd
        rw [decide_eq_false hcd] at heq
        clear hcd
        generalize factV c = fv at *
        go_wp2
        go_roundw
        case rel =>
          have e : ∀ k, midE E1 d (fun z => left z && !z.sameKey (.int .i64 x)) k = midE E1 d left k := fun k => by
            rw [HMID.out k, if_neg HCD.out]
            by_cases e : k = x
            · subst e; rw [if_pos rfl, HC.out]
            · rw [if_neg e]
          refine ⟨_, _, _, hrg1, fun k => ?_, fun k => ?_, HG.out⟩
          · rw [e k]; exact HAT.out k
          · rw [e k]; exact HHAS.out k
        case measure => rw [hrg1.left_eq, hrg.left_eq]; exact HLT.out
end Go.Proofs.YtnpnhdmfdhnmfaaGreatDoor

namespace Go.Proofs.YtnpnhdmfdhnmfaaGreatDoor
open Go.RowKit

/-- an append onto a row of the call's own that may be empty, in a plain region -/
theorem wpList_append_any {P : Program} (w : World) {ops : Array Oper} {rest : List Oper} {o : Oper} {a : Act} {Q : Exit → Act → World → Prop} (hgd : o.guard = none) (s x : Operand) (t : TypeId)
    (ho : o.op = .call { callee := .builtin .append, args := #[s, x], argTypes := #[t, t] })
    (base : Nat) (e : TypeId) (i : TypeInfo) (z : Value) (size bytes : Nat) (ht : P.underlying t = some (.slice e)) (hi : P.info? e = some i) (hz : i.zero = some z)
    (hsize : i.size = size) (hby : i.bytes = bytes) (hzs : z.cells.size = size) (hsz : 0 < size)
    (v : Value) (n : Nat) (xs : List Value) (hs : a.eval s = v) (hown : w.ownsRow base e size v n xs)
    (A : Option Addr) (m c : Nat) (news : List Value) (hx : a.eval x = .slice A m c) (hl : news.length = m * size) (hnews : m = 0 ∨ ∃ ad, A = some ad ∧ ∀ j u, news[j]? = some u → w.cell? (ad.add j) = some u) (h1 : ∀ u ∈ news, u.oneCell' = true)
    (h63 : n + m ≤ maxLen) (hbytes : (n + m) * bytes ≤ 140737488355328) (hbase : base ≤ w.heap.size) (H : Nat) (hH : w.heap.size = H)
    (h : ∀ v' w', w'.ownsRow base e size v' (n + m) (xs ++ news) → w.grownBy w' v.ownBlock → (∀ g, v'.ownBlock = some g → (v.ownBlock = some g ∨ g = H) ∧ g < w'.heap.size) → wpList P ops Q rest (a.put o.dst v') w') :
    wpList P ops Q (o :: rest) a w := by
  refine wpList_plain hgd fun K hK => ?_
  have hw : Region.wanted o (yielded ops a.tmps) = true := by simp [Region.wanted, hgd]
  have h2 := step_append_any (ops := ops) (Q := Q) (K := K) (E := False) w hgd s x t ho base e i z size bytes ht hi hz hsize hby hzs hsz v n xs hs hown A m c news hx hl hnews h1 h63 hbytes hbase H hH (fun v' w' a1 a2 a3 => hK _ _ (h v' w' a1 a2 a3))
  rw [if_pos hw] at h2
  exact h2
theorem info_arr : (Tryz.prog.info? 70).map (fun i => (i.zero, i.size, i.bytes)) = some (some (.agg #[.string ⟨#[]⟩, .int .i64 0]), 2, 24) := by kernel_rfl
theorem arr_ones {cs : List Value} {x : ByteArray × Int} (h : RArr cs x) : ∀ u ∈ cs, u.oneCell' = true := by
  rw [h]
  intro u hu
  simp at hu
  rcases hu with rfl | rfl <;> rfl
theorem int_ones {cs : List Value} {x : Int} (h : RInt cs x) : ∀ u ∈ cs, u.oneCell' = true := by
  rw [h]
  intro u hu
  simp at hu
  rcases hu with rfl; rfl
/-- an empty row of the call's own, made with no element -/
theorem own_empty (w : World) (T : TypeId) (sz : Nat) : (w.alloc (.cells #[] T)).ownsRow w.heap.size T sz (.slice (some ⟨w.heap.size, 0, none⟩) 0 0) 0 [] :=
  own_made (cs := #[]) (n := 0) (Blk.new w T #[]) (Nat.le_refl _) (by unfold maxLen; omega) (by simp)

set_option maxRecDepth 100000 in
set_option maxHeartbeats 4000000 in
theorem clone_int {v : Value} {l : List Int} (hb : l.length * 8 ≤ 140737488355328) (w : World) {ok : Nat → Prop} (h : SlR w ok 1 RInt v l) (hok : ∀ b, ok b → b < w.heap.size) :
    Calls Tryz.prog 90 #[v] w fun e w' => ∃ (v' : Value) (css : List (List Value)), e = .returned v' ∧ Below w.heap.size w w' ∧ w'.ownsRow w.heap.size 3 1 v' l.length css.flatten ∧ css.length = l.length ∧ (∀ cs ∈ css, cs.length = 1) ∧ (∀ (i : Nat) (h1 : i < css.length) (h2 : i < l.length), RInt css[i] l[i]) ∧ (∀ g, v'.ownBlock = some g → g < w'.heap.size) := by
  obtain ⟨A, c, hv, hc1, hc2⟩ := h.val
  subst hv
  obtain ⟨css, q1, q2, q3, q4⟩ := h.rows_any
  cases A with
  | none =>
    have h0 : l.length = 0 := by
      rcases q4 with h0 | ⟨b, o, e, _⟩
      · exact h0
      · cases e
    have hl : l = [] := List.eq_nil_of_length_eq_zero h0
    subst hl
    clear q1 q2 q3 q4 h h0 hb
    have heq : ∀ W, (binOp .eql 34 (.slice none 0 c) (.slice none 0 0)).run Tryz.prog W = .ok (.bool true) W := fun W => Lib.run_eql_slice_nil W 34 3 none 0 c 0 0 Tryz.underlying34
    go_enter Tryz.func90, Tryz.ntmps90
    go_wp2
    go_ret
    exact ⟨_, [], rfl, Below.refl _ _, World.ownsRow_nil _ _ _ _, rfl, fun _ h => by simp at h, fun i h => by simp at h, fun g e => by cases e⟩
  | some ad =>
    have hones : ∀ u ∈ css.flatten, u.oneCell' = true := flatten_ones fun cs hc => by
      obtain ⟨j, hj, rfl⟩ := List.getElem_of_mem hc
      exact int_ones (q3 j hj (by omega))
    have hfl : css.flatten.length = l.length * 1 := by rw [flatten_len q2, q1]
    have hcell : ∀ X, Below w.heap.size w X → (l.length = 0 ∨ ∃ ad', (some ad : Option Addr) = some ad' ∧ ∀ j u, css.flatten[j]? = some u → X.cell? (ad'.add j) = some u) := fun X hX => q4.imp id fun ⟨b, o, e, hb, hc⟩ => ⟨_, e, (hc.keep (hX.block b (hok b hb))).news⟩
    obtain ⟨z0, hi0, hz0, hz1, hz2⟩ := info_parts info_int
    have HONES := Lib.hid hones
    have HCELL := Lib.hid hcell
    have hlm : l.length ≤ maxLen := h.len_le
    have key : ∀ n, l.length = n → Calls Tryz.prog 90 #[.slice (some ad) n c] w fun e w' => ∃ v' : Value, e = .returned v' ∧ Below w.heap.size w w' ∧ w'.ownsRow w.heap.size 3 1 v' n css.flatten ∧ (∀ g, v'.ownBlock = some g → g < w'.heap.size) := fun n hn => by
      have HFL := Lib.hid hfl
      have HLM := Lib.hid hlm
      have HBB := Lib.hid hb
      rw [hn] at HFL HLM HBB HCELL
      clear q1 q2 q3 q4 h hones hfl hcell hlm hb hn hc1 hc2
      have heq : ∀ W, (binOp .eql 34 (.slice (some ad) n c) (.slice none 0 0)).run Tryz.prog W = .ok (.bool false) W := fun W => Lib.run_eql_slice_nil W 34 3 (some ad) n c 0 0 Tryz.underlying34
      go_enter Tryz.func90, Tryz.ntmps90
      go_wp2_with (at_builtin; refine wpList_append_any _ rfl _ _ 34 rfl w.heap.size 3 z0 _ 1 8 Tryz.underlying34 hi0 hz0 hz1 hz2 rfl (by decide) (.slice (some ⟨w.heap.size, 0, none⟩) 0 0) 0 [] rfl (own_empty w _ _) (some ad) n c css.flatten rfl HFL.out (HCELL.out _ (below1 _ _)) HONES.out (by rw [Nat.zero_add]; exact HLM.out) (by rw [Nat.zero_add]; exact HBB.out) (by simp) _ rfl ?_; intro v' w1 hown1 hgrow1 hat1)
      go_ret
      rw [Nat.zero_add, List.nil_append] at hown1
      refine ⟨_, rfl, (below1 w _).grown hgrow1 (by simp) (fun k e => ?_), hown1, fun g e => (hat1 g e).2⟩
      have e' : w.heap.size = k := (by simpa [Value.ownBlock] using e)
      omega
    exact (key _ rfl).mono fun e w' ⟨v', e1, h1, h2, h3⟩ => ⟨v', css, e1, h1, h2, q1, q2, q3, h3⟩

set_option maxRecDepth 100000 in
set_option maxHeartbeats 4000000 in
theorem clone_arr {v : Value} {l : List (ByteArray × Int)} (hb : l.length * 24 ≤ 140737488355328) (w : World) {ok : Nat → Prop} (h : SlR w ok 2 RArr v l) (hok : ∀ b, ok b → b < w.heap.size) :
    Calls Tryz.prog 47 #[v] w fun e w' => ∃ (v' : Value) (css : List (List Value)), e = .returned v' ∧ Below w.heap.size w w' ∧ w'.ownsRow w.heap.size 70 2 v' l.length css.flatten ∧ css.length = l.length ∧ (∀ cs ∈ css, cs.length = 2) ∧ (∀ (i : Nat) (h1 : i < css.length) (h2 : i < l.length), RArr css[i] l[i]) ∧ (∀ g, v'.ownBlock = some g → g < w'.heap.size) := by
  obtain ⟨A, c, hv, hc1, hc2⟩ := h.val
  subst hv
  obtain ⟨css, q1, q2, q3, q4⟩ := h.rows_any
  cases A with
  | none =>
    have h0 : l.length = 0 := by
      rcases q4 with h0 | ⟨b, o, e, _⟩
      · exact h0
      · cases e
    have hl : l = [] := List.eq_nil_of_length_eq_zero h0
    subst hl
    clear q1 q2 q3 q4 h h0 hb
    have heq : ∀ W, (binOp .eql 24 (.slice none 0 c) (.slice none 0 0)).run Tryz.prog W = .ok (.bool true) W := fun W => Lib.run_eql_slice_nil W 24 70 none 0 c 0 0 Tryz.underlying24
    go_enter Tryz.func47, Tryz.ntmps47
    go_wp2
    go_ret
    exact ⟨_, [], rfl, Below.refl _ _, World.ownsRow_nil _ _ _ _, rfl, fun _ h => by simp at h, fun i h => by simp at h, fun g e => by cases e⟩
  | some ad =>
    have hones : ∀ u ∈ css.flatten, u.oneCell' = true := flatten_ones fun cs hc => by
      obtain ⟨j, hj, rfl⟩ := List.getElem_of_mem hc
      exact arr_ones (q3 j hj (by omega))
    have hfl : css.flatten.length = l.length * 2 := by rw [flatten_len q2, q1]
    have hcell : ∀ X, Below w.heap.size w X → (l.length = 0 ∨ ∃ ad', (some ad : Option Addr) = some ad' ∧ ∀ j u, css.flatten[j]? = some u → X.cell? (ad'.add j) = some u) := fun X hX => q4.imp id fun ⟨b, o, e, hb, hc⟩ => ⟨_, e, (hc.keep (hX.block b (hok b hb))).news⟩
    obtain ⟨z0, hi0, hz0, hz1, hz2⟩ := info_parts info_arr
    have HONES := Lib.hid hones
    have HCELL := Lib.hid hcell
    have hlm : l.length ≤ maxLen := h.len_le
    have key : ∀ n, l.length = n → Calls Tryz.prog 47 #[.slice (some ad) n c] w fun e w' => ∃ v' : Value, e = .returned v' ∧ Below w.heap.size w w' ∧ w'.ownsRow w.heap.size 70 2 v' n css.flatten ∧ (∀ g, v'.ownBlock = some g → g < w'.heap.size) := fun n hn => by
      have HFL := Lib.hid hfl
      have HLM := Lib.hid hlm
      have HBB := Lib.hid hb
      rw [hn] at HFL HLM HBB HCELL
      clear q1 q2 q3 q4 h hones hfl hcell hlm hb hn hc1 hc2
      have heq : ∀ W, (binOp .eql 24 (.slice (some ad) n c) (.slice none 0 0)).run Tryz.prog W = .ok (.bool false) W := fun W => Lib.run_eql_slice_nil W 24 70 (some ad) n c 0 0 Tryz.underlying24
      go_enter Tryz.func47, Tryz.ntmps47
      go_wp2_with (at_builtin; refine wpList_append_any _ rfl _ _ 24 rfl w.heap.size 70 z0 _ 2 24 Tryz.underlying24 hi0 hz0 hz1 hz2 rfl (by decide) (.slice (some ⟨w.heap.size, 0, none⟩) 0 0) 0 [] rfl (own_empty w _ _) (some ad) n c css.flatten rfl HFL.out (HCELL.out _ (below1 _ _)) HONES.out (by rw [Nat.zero_add]; exact HLM.out) (by rw [Nat.zero_add]; exact HBB.out) (by simp) _ rfl ?_; intro v' w1 hown1 hgrow1 hat1)
      go_ret
      rw [Nat.zero_add, List.nil_append] at hown1
      refine ⟨_, rfl, (below1 w _).grown hgrow1 (by simp) (fun k e => ?_), hown1, fun g e => (hat1 g e).2⟩
      have e' : w.heap.size = k := (by simpa [Value.ownBlock] using e)
      omega
    exact (key _ rfl).mono fun e w' ⟨v', e1, h1, h2, h3⟩ => ⟨v', css, e1, h1, h2, q1, q2, q3, h3⟩
end Go.Proofs.YtnpnhdmfdhnmfaaGreatDoor

namespace Go.Proofs.YtnpnhdmfdhnmfaaGreatDoor
open Go.RowKit

/-! ### fold in plain words -/
/-- the number that an instruction sets, and whether it is known -/
def knownN (E : Env) (x : LIns) : Int := if isNum (E x.a) = true then (if x.kind = 2 then numOf (E x.a) else if x.kind = 3 then Ar.one x.op (numOf (E x.a)) else if x.kind = 4 then (if isNum (E x.b) = true then Ar.two x.op (numOf (E x.a)) (numOf (E x.b)) else 0) else 0) else 0
def isKnown (E : Env) (x : LIns) : Bool := if isNum (E x.a) = true then (if x.kind = 2 then true else if x.kind = 3 then Ar.oneOk x.op else if x.kind = 4 then (if isNum (E x.b) = true then Ar.twoOk x.op (numOf (E x.b)) else false) else false) else false
/-- values in the place of others, where one is known to be another -/
def subE (E : Env) (x : LIns) : LIns :=
  if x.kind = 2 ∨ x.kind = 3 ∨ x.kind = 5 ∨ x.kind = 8 then { x with a := valueE E x.a }
  else if x.kind = 4 ∨ x.kind = 6 then { x with a := valueE E x.a, b := valueE E x.b }
  else if x.kind = 9 then { x with args := x.args.map (valueE E) }
  else x
def insE (E : Env) (x : LIns) : LIns := if isKnown E (subE E x) = true then ⟨1, x.d, 0, 0, 0, knownN E (subE E x), ⟨#[]⟩, []⟩ else subE E x
def setsE (x : LIns) : Int := if hasD x.kind then x.d else -1
def learnE (E : Env) (x : LIns) : Env :=
  if setsE x < 0 ∨ (x.kind = 2 ∧ x.a = setsE x) then E
  else if x.kind = 1 then putE (forgetE E (setsE x)) (setsE x) (.num x.n)
  else if x.kind = 2 then putE (forgetE E (setsE x)) (setsE x) (.val x.a)
  else forgetE E (setsE x)
def termE (E : Env) (t : LTerm) : LTerm :=
  if t.kind = 1 then t
  else if isNum (E (valueE E t.a)) = true ∧ t.kind = 2 then (if numOf (E (valueE E t.a)) = 0 then ⟨1, 0, t.els, 0⟩ else ⟨1, 0, t.to, 0⟩)
  else { t with a := valueE E t.a }
def envE : Env → List LIns → Env
  | E, [] => E
  | E, x :: r => envE (learnE E (insE E x)) r
def insL : Env → List LIns → List LIns
  | _, [] => []
  | E, x :: r => insE E x :: insL (learnE E (insE E x)) r
def E0 : Env := fun _ => none
def blockE (b : LBlock) : LBlock := ⟨insL E0 b.ins, termE (envE E0 b.ins) b.term⟩
def flowE (f : LFlow) : LFlow := { f with blocks := f.blocks.map blockE }
def foldE (u : LUnit) : LUnit := { u with flows := u.flows.map flowE }

def In64 (n : Int) : Prop := -9223372036854775808 ≤ n ∧ n ≤ 9223372036854775807
theorem MFacts.below {w w' : World} {b B : Nat} {E : Env} (h : MFacts w b E) (hb : Below B w w') (hB : b < B) : MFacts w' b E := by
  obtain ⟨n, D, ⟨es, clock, h1, h2⟩, h3⟩ := h
  exact ⟨n, D, ⟨es, clock, (hb.block b hB).trans h1, h2⟩, h3⟩

/-! ### known -/
section
set_option maxRecDepth 100000
set_option maxHeartbeats 4000000
theorem known_no {b : Nat} (kind d a bb op n : Int) (nm : ByteArray) (A : Option Addr) (l c : Nat) (w : World) (na : Int) (HN : Hid (∀ X, Below w.heap.size w X → Calls Tryz.prog 95 #[.map (some b), .int .i64 a] X fun e w' => e = .returned (.tuple #[.int .i64 na, .bool false]) ∧ w' = X)) :
    Calls Tryz.prog 93 #[.map (some b), .agg #[.int .i64 kind, .int .i64 d, .int .i64 a, .int .i64 bb, .int .i64 op, .int .i64 n, .string nm, .slice A l c]] w fun e w' => e = .returned (.tuple #[.int .i64 (0), .bool (false)]) ∧ Below w.heap.size w w' := by
  go_enter Tryz.func93, Tryz.ntmps93
  go_wp2_with (first | (go_at_call 95; refine (HN.out _ (below1 _ _)).mono ?_; rintro e w' ⟨rfl, rfl⟩))
  go_ret2
  exact ⟨rfl, by first | exact below1 _ _ | exact (below1 _ _).trans (hb9.mono (by simp))⟩
theorem known_move {b : Nat} (kind d a bb op n : Int) (nm : ByteArray) (A : Option Addr) (l c : Nat) (w : World) (na : Int) (h2 : kind = 2) (HN : Hid (∀ X, Below w.heap.size w X → Calls Tryz.prog 95 #[.map (some b), .int .i64 a] X fun e w' => e = .returned (.tuple #[.int .i64 na, .bool true]) ∧ w' = X)) :
    Calls Tryz.prog 93 #[.map (some b), .agg #[.int .i64 kind, .int .i64 d, .int .i64 a, .int .i64 bb, .int .i64 op, .int .i64 n, .string nm, .slice A l c]] w fun e w' => e = .returned (.tuple #[.int .i64 (na), .bool (true)]) ∧ Below w.heap.size w w' := by
  subst h2
  go_enter Tryz.func93, Tryz.ntmps93
  go_wp2_with (first | (go_at_call 95; refine (HN.out _ (below1 _ _)).mono ?_; rintro e w' ⟨rfl, rfl⟩))
  go_ret2
  exact ⟨rfl, by first | exact below1 _ _ | exact (below1 _ _).trans (hb9.mono (by simp))⟩
theorem known_one {b : Nat} (kind d a bb op n : Int) (nm : ByteArray) (A : Option Addr) (l c : Nat) (w : World) (na : Int) (h3 : kind = 3) (HN : Hid (∀ X, Below w.heap.size w X → Calls Tryz.prog 95 #[.map (some b), .int .i64 a] X fun e w' => e = .returned (.tuple #[.int .i64 na, .bool true]) ∧ w' = X)) :
    Calls Tryz.prog 93 #[.map (some b), .agg #[.int .i64 kind, .int .i64 d, .int .i64 a, .int .i64 bb, .int .i64 op, .int .i64 n, .string nm, .slice A l c]] w fun e w' => e = .returned (.tuple #[.int .i64 (Ar.one op na), .bool (Ar.oneOk op)]) ∧ Below w.heap.size w w' := by
  subst h3
  go_enter Tryz.func93, Tryz.ntmps93
  go_wp2_with (first | (go_at_call 95; refine (HN.out _ (below1 _ _)).mono ?_; rintro e w' ⟨rfl, rfl⟩) | (go_at_call 98; refine (Ar.one_any op na _).mono ?_; rintro e w9 ⟨rfl, hb9⟩))
  go_ret2
  exact ⟨rfl, by first | exact below1 _ _ | exact (below1 _ _).trans (hb9.mono (by simp))⟩
theorem known_two {b : Nat} (kind d a bb op n : Int) (nm : ByteArray) (A : Option Addr) (l c : Nat) (w : World) (na nb : Int) (h4 : kind = 4) (HN : Hid (∀ X, Below w.heap.size w X → Calls Tryz.prog 95 #[.map (some b), .int .i64 a] X fun e w' => e = .returned (.tuple #[.int .i64 na, .bool true]) ∧ w' = X)) (HM : Hid (∀ X, Below w.heap.size w X → Calls Tryz.prog 95 #[.map (some b), .int .i64 bb] X fun e w' => e = .returned (.tuple #[.int .i64 nb, .bool true]) ∧ w' = X)) :
    Calls Tryz.prog 93 #[.map (some b), .agg #[.int .i64 kind, .int .i64 d, .int .i64 a, .int .i64 bb, .int .i64 op, .int .i64 n, .string nm, .slice A l c]] w fun e w' => e = .returned (.tuple #[.int .i64 (Ar.two op na nb), .bool (Ar.twoOk op nb)]) ∧ Below w.heap.size w w' := by
  subst h4
  have tok : True := trivial
  go_enter Tryz.func93, Tryz.ntmps93
  go_wp2_with (first | (go_at_call 95; have _t := tok; refine (HN.out _ (below1 _ _)).mono ?_; clear tok; rintro e w' ⟨rfl, rfl⟩) | (go_at_call 95; refine (HM.out _ (below1 _ _)).mono ?_; rintro e w' ⟨rfl, rfl⟩) | (go_at_call 99; refine (Ar.two_any op na nb _).mono ?_; rintro e w9 ⟨rfl, hb9⟩))
  go_ret2
  exact ⟨rfl, by first | exact below1 _ _ | exact (below1 _ _).trans (hb9.mono (by simp))⟩
theorem known_half {b : Nat} (kind d a bb op n : Int) (nm : ByteArray) (A : Option Addr) (l c : Nat) (w : World) (na nb : Int) (h4 : kind = 4) (HN : Hid (∀ X, Below w.heap.size w X → Calls Tryz.prog 95 #[.map (some b), .int .i64 a] X fun e w' => e = .returned (.tuple #[.int .i64 na, .bool true]) ∧ w' = X)) (HM : Hid (∀ X, Below w.heap.size w X → Calls Tryz.prog 95 #[.map (some b), .int .i64 bb] X fun e w' => e = .returned (.tuple #[.int .i64 nb, .bool false]) ∧ w' = X)) :
    Calls Tryz.prog 93 #[.map (some b), .agg #[.int .i64 kind, .int .i64 d, .int .i64 a, .int .i64 bb, .int .i64 op, .int .i64 n, .string nm, .slice A l c]] w fun e w' => e = .returned (.tuple #[.int .i64 (0), .bool (false)]) ∧ Below w.heap.size w w' := by
  subst h4
  have tok : True := trivial
  go_enter Tryz.func93, Tryz.ntmps93
  go_wp2_with (first | (go_at_call 95; have _t := tok; refine (HN.out _ (below1 _ _)).mono ?_; clear tok; rintro e w' ⟨rfl, rfl⟩) | (go_at_call 95; refine (HM.out _ (below1 _ _)).mono ?_; rintro e w' ⟨rfl, rfl⟩))
  go_ret2
  exact ⟨rfl, by first | exact below1 _ _ | exact (below1 _ _).trans (hb9.mono (by simp))⟩
theorem known_else {b : Nat} (kind d a bb op n : Int) (nm : ByteArray) (A : Option Addr) (l c : Nat) (w : World) (na : Int) (h2 : kind ≠ 2) (h3 : kind ≠ 3) (h4 : kind ≠ 4) (HN : Hid (∀ X, Below w.heap.size w X → Calls Tryz.prog 95 #[.map (some b), .int .i64 a] X fun e w' => e = .returned (.tuple #[.int .i64 na, .bool true]) ∧ w' = X)) :
    Calls Tryz.prog 93 #[.map (some b), .agg #[.int .i64 kind, .int .i64 d, .int .i64 a, .int .i64 bb, .int .i64 op, .int .i64 n, .string nm, .slice A l c]] w fun e w' => e = .returned (.tuple #[.int .i64 (0), .bool (false)]) ∧ Below w.heap.size w w' := by
  have k2 : (kind == 2) = false := by simpa using h2
  have k3 : (kind == 3) = false := by simpa using h3
  have k4 : (kind == 4) = false := by simpa using h4
  go_enter Tryz.func93, Tryz.ntmps93
  go_wp2_with (first | (go_at_call 95; refine (HN.out _ (below1 _ _)).mono ?_; rintro e w' ⟨rfl, rfl⟩))
  go_ret2
  exact ⟨rfl, by first | exact below1 _ _ | exact (below1 _ _).trans (hb9.mono (by simp))⟩

theorem known_any {b : Nat} {E : Env} (x : LIns) (ha : In64 x.a) (hbb : In64 x.b) (A : Option Addr) (l c : Nat) (w : World) (h : MFacts w b E) :
    Calls Tryz.prog 93 #[.map (some b), .agg #[.int .i64 x.kind, .int .i64 x.d, .int .i64 x.a, .int .i64 x.b, .int .i64 x.op, .int .i64 x.n, .string x.name, .slice A l c]] w fun e w' => e = .returned (.tuple #[.int .i64 (knownN E x), .bool (isKnown E x)]) ∧ Below w.heap.size w w' := by
  have hlt := h.lt
  have HN := Lib.hid (fun (X : World) (hb : Below w.heap.size w X) => number_any (k := x.a) ha X (h.below hb hlt))
  have HM := Lib.hid (fun (X : World) (hb : Below w.heap.size w X) => number_any (k := x.b) hbb X (h.below hb hlt))
  obtain ⟨kind, d, a, bb, op, n, nm, args⟩ := x
  unfold knownN isKnown
  show Calls Tryz.prog 93 #[.map (some b), .agg #[.int .i64 kind, .int .i64 d, .int .i64 a, .int .i64 bb, .int .i64 op, .int .i64 n, .string nm, .slice A l c]] w fun e w' => e = .returned (.tuple #[.int .i64 (if isNum (E a) = true then (if kind = 2 then numOf (E a) else if kind = 3 then Ar.one op (numOf (E a)) else if kind = 4 then (if isNum (E bb) = true then Ar.two op (numOf (E a)) (numOf (E bb)) else 0) else 0) else 0), .bool (if isNum (E a) = true then (if kind = 2 then true else if kind = 3 then Ar.oneOk op else if kind = 4 then (if isNum (E bb) = true then Ar.twoOk op (numOf (E bb)) else false) else false) else false)]) ∧ Below w.heap.size w w'
  replace HN : Hid (∀ X, Below w.heap.size w X → Calls Tryz.prog 95 #[.map (some b), .int .i64 a] X fun e w' => e = .returned (.tuple #[.int .i64 (numOf (E a)), .bool (isNum (E a))]) ∧ w' = X) := HN
  replace HM : Hid (∀ X, Below w.heap.size w X → Calls Tryz.prog 95 #[.map (some b), .int .i64 bb] X fun e w' => e = .returned (.tuple #[.int .i64 (numOf (E bb)), .bool (isNum (E bb))]) ∧ w' = X) := HM
  generalize numOf (E a) = na at *
  generalize numOf (E bb) = nb at *
  generalize isNum (E a) = ia at *
  generalize isNum (E bb) = ib at *
  cases ia
  · simp only [Bool.false_eq_true, if_false]
    exact known_no kind d a bb op n nm A l c w na HN
  · rw [if_pos rfl, if_pos rfl]
    by_cases h2 : kind = 2
    · rw [if_pos h2, if_pos h2]; exact known_move kind d a bb op n nm A l c w na h2 HN
    · rw [if_neg h2, if_neg h2]
      by_cases h3 : kind = 3
      · rw [if_pos h3, if_pos h3]; exact known_one kind d a bb op n nm A l c w na h3 HN
      · rw [if_neg h3, if_neg h3]
        by_cases h4 : kind = 4
        · rw [if_pos h4, if_pos h4]
          cases ib
          · simp only [Bool.false_eq_true, if_false]
            exact known_half kind d a bb op n nm A l c w na nb h4 HN HM
          · rw [if_pos rfl, if_pos rfl]; exact known_two kind d a bb op n nm A l c w na nb h4 HN HM
        · rw [if_neg h4, if_neg h4]; exact known_else kind d a bb op n nm A l c w na h2 h3 h4 HN
end
end Go.Proofs.YtnpnhdmfdhnmfaaGreatDoor
