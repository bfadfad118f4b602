/- Plain arithmetic of layer 1: what an operator makes of two numbers or of one, in the walk's own spelling. No program in sight. What the functions of arith (layer 1) and of its reference do: one contract a function, at every argument. What the functions of arith (layer 1) and of its reference do, at any operator: one contract a function. -/
import Derived.WalkKit
import Derived.Test.YtmignlclfbaifaaGreatRows
import Derived.WalkSpells
import Derived.WalkLawsBesides
import Derived.Laws.EntriesVeiled
import Derived.Lib.Hide
namespace Go.Proofs.YtmignlclfbaifaaGreat.Ar
open Go.RowKit
def bit (p:Bool):Int:=if p then 1 else 0
def shn (b:Int):Int:=bits .and .i64 b 63
def divq (a b:Int):Int:=if b=0 then -1 else wrap64 (a.tdiv b)
def remr (a b:Int):Int:=if b=0 then a else a.tmod b
def two (op a b:Int):Int:=
 if op=1 then wrap64 (a+b) else if op=2 then wrap64 (a-b) else if op=3 then wrap64 (a*b)
 else if op=4 then (if b=0 then 0 else divq a b) else if op=5 then (if b=0 then 0 else remr a b)
 else if op=6 then bits .and .i64 a b else if op=7 then bits .or .i64 a b else if op=8 then bits .xor .i64 a b
 else if op=9 then wrap64 (a*2 ^ (shn b).toNat) else if op=10 then a / 2 ^ (shn b).toNat
 else if op=11 then bit (a<b) else if op=12 then bit (a≤b) else if op=13 then bit (b<a) else if op=14 then bit (b≤a)
 else if op=15 then bit (a == b) else if op=16 then bit (a != b) else 0
def one (op a:Int):Int:=if op=17 then wrap64 (-a) else if op=18 then bit (a == 0) else if op=19 then bits .xor .i64 (-1) a else 0
def lvl (op:Int):Int:=
 if op<1∨16<op then 0 else if op≤2 then 7 else if op≤5 then 8 else if op=6 then 3 else if op=7 then 1 else if op=8 then 2
 else if op≤10 then 6 else if op≤14 then 5 else 4
end Go.Proofs.YtmignlclfbaifaaGreat.Ar
namespace Go.Proofs.YtmignlclfbaifaaGreat.Ar
open Go.RowKit
theorem ret_int {k:IntKind} {a b:Int} (h:a=b):Ending.returned (.int k a)=.returned (.int k b):=by rw [h]
set_option maxHeartbeats 400000 in
theorem flag_any (p:Bool) (w:World) :
  Calls Tryz.prog 135 #[.bool p] w fun e w'=>e=.returned (.int .i64 (bit p))∧w=w':=by
 cases p
 all_goals
  go_enter Tryz.func135,Tryz.ntmps135
  go_wp2
  go_ret
  exact ⟨rfl,rfl⟩
theorem eq_func2 (fn:Fn) (w:World):(binOp .eql 38 (.func fn #[] #[]) .nilFunc).run Tryz.prog w=.ok (.bool false) w:=by kernel_rfl
theorem eq_nil2 (w:World):(binOp .eql 38 .nilFunc .nilFunc).run Tryz.prog w=.ok (.bool true) w:=by kernel_rfl
theorem eq_func1 (fn:Fn) (w:World):(binOp .eql 59 (.func fn #[] #[]) .nilFunc).run Tryz.prog w=.ok (.bool false) w:=by kernel_rfl
theorem eq_nil1 (w:World):(binOp .eql 59 .nilFunc .nilFunc).run Tryz.prog w=.ok (.bool true) w:=by kernel_rfl
attribute [local go_sem] eq_func1 eq_func2 eq_nil1 eq_nil2
theorem below2 (w:World) (o p:Obj):Below w.heap.size w ((w.alloc o).alloc p):=((Below.refl _ _).alloc (Nat.le_refl _) _).alloc (by simp) _
set_option maxHeartbeats 400000 in
theorem row1  (w:World) :
  Calls Tryz.prog 123 #[.int .i64 1] w fun e w'=>e=.returned (.agg #[.string ⟨#[43]⟩,.int .i64 7,.func (.func 124) #[] #[],.nilFunc])∧w.alloc (.cells #[.string ⟨#[43]⟩,.int .i64 7,.func (.func 124) #[] #[],.nilFunc] 157)=w':=by
 go_enter Tryz.func123,Tryz.ntmps123
 go_wp2
 exact bodyPost_ret (v:=.agg #[.string ⟨#[43]⟩,.int .i64 7,.func (.func 124) #[] #[],.nilFunc]) (by simp [results,Tryz.results123,go_sem]) rfl ⟨rfl,rfl⟩
set_option maxHeartbeats 400000 in
theorem row2  (w:World) :
  Calls Tryz.prog 123 #[.int .i64 2] w fun e w'=>e=.returned (.agg #[.string ⟨#[45]⟩,.int .i64 7,.func (.func 125) #[] #[],.nilFunc])∧w.alloc (.cells #[.string ⟨#[45]⟩,.int .i64 7,.func (.func 125) #[] #[],.nilFunc] 157)=w':=by
 go_enter Tryz.func123,Tryz.ntmps123
 go_wp2
 exact bodyPost_ret (v:=.agg #[.string ⟨#[45]⟩,.int .i64 7,.func (.func 125) #[] #[],.nilFunc]) (by simp [results,Tryz.results123,go_sem]) rfl ⟨rfl,rfl⟩
set_option maxHeartbeats 400000 in
theorem row3  (w:World) :
  Calls Tryz.prog 123 #[.int .i64 3] w fun e w'=>e=.returned (.agg #[.string ⟨#[42]⟩,.int .i64 8,.func (.func 126) #[] #[],.nilFunc])∧w.alloc (.cells #[.string ⟨#[42]⟩,.int .i64 8,.func (.func 126) #[] #[],.nilFunc] 157)=w':=by
 go_enter Tryz.func123,Tryz.ntmps123
 go_wp2
 exact bodyPost_ret (v:=.agg #[.string ⟨#[42]⟩,.int .i64 8,.func (.func 126) #[] #[],.nilFunc]) (by simp [results,Tryz.results123,go_sem]) rfl ⟨rfl,rfl⟩
set_option maxHeartbeats 400000 in
theorem row4  (w:World) :
  Calls Tryz.prog 123 #[.int .i64 4] w fun e w'=>e=.returned (.agg #[.string ⟨#[47]⟩,.int .i64 8,.func (.func 127) #[] #[],.nilFunc])∧w.alloc (.cells #[.string ⟨#[47]⟩,.int .i64 8,.func (.func 127) #[] #[],.nilFunc] 157)=w':=by
 go_enter Tryz.func123,Tryz.ntmps123
 go_wp2
 exact bodyPost_ret (v:=.agg #[.string ⟨#[47]⟩,.int .i64 8,.func (.func 127) #[] #[],.nilFunc]) (by simp [results,Tryz.results123,go_sem]) rfl ⟨rfl,rfl⟩
set_option maxHeartbeats 400000 in
theorem row5  (w:World) :
  Calls Tryz.prog 123 #[.int .i64 5] w fun e w'=>e=.returned (.agg #[.string ⟨#[37]⟩,.int .i64 8,.func (.func 128) #[] #[],.nilFunc])∧w.alloc (.cells #[.string ⟨#[37]⟩,.int .i64 8,.func (.func 128) #[] #[],.nilFunc] 157)=w':=by
 go_enter Tryz.func123,Tryz.ntmps123
 go_wp2
 exact bodyPost_ret (v:=.agg #[.string ⟨#[37]⟩,.int .i64 8,.func (.func 128) #[] #[],.nilFunc]) (by simp [results,Tryz.results123,go_sem]) rfl ⟨rfl,rfl⟩
set_option maxHeartbeats 400000 in
theorem row6  (w:World) :
  Calls Tryz.prog 123 #[.int .i64 6] w fun e w'=>e=.returned (.agg #[.string ⟨#[38]⟩,.int .i64 3,.func (.func 129) #[] #[],.nilFunc])∧w.alloc (.cells #[.string ⟨#[38]⟩,.int .i64 3,.func (.func 129) #[] #[],.nilFunc] 157)=w':=by
 go_enter Tryz.func123,Tryz.ntmps123
 go_wp2
 exact bodyPost_ret (v:=.agg #[.string ⟨#[38]⟩,.int .i64 3,.func (.func 129) #[] #[],.nilFunc]) (by simp [results,Tryz.results123,go_sem]) rfl ⟨rfl,rfl⟩
set_option maxHeartbeats 400000 in
theorem row7  (w:World) :
  Calls Tryz.prog 123 #[.int .i64 7] w fun e w'=>e=.returned (.agg #[.string ⟨#[124]⟩,.int .i64 1,.func (.func 130) #[] #[],.nilFunc])∧w.alloc (.cells #[.string ⟨#[124]⟩,.int .i64 1,.func (.func 130) #[] #[],.nilFunc] 157)=w':=by
 go_enter Tryz.func123,Tryz.ntmps123
 go_wp2
 exact bodyPost_ret (v:=.agg #[.string ⟨#[124]⟩,.int .i64 1,.func (.func 130) #[] #[],.nilFunc]) (by simp [results,Tryz.results123,go_sem]) rfl ⟨rfl,rfl⟩
set_option maxHeartbeats 400000 in
theorem row8  (w:World) :
  Calls Tryz.prog 123 #[.int .i64 8] w fun e w'=>e=.returned (.agg #[.string ⟨#[94]⟩,.int .i64 2,.func (.func 131) #[] #[],.nilFunc])∧w.alloc (.cells #[.string ⟨#[94]⟩,.int .i64 2,.func (.func 131) #[] #[],.nilFunc] 157)=w':=by
 go_enter Tryz.func123,Tryz.ntmps123
 go_wp2
 exact bodyPost_ret (v:=.agg #[.string ⟨#[94]⟩,.int .i64 2,.func (.func 131) #[] #[],.nilFunc]) (by simp [results,Tryz.results123,go_sem]) rfl ⟨rfl,rfl⟩
set_option maxHeartbeats 400000 in
theorem row9  (w:World) :
  Calls Tryz.prog 123 #[.int .i64 9] w fun e w'=>e=.returned (.agg #[.string ⟨#[60,60]⟩,.int .i64 6,.func (.func 132) #[] #[],.nilFunc])∧w.alloc (.cells #[.string ⟨#[60,60]⟩,.int .i64 6,.func (.func 132) #[] #[],.nilFunc] 157)=w':=by
 go_enter Tryz.func123,Tryz.ntmps123
 go_wp2
 exact bodyPost_ret (v:=.agg #[.string ⟨#[60,60]⟩,.int .i64 6,.func (.func 132) #[] #[],.nilFunc]) (by simp [results,Tryz.results123,go_sem]) rfl ⟨rfl,rfl⟩
set_option maxHeartbeats 400000 in
theorem row10  (w:World) :
  Calls Tryz.prog 123 #[.int .i64 10] w fun e w'=>e=.returned (.agg #[.string ⟨#[62,62]⟩,.int .i64 6,.func (.func 133) #[] #[],.nilFunc])∧w.alloc (.cells #[.string ⟨#[62,62]⟩,.int .i64 6,.func (.func 133) #[] #[],.nilFunc] 157)=w':=by
 go_enter Tryz.func123,Tryz.ntmps123
 go_wp2
 exact bodyPost_ret (v:=.agg #[.string ⟨#[62,62]⟩,.int .i64 6,.func (.func 133) #[] #[],.nilFunc]) (by simp [results,Tryz.results123,go_sem]) rfl ⟨rfl,rfl⟩
set_option maxHeartbeats 400000 in
theorem row11  (w:World) :
  Calls Tryz.prog 123 #[.int .i64 11] w fun e w'=>e=.returned (.agg #[.string ⟨#[60]⟩,.int .i64 5,.func (.func 134) #[] #[],.nilFunc])∧w.alloc (.cells #[.string ⟨#[60]⟩,.int .i64 5,.func (.func 134) #[] #[],.nilFunc] 157)=w':=by
 go_enter Tryz.func123,Tryz.ntmps123
 go_wp2
 exact bodyPost_ret (v:=.agg #[.string ⟨#[60]⟩,.int .i64 5,.func (.func 134) #[] #[],.nilFunc]) (by simp [results,Tryz.results123,go_sem]) rfl ⟨rfl,rfl⟩
set_option maxHeartbeats 400000 in
theorem row12  (w:World) :
  Calls Tryz.prog 123 #[.int .i64 12] w fun e w'=>e=.returned (.agg #[.string ⟨#[60,61]⟩,.int .i64 5,.func (.func 136) #[] #[],.nilFunc])∧w.alloc (.cells #[.string ⟨#[60,61]⟩,.int .i64 5,.func (.func 136) #[] #[],.nilFunc] 157)=w':=by
 go_enter Tryz.func123,Tryz.ntmps123
 go_wp2
 exact bodyPost_ret (v:=.agg #[.string ⟨#[60,61]⟩,.int .i64 5,.func (.func 136) #[] #[],.nilFunc]) (by simp [results,Tryz.results123,go_sem]) rfl ⟨rfl,rfl⟩
set_option maxHeartbeats 400000 in
theorem row13  (w:World) :
  Calls Tryz.prog 123 #[.int .i64 13] w fun e w'=>e=.returned (.agg #[.string ⟨#[62]⟩,.int .i64 5,.func (.func 137) #[] #[],.nilFunc])∧w.alloc (.cells #[.string ⟨#[62]⟩,.int .i64 5,.func (.func 137) #[] #[],.nilFunc] 157)=w':=by
 go_enter Tryz.func123,Tryz.ntmps123
 go_wp2
 exact bodyPost_ret (v:=.agg #[.string ⟨#[62]⟩,.int .i64 5,.func (.func 137) #[] #[],.nilFunc]) (by simp [results,Tryz.results123,go_sem]) rfl ⟨rfl,rfl⟩
set_option maxHeartbeats 400000 in
theorem row14  (w:World) :
  Calls Tryz.prog 123 #[.int .i64 14] w fun e w'=>e=.returned (.agg #[.string ⟨#[62,61]⟩,.int .i64 5,.func (.func 138) #[] #[],.nilFunc])∧w.alloc (.cells #[.string ⟨#[62,61]⟩,.int .i64 5,.func (.func 138) #[] #[],.nilFunc] 157)=w':=by
 go_enter Tryz.func123,Tryz.ntmps123
 go_wp2
 exact bodyPost_ret (v:=.agg #[.string ⟨#[62,61]⟩,.int .i64 5,.func (.func 138) #[] #[],.nilFunc]) (by simp [results,Tryz.results123,go_sem]) rfl ⟨rfl,rfl⟩
set_option maxHeartbeats 400000 in
theorem row15  (w:World) :
  Calls Tryz.prog 123 #[.int .i64 15] w fun e w'=>e=.returned (.agg #[.string ⟨#[61,61]⟩,.int .i64 4,.func (.func 139) #[] #[],.nilFunc])∧w.alloc (.cells #[.string ⟨#[61,61]⟩,.int .i64 4,.func (.func 139) #[] #[],.nilFunc] 157)=w':=by
 go_enter Tryz.func123,Tryz.ntmps123
 go_wp2
 exact bodyPost_ret (v:=.agg #[.string ⟨#[61,61]⟩,.int .i64 4,.func (.func 139) #[] #[],.nilFunc]) (by simp [results,Tryz.results123,go_sem]) rfl ⟨rfl,rfl⟩
set_option maxHeartbeats 400000 in
theorem row16  (w:World) :
  Calls Tryz.prog 123 #[.int .i64 16] w fun e w'=>e=.returned (.agg #[.string ⟨#[33,61]⟩,.int .i64 4,.func (.func 140) #[] #[],.nilFunc])∧w.alloc (.cells #[.string ⟨#[33,61]⟩,.int .i64 4,.func (.func 140) #[] #[],.nilFunc] 157)=w':=by
 go_enter Tryz.func123,Tryz.ntmps123
 go_wp2
 exact bodyPost_ret (v:=.agg #[.string ⟨#[33,61]⟩,.int .i64 4,.func (.func 140) #[] #[],.nilFunc]) (by simp [results,Tryz.results123,go_sem]) rfl ⟨rfl,rfl⟩
set_option maxHeartbeats 400000 in
theorem row17  (w:World) :
  Calls Tryz.prog 123 #[.int .i64 17] w fun e w'=>e=.returned (.agg #[.string ⟨#[45]⟩,.int .i64 0,.nilFunc,.func (.func 141) #[] #[]])∧w.alloc (.cells #[.string ⟨#[45]⟩,.int .i64 0,.nilFunc,.func (.func 141) #[] #[]] 157)=w':=by
 go_enter Tryz.func123,Tryz.ntmps123
 go_wp2
 exact bodyPost_ret (v:=.agg #[.string ⟨#[45]⟩,.int .i64 0,.nilFunc,.func (.func 141) #[] #[]]) (by simp [results,Tryz.results123,go_sem]) rfl ⟨rfl,rfl⟩
set_option maxHeartbeats 400000 in
theorem row18  (w:World) :
  Calls Tryz.prog 123 #[.int .i64 18] w fun e w'=>e=.returned (.agg #[.string ⟨#[33]⟩,.int .i64 0,.nilFunc,.func (.func 142) #[] #[]])∧w.alloc (.cells #[.string ⟨#[33]⟩,.int .i64 0,.nilFunc,.func (.func 142) #[] #[]] 157)=w':=by
 go_enter Tryz.func123,Tryz.ntmps123
 go_wp2
 exact bodyPost_ret (v:=.agg #[.string ⟨#[33]⟩,.int .i64 0,.nilFunc,.func (.func 142) #[] #[]]) (by simp [results,Tryz.results123,go_sem]) rfl ⟨rfl,rfl⟩
set_option maxHeartbeats 400000 in
theorem row19  (w:World) :
  Calls Tryz.prog 123 #[.int .i64 19] w fun e w'=>e=.returned (.agg #[.string ⟨#[126]⟩,.int .i64 0,.nilFunc,.func (.func 143) #[] #[]])∧w.alloc (.cells #[.string ⟨#[126]⟩,.int .i64 0,.nilFunc,.func (.func 143) #[] #[]] 157)=w':=by
 go_enter Tryz.func123,Tryz.ntmps123
 go_wp2
 exact bodyPost_ret (v:=.agg #[.string ⟨#[126]⟩,.int .i64 0,.nilFunc,.func (.func 143) #[] #[]]) (by simp [results,Tryz.results123,go_sem]) rfl ⟨rfl,rfl⟩
def NoOp (op:Int):Prop:=op<1∨19<op
set_option maxHeartbeats 400000 in
theorem row0 (op:Int) (h:NoOp op) (w:World) :
  Calls Tryz.prog 123 #[.int .i64 op] w fun e w'=>e=.returned (.agg #[.string ⟨#[]⟩,.int .i64 0,.nilFunc,.nilFunc])∧w.alloc (.cells #[.string ⟨#[]⟩,.int .i64 0,.nilFunc,.nilFunc] 157)=w':=by
 have h1:(op == 1)=false:=by unfold NoOp at h;rw [beq_eq_false_iff_ne];omega
 have h2:(op == 2)=false:=by unfold NoOp at h;rw [beq_eq_false_iff_ne];omega
 have h3:(op == 3)=false:=by unfold NoOp at h;rw [beq_eq_false_iff_ne];omega
 have h4:(op == 4)=false:=by unfold NoOp at h;rw [beq_eq_false_iff_ne];omega
 have h5:(op == 5)=false:=by unfold NoOp at h;rw [beq_eq_false_iff_ne];omega
 have h6:(op == 6)=false:=by unfold NoOp at h;rw [beq_eq_false_iff_ne];omega
 have h7:(op == 7)=false:=by unfold NoOp at h;rw [beq_eq_false_iff_ne];omega
 have h8:(op == 8)=false:=by unfold NoOp at h;rw [beq_eq_false_iff_ne];omega
 have h9:(op == 9)=false:=by unfold NoOp at h;rw [beq_eq_false_iff_ne];omega
 have h10:(op == 10)=false:=by unfold NoOp at h;rw [beq_eq_false_iff_ne];omega
 have h11:(op == 11)=false:=by unfold NoOp at h;rw [beq_eq_false_iff_ne];omega
 have h12:(op == 12)=false:=by unfold NoOp at h;rw [beq_eq_false_iff_ne];omega
 have h13:(op == 13)=false:=by unfold NoOp at h;rw [beq_eq_false_iff_ne];omega
 have h14:(op == 14)=false:=by unfold NoOp at h;rw [beq_eq_false_iff_ne];omega
 have h15:(op == 15)=false:=by unfold NoOp at h;rw [beq_eq_false_iff_ne];omega
 have h16:(op == 16)=false:=by unfold NoOp at h;rw [beq_eq_false_iff_ne];omega
 have h17:(op == 17)=false:=by unfold NoOp at h;rw [beq_eq_false_iff_ne];omega
 have h18:(op == 18)=false:=by unfold NoOp at h;rw [beq_eq_false_iff_ne];omega
 have h19:(op == 19)=false:=by unfold NoOp at h;rw [beq_eq_false_iff_ne];omega
 clear h
 go_enter Tryz.func123,Tryz.ntmps123
 go_wp2
 exact bodyPost_ret (v:=.agg #[.string ⟨#[]⟩,.int .i64 0,.nilFunc,.nilFunc]) (by simp [results,Tryz.results123,go_sem]) rfl ⟨rfl,rfl⟩
end Go.Proofs.YtmignlclfbaifaaGreat.Ar
namespace Go.Proofs.YtmignlclfbaifaaGreat.Ar
open Go.RowKit
attribute [local go_sem] eq_func1 eq_func2 eq_nil1 eq_nil2
theorem op_cases (op:Int):NoOp op∨op=1∨op=2∨op=3∨op=4∨op=5∨op=6∨op=7∨op=8∨op=9∨op=10∨op=11∨op=12∨op=13∨op=14∨op=15∨op=16∨op=17∨op=18∨op=19:=by
 unfold NoOp;omega
theorem lvl_no {op:Int} (h:NoOp op):lvl op=0:=by
 unfold NoOp at h;unfold lvl
 rw [if_pos (by omega)]
theorem fieldrow0 (a b c d:Value) (w:World):(Instr.field 157 (.agg #[a,b,c,d]) 0).run Tryz.prog w=.ok a w:=by kernel_rfl
theorem fieldrow1 (a b c d:Value) (w:World):(Instr.field 157 (.agg #[a,b,c,d]) 1).run Tryz.prog w=.ok b w:=by kernel_rfl
attribute [local go_sem] fieldrow0 fieldrow1
set_option maxHeartbeats 400000 in
theorem level1  (w:World) :
  Calls Tryz.prog 121 #[.int .i64 1] w fun e w'=>e=.returned (.int .i64 (lvl 1))∧Below w.heap.size w w':=by
 go_enter Tryz.func121,Tryz.ntmps121
 go_wp2_with (first|(go_at_call 123;refine (row1 _).mono ?_;rintro e w' ⟨rfl,rfl⟩)|go_in)
 go_ret
 exact ⟨ret_int (by simp [lvl]),(Below.refl _ _).alloc (Nat.le_refl _) _⟩
set_option maxHeartbeats 400000 in
theorem level2  (w:World) :
  Calls Tryz.prog 121 #[.int .i64 2] w fun e w'=>e=.returned (.int .i64 (lvl 2))∧Below w.heap.size w w':=by
 go_enter Tryz.func121,Tryz.ntmps121
 go_wp2_with (first|(go_at_call 123;refine (row2 _).mono ?_;rintro e w' ⟨rfl,rfl⟩)|go_in)
 go_ret
 exact ⟨ret_int (by simp [lvl]),(Below.refl _ _).alloc (Nat.le_refl _) _⟩
set_option maxHeartbeats 400000 in
theorem level3  (w:World) :
  Calls Tryz.prog 121 #[.int .i64 3] w fun e w'=>e=.returned (.int .i64 (lvl 3))∧Below w.heap.size w w':=by
 go_enter Tryz.func121,Tryz.ntmps121
 go_wp2_with (first|(go_at_call 123;refine (row3 _).mono ?_;rintro e w' ⟨rfl,rfl⟩)|go_in)
 go_ret
 exact ⟨ret_int (by simp [lvl]),(Below.refl _ _).alloc (Nat.le_refl _) _⟩
set_option maxHeartbeats 400000 in
theorem level4  (w:World) :
  Calls Tryz.prog 121 #[.int .i64 4] w fun e w'=>e=.returned (.int .i64 (lvl 4))∧Below w.heap.size w w':=by
 go_enter Tryz.func121,Tryz.ntmps121
 go_wp2_with (first|(go_at_call 123;refine (row4 _).mono ?_;rintro e w' ⟨rfl,rfl⟩)|go_in)
 go_ret
 exact ⟨ret_int (by simp [lvl]),(Below.refl _ _).alloc (Nat.le_refl _) _⟩
set_option maxHeartbeats 400000 in
theorem level5  (w:World) :
  Calls Tryz.prog 121 #[.int .i64 5] w fun e w'=>e=.returned (.int .i64 (lvl 5))∧Below w.heap.size w w':=by
 go_enter Tryz.func121,Tryz.ntmps121
 go_wp2_with (first|(go_at_call 123;refine (row5 _).mono ?_;rintro e w' ⟨rfl,rfl⟩)|go_in)
 go_ret
 exact ⟨ret_int (by simp [lvl]),(Below.refl _ _).alloc (Nat.le_refl _) _⟩
set_option maxHeartbeats 400000 in
theorem level6  (w:World) :
  Calls Tryz.prog 121 #[.int .i64 6] w fun e w'=>e=.returned (.int .i64 (lvl 6))∧Below w.heap.size w w':=by
 go_enter Tryz.func121,Tryz.ntmps121
 go_wp2_with (first|(go_at_call 123;refine (row6 _).mono ?_;rintro e w' ⟨rfl,rfl⟩)|go_in)
 go_ret
 exact ⟨ret_int (by simp [lvl]),(Below.refl _ _).alloc (Nat.le_refl _) _⟩
set_option maxHeartbeats 400000 in
theorem level7  (w:World) :
  Calls Tryz.prog 121 #[.int .i64 7] w fun e w'=>e=.returned (.int .i64 (lvl 7))∧Below w.heap.size w w':=by
 go_enter Tryz.func121,Tryz.ntmps121
 go_wp2_with (first|(go_at_call 123;refine (row7 _).mono ?_;rintro e w' ⟨rfl,rfl⟩)|go_in)
 go_ret
 exact ⟨ret_int (by simp [lvl]),(Below.refl _ _).alloc (Nat.le_refl _) _⟩
set_option maxHeartbeats 400000 in
theorem level8  (w:World) :
  Calls Tryz.prog 121 #[.int .i64 8] w fun e w'=>e=.returned (.int .i64 (lvl 8))∧Below w.heap.size w w':=by
 go_enter Tryz.func121,Tryz.ntmps121
 go_wp2_with (first|(go_at_call 123;refine (row8 _).mono ?_;rintro e w' ⟨rfl,rfl⟩)|go_in)
 go_ret
 exact ⟨ret_int (by simp [lvl]),(Below.refl _ _).alloc (Nat.le_refl _) _⟩
set_option maxHeartbeats 400000 in
theorem level9  (w:World) :
  Calls Tryz.prog 121 #[.int .i64 9] w fun e w'=>e=.returned (.int .i64 (lvl 9))∧Below w.heap.size w w':=by
 go_enter Tryz.func121,Tryz.ntmps121
 go_wp2_with (first|(go_at_call 123;refine (row9 _).mono ?_;rintro e w' ⟨rfl,rfl⟩)|go_in)
 go_ret
 exact ⟨ret_int (by simp [lvl]),(Below.refl _ _).alloc (Nat.le_refl _) _⟩
set_option maxHeartbeats 400000 in
theorem level10  (w:World) :
  Calls Tryz.prog 121 #[.int .i64 10] w fun e w'=>e=.returned (.int .i64 (lvl 10))∧Below w.heap.size w w':=by
 go_enter Tryz.func121,Tryz.ntmps121
 go_wp2_with (first|(go_at_call 123;refine (row10 _).mono ?_;rintro e w' ⟨rfl,rfl⟩)|go_in)
 go_ret
 exact ⟨ret_int (by simp [lvl]),(Below.refl _ _).alloc (Nat.le_refl _) _⟩
set_option maxHeartbeats 400000 in
theorem level11  (w:World) :
  Calls Tryz.prog 121 #[.int .i64 11] w fun e w'=>e=.returned (.int .i64 (lvl 11))∧Below w.heap.size w w':=by
 go_enter Tryz.func121,Tryz.ntmps121
 go_wp2_with (first|(go_at_call 123;refine (row11 _).mono ?_;rintro e w' ⟨rfl,rfl⟩)|go_in)
 go_ret
 exact ⟨ret_int (by simp [lvl]),(Below.refl _ _).alloc (Nat.le_refl _) _⟩
set_option maxHeartbeats 400000 in
theorem level12  (w:World) :
  Calls Tryz.prog 121 #[.int .i64 12] w fun e w'=>e=.returned (.int .i64 (lvl 12))∧Below w.heap.size w w':=by
 go_enter Tryz.func121,Tryz.ntmps121
 go_wp2_with (first|(go_at_call 123;refine (row12 _).mono ?_;rintro e w' ⟨rfl,rfl⟩)|go_in)
 go_ret
 exact ⟨ret_int (by simp [lvl]),(Below.refl _ _).alloc (Nat.le_refl _) _⟩
set_option maxHeartbeats 400000 in
theorem level13  (w:World) :
  Calls Tryz.prog 121 #[.int .i64 13] w fun e w'=>e=.returned (.int .i64 (lvl 13))∧Below w.heap.size w w':=by
 go_enter Tryz.func121,Tryz.ntmps121
 go_wp2_with (first|(go_at_call 123;refine (row13 _).mono ?_;rintro e w' ⟨rfl,rfl⟩)|go_in)
 go_ret
 exact ⟨ret_int (by simp [lvl]),(Below.refl _ _).alloc (Nat.le_refl _) _⟩
set_option maxHeartbeats 400000 in
theorem level14  (w:World) :
  Calls Tryz.prog 121 #[.int .i64 14] w fun e w'=>e=.returned (.int .i64 (lvl 14))∧Below w.heap.size w w':=by
 go_enter Tryz.func121,Tryz.ntmps121
 go_wp2_with (first|(go_at_call 123;refine (row14 _).mono ?_;rintro e w' ⟨rfl,rfl⟩)|go_in)
 go_ret
 exact ⟨ret_int (by simp [lvl]),(Below.refl _ _).alloc (Nat.le_refl _) _⟩
set_option maxHeartbeats 400000 in
theorem level15  (w:World) :
  Calls Tryz.prog 121 #[.int .i64 15] w fun e w'=>e=.returned (.int .i64 (lvl 15))∧Below w.heap.size w w':=by
 go_enter Tryz.func121,Tryz.ntmps121
 go_wp2_with (first|(go_at_call 123;refine (row15 _).mono ?_;rintro e w' ⟨rfl,rfl⟩)|go_in)
 go_ret
 exact ⟨ret_int (by simp [lvl]),(Below.refl _ _).alloc (Nat.le_refl _) _⟩
set_option maxHeartbeats 400000 in
theorem level16  (w:World) :
  Calls Tryz.prog 121 #[.int .i64 16] w fun e w'=>e=.returned (.int .i64 (lvl 16))∧Below w.heap.size w w':=by
 go_enter Tryz.func121,Tryz.ntmps121
 go_wp2_with (first|(go_at_call 123;refine (row16 _).mono ?_;rintro e w' ⟨rfl,rfl⟩)|go_in)
 go_ret
 exact ⟨ret_int (by simp [lvl]),(Below.refl _ _).alloc (Nat.le_refl _) _⟩
set_option maxHeartbeats 400000 in
theorem level17  (w:World) :
  Calls Tryz.prog 121 #[.int .i64 17] w fun e w'=>e=.returned (.int .i64 (lvl 17))∧Below w.heap.size w w':=by
 go_enter Tryz.func121,Tryz.ntmps121
 go_wp2_with (first|(go_at_call 123;refine (row17 _).mono ?_;rintro e w' ⟨rfl,rfl⟩)|go_in)
 go_ret
 exact ⟨ret_int (by simp [lvl]),(Below.refl _ _).alloc (Nat.le_refl _) _⟩
set_option maxHeartbeats 400000 in
theorem level18  (w:World) :
  Calls Tryz.prog 121 #[.int .i64 18] w fun e w'=>e=.returned (.int .i64 (lvl 18))∧Below w.heap.size w w':=by
 go_enter Tryz.func121,Tryz.ntmps121
 go_wp2_with (first|(go_at_call 123;refine (row18 _).mono ?_;rintro e w' ⟨rfl,rfl⟩)|go_in)
 go_ret
 exact ⟨ret_int (by simp [lvl]),(Below.refl _ _).alloc (Nat.le_refl _) _⟩
set_option maxHeartbeats 400000 in
theorem level19  (w:World) :
  Calls Tryz.prog 121 #[.int .i64 19] w fun e w'=>e=.returned (.int .i64 (lvl 19))∧Below w.heap.size w w':=by
 go_enter Tryz.func121,Tryz.ntmps121
 go_wp2_with (first|(go_at_call 123;refine (row19 _).mono ?_;rintro e w' ⟨rfl,rfl⟩)|go_in)
 go_ret
 exact ⟨ret_int (by simp [lvl]),(Below.refl _ _).alloc (Nat.le_refl _) _⟩
set_option maxHeartbeats 400000 in
theorem level0 (op:Int) (h:NoOp op) (w:World) :
  Calls Tryz.prog 121 #[.int .i64 op] w fun e w'=>e=.returned (.int .i64 (lvl op))∧Below w.heap.size w w':=by
 have H:=Lib.hid h
 clear h
 go_enter Tryz.func121,Tryz.ntmps121
 go_wp2_with (first|(go_at_call 123;refine (row0 _ H.out _).mono ?_;rintro e w' ⟨rfl,rfl⟩)|go_in)
 go_ret
 exact ⟨ret_int (lvl_no H.out).symm,(Below.refl _ _).alloc (Nat.le_refl _) _⟩
theorem level_any (op:Int) (w:World) :
  Calls Tryz.prog 121 #[.int .i64 op] w fun e w'=>e=.returned (.int .i64 (lvl op))∧Below w.heap.size w w':=by
 rcases op_cases op with h|h|h|h|h|h|h|h|h|h|h|h|h|h|h|h|h|h|h|h
 ·exact level0 op h w
 ·subst h;exact level1  w
 ·subst h;exact level2  w
 ·subst h;exact level3  w
 ·subst h;exact level4  w
 ·subst h;exact level5  w
 ·subst h;exact level6  w
 ·subst h;exact level7  w
 ·subst h;exact level8  w
 ·subst h;exact level9  w
 ·subst h;exact level10  w
 ·subst h;exact level11  w
 ·subst h;exact level12  w
 ·subst h;exact level13  w
 ·subst h;exact level14  w
 ·subst h;exact level15  w
 ·subst h;exact level16  w
 ·subst h;exact level17  w
 ·subst h;exact level18  w
 ·subst h;exact level19  w
end Go.Proofs.YtmignlclfbaifaaGreat.Ar
