/- The document's names: counterproofref02's letter, digit, Word, Name: nameB. Printed by wip/gen_rfname.py. The document's expressions: counterproofref03's deep, bare, right, RightExpr: deepE, wellE. Printed by wip/gen_rftree.py. The document's names, far (counterproofref03). Printed by wip/gen_rfstmt.py. The document's RightExpr (counterproofref03): deepE 40 and wellE. Printed by wip/gen_rftree.py. -/
import Derived.Test.YtmignlclfbaifaaGreatPtTrName
import Derived.Test.YtmignlclfbaifaaGreatPtTrRow
import Derived.Test.YtmignlclfbaifaaGreatPtRegion
namespace Go.Proofs.YtmignlclfbaifaaGreat
open Go.RowKit
theorem rletter_r (r:Int) (w:World):Calls Tryz.prog 78 #[.int .u8 r] w fun e w'=>e=.returned (.bool (letterR r))∧w=w':=by
 rcases (by omega:r<65∨(65≤r∧r≤90)∨(91≤r∧r≤94)∨r=95∨r=96∨(97≤r∧r≤122)∨122<r) with h|h|h|h|h|h|h
 all_goals
  have b0:(r == 95)=_:=(beq_dec r 95).trans (by first|exact dT (by omega)|exact dF (by omega))
  have b1:decide (97≤r)=_:=(by first|exact dT (by omega)|exact dF (by omega))
  have b2:decide (r≤122)=_:=(by first|exact dT (by omega)|exact dF (by omega))
  have b3:decide (65≤r)=_:=(by first|exact dT (by omega)|exact dF (by omega))
  have b4:decide (r≤90)=_:=(by first|exact dT (by omega)|exact dF (by omega))
  have hr:letterR r=((r == 95) || (decide (97≤r) && decide (r≤122)) || (decide (65≤r) && decide (r≤90))):=by rw [beq_dec];rfl
  rw [b0,b1,b2,b3,b4] at hr
  have HR:=Ω hr
  clear hr h
  go_enter Tryz.func78,Tryz.ntmps78
  go_wp2
  go_ret
  exact ⟨by rw [HR.out];rfl,rfl⟩
theorem rdigit_r (r:Int) (w:World):Calls Tryz.prog 79 #[.int .u8 r] w fun e w'=>e=.returned (.bool (digitR r))∧w=w':=by
 rcases (by omega:r<48∨(48≤r∧r≤57)∨57<r) with h|h|h
 all_goals
  have b1:decide (48≤r)=_:=(by first|exact dT (by omega)|exact dF (by omega))
  have b2:decide (r≤57)=_:=(by first|exact dT (by omega)|exact dF (by omega))
  have hr:digitR r=(decide (48≤r) && decide (r≤57)):=rfl
  rw [b1,b2] at hr
  have HR:=Ω hr
  clear hr h
  go_enter Tryz.func79,Tryz.ntmps79
  go_wp2
  go_ret
  exact ⟨by rw [HR.out];rfl,rfl⟩
theorem rletter_any (c:UInt8) (w:World):Calls Tryz.prog 78 #[.int .u8 (c.toNat:Int)] w fun e w'=>e=.returned (.bool (letterB c))∧w=w':=by
 rw [←letterR_of c];exact rletter_r _ w
theorem rdigit_any (c:UInt8) (w:World):Calls Tryz.prog 79 #[.int .u8 (c.toNat:Int)] w fun e w'=>e=.returned (.bool (digitB c))∧w=w':=by
 rw [←digitR_of c];exact rdigit_r _ w
def blanksL:List UInt8:=[32,105,110,116,32,105,102,32,101,108,115,101,32,119,104,105,108,101,32,98,114,101,97,107,32,99,111,110,116,105,110,117,101,32,114,101,116,117,114,110,32,112,114,105,110,116,32,114,101,97,100,32,116,114,97,112,32]
def midL (i n:Nat):List UInt8:=(blanksL.drop i).take (n+2)
theorem betweenB:((List.range 57).all fun i=>(List.range 57).all fun n=>!(decide (0<n) && decide (i+n+2≤57) && (midL i n).head? == some 32 && ((midL i n).drop (n+1)).head? == some 32 && (((midL i n).drop 1).take n).all letterB) || hasS wordsB (strOf (((midL i n).drop 1).take n)))=true:=by decide +kernel
theorem between {i n:Nat} (h0:0<n) (hi:i+n+2≤57) (h1:(midL i n).head?=some 32) (h2:((midL i n).drop (n+1)).head?=some 32) (h3:(((midL i n).drop 1).take n).all letterB=true):hasS wordsB (strOf (((midL i n).drop 1).take n))=true:=by
 have h:=betweenB
 rw [List.all_eq_true] at h
 have ha:=h i (List.mem_range.2 (by omega))
 rw [List.all_eq_true] at ha
 have hb:=ha n (List.mem_range.2 (by omega))
 rw [h1,h2,h3,dT h0,dT hi] at hb
 simpa using hb
def sp:ByteArray:=⟨#[32]⟩
def hitB (s:ByteArray) (i:Nat):Bool:=((⟨blanksL.toArray⟩:ByteArray).extract i (i+s.size+2)).toList == ((sp++s)++sp).toList
theorem hit_word {s:ByteArray} {i:Nat} (h0:0<s.size) (hl:∀c∈s.data.toList,letterB c=true) (hi:i+s.size+2≤57) (h:hitB s i=true):hasS wordsB s=true:=by
 unfold hitB at h
 rw [beq_iff_eq,ByteArray.toList_eq,ByteArray.toList_eq] at h
 have e1:((⟨blanksL.toArray⟩:ByteArray).extract i (i+s.size+2)).data.toList=midL i s.size:=by
  rw [ByteArray.data_extract]
  unfold midL
  simp
  congr 1;omega
 have e2:((sp++s)++sp).data.toList=32 :: (s.data.toList++[32]):=by simp [sp]
 rw [e1,e2] at h
 have hn:s.data.toList.length=s.size:=by simp
 have hb:=between h0 hi (by rw [h];rfl) (by rw [h,List.drop_succ_cons,List.drop_append_of_le_length (by omega),←hn,List.drop_length];rfl)
 rw [h,List.drop_succ_cons,List.drop_zero,List.take_append_of_le_length (by omega),←hn,List.take_length] at hb
 exact hb (List.all_eq_true.2 hl)
theorem word_hit {s:ByteArray} (h:hasS wordsB s=true):0<s.size∧∃i,i+s.size+2≤57∧hitB s i=true:=by
 have hm:=hasS_iff.1 h
 simp only [wordsB,List.mem_cons,List.not_mem_nil,or_false] at hm
 rcases hm with rfl|rfl|rfl|rfl|rfl|rfl|rfl|rfl|rfl|rfl
 ·exact ⟨by decide +kernel,0,by decide +kernel,by decide +kernel⟩
 ·exact ⟨by decide +kernel,4,by decide +kernel,by decide +kernel⟩
 ·exact ⟨by decide +kernel,7,by decide +kernel,by decide +kernel⟩
 ·exact ⟨by decide +kernel,12,by decide +kernel,by decide +kernel⟩
 ·exact ⟨by decide +kernel,18,by decide +kernel,by decide +kernel⟩
 ·exact ⟨by decide +kernel,24,by decide +kernel,by decide +kernel⟩
 ·exact ⟨by decide +kernel,33,by decide +kernel,by decide +kernel⟩
 ·exact ⟨by decide +kernel,40,by decide +kernel,by decide +kernel⟩
 ·exact ⟨by decide +kernel,46,by decide +kernel,by decide +kernel⟩
 ·exact ⟨by decide +kernel,51,by decide +kernel,by decide +kernel⟩
theorem word_letters {s:ByteArray} (h:hasS wordsB s=true) (k:Nat) (hk:k<s.size):letterB (s[k]'hk)=true:=by
 have hm:=hasS_iff.1 h
 have key:∀x∈wordsB,x.data.toList.all letterB=true:=by decide +kernel
 have h2:=key s hm
 rw [List.all_eq_true] at h2
 exact h2 _ (by show s.data[k]∈s.data.toList;simp)
set_option maxRecDepth 100000 in
set_option maxHeartbeats 4000000 in
theorem rword_any (s:ByteArray) (hs:s.size≤20) (w:World):Calls Tryz.prog 80 #[.string s] w fun e w'=>e=.returned (.bool (hasS wordsB s))∧w=w':=by
 go_enter Tryz.func80,Tryz.ntmps80
 go_wp2
 go_loopw [3] (fun i wr=>∃k:Nat,k≤s.size∧i=.int .i64 k∧wr=w∧∀(q:Nat) (h:q<s.size),q<k→letterB (s[q]'h)=true) (fun i _=>s.size-(RowKit.intOf i).toNat)
 case atStart=>exact ⟨0,by omega,rfl,by trivial,fun q h hq=>absurd hq (Nat.not_lt_zero q)⟩
 case round=>
  obtain ⟨k,hk,rfl,hw,hall⟩:=hrel
  subst hw
  have HA:=Ω hall
  clear hall
  by_cases hlt:k<s.size
  ·have d1:decide ((k:Int)<(s.size:Int))=true:=dT (by omega)
   have hk1:(k:Int)<(s.size:Int):=by omega
   have hk0:(0:Int)≤(k:Int):=by omega
   cases hb:letterB (s[k]'hlt) with
   |true=>
    have HB:=Ω (show ∀h:k<s.size,letterB (s[k]'h)=true from fun _=>hb)
    clear hb
    go_wp2_with (go_at_call 78;refine (rletter_any _ _).mono ?_;rintro e w1 ⟨rfl,hw1⟩;subst hw1;first|rw [HB.out]|(simp only [Int.toNat_natCast];rw [HB.out]))
    go_roundw
    case rel=>
     refine ⟨k+1,by omega,by go_num,by trivial,fun q h hq=>?_⟩
     rcases Nat.lt_succ_iff_lt_or_eq.1 hq with h1|rfl
     ·exact HA.out q h h1
     ·exact HB.out h
    case measure=>simp [RowKit.intOf];omega
   |false=>
    have HB:=Ω (show ∀h:k<s.size,letterB (s[k]'h)=false from fun _=>hb)
    have HW:Hid (hasS wordsB s=false):=Ω (by
     cases h:hasS wordsB s with
     |false=>rfl
     |true=>
      have h2:=word_letters h k hlt
      rw [hb] at h2
      cases h2)
    clear hb
    go_wp2_with (go_at_call 78;refine (rletter_any _ _).mono ?_;rintro e w1 ⟨rfl,hw1⟩;subst hw1;first|rw [HB.out]|(simp only [Int.toNat_natCast];rw [HB.out]))
    go_ret
    exact ⟨by rw [HW.out];rfl,rfl⟩
  ·have d1:decide ((k:Int)<(s.size:Int))=false:=dF (by omega)
   have HLL:Hid (∀c∈s.data.toList,letterB c=true):=Ω (fun c hc=>by
    obtain ⟨q,hq,rfl⟩:=List.getElem_of_mem hc
    have hq2:q<s.size:=by simpa using hq
    exact HA.out q hq2 (by omega))
   go_wp2
   clear hlt d1 hk
   obtain ⟨wo,hwo⟩:∃wo,wo=wr:=⟨_,rfl⟩
   subst hwo
   go_loopw [4] (fun i wr=>∃j:Nat,i=.int .i64 j∧wr=wo∧j≤57∧∀q<j,q+s.size+2≤57→hitB s q=false) (fun i _=>58-(RowKit.intOf i).toNat)
   case atStart=>
    refine ⟨0,?_⟩
    exact ⟨rfl,by trivial,by omega,fun q hq=>absurd hq (Nat.not_lt_zero q)⟩
   case round=>
    obtain ⟨j,rfl,hw,hj,hno⟩:=hrel
    subst hw
    have HNO:=Ω hno
    clear hno
    rcases Nat.eq_zero_or_pos s.size with h0|h0
    ·have e0:s=⟨#[]⟩:=ByteArray.ext (Array.eq_empty_of_size_eq_zero h0)
     subst e0
     go_wp2
     go_ret
     exact ⟨rfl,rfl⟩
    ·have hne:(s.toList == [])=false:=by
      rw [beq_eq_false_iff_ne,ByteArray.toList_eq]
      intro e
      have h1:s.size=0:=by have h1:=congrArg List.length e;simpa using h1
      omega
     by_cases hlt:j+s.size+2≤57
     ·have d1:decide ((j:Int)+(s.size:Int)+2≤57)=true:=dT (by omega)
      have hc1:¬9223372036854775807<(⟨#[32]⟩:ByteArray).size+s.size:=by show ¬9223372036854775807<1+s.size;omega
      have hc2:¬9223372036854775807<((⟨#[32]⟩:ByteArray)++s).size+(⟨#[32]⟩:ByteArray).size:=by rw [ByteArray.size_append];show ¬9223372036854775807<1+s.size+1;omega
      cases hh:hitB s j with
      |true=>
       have hq:(((⟨#[32,105,110,116,32,105,102,32,101,108,115,101,32,119,104,105,108,101,32,98,114,101,97,107,32,99,111,110,116,105,110,117,101,32,114,101,116,117,114,110,32,112,114,105,110,116,32,114,101,97,100,32,116,114,97,112,32]⟩:ByteArray).extract j (j+s.size+2)).toList == ((⟨#[32]⟩:ByteArray)++s++(⟨#[32]⟩:ByteArray)).toList)=true:=hh
       have HW:=Ω (hit_word h0 HLL.out hlt hh)
       clear hh
       go_wp2
       go_ret
       exact ⟨by rw [HW.out];rfl,rfl⟩
      |false=>
       have hq:(((⟨#[32,105,110,116,32,105,102,32,101,108,115,101,32,119,104,105,108,101,32,98,114,101,97,107,32,99,111,110,116,105,110,117,101,32,114,101,116,117,114,110,32,112,114,105,110,116,32,114,101,97,100,32,116,114,97,112,32]⟩:ByteArray).extract j (j+s.size+2)).toList == ((⟨#[32]⟩:ByteArray)++s++(⟨#[32]⟩:ByteArray)).toList)=false:=hh
       have HH:=Ω hh
       clear hh
       go_wp2
       go_roundw
       case rel=>
        refine ⟨j+1,by go_num,by trivial,by omega,fun q hq1 hq2=>?_⟩
        rcases Nat.lt_succ_iff_lt_or_eq.1 hq1 with h|rfl
        ·exact HNO.out q h hq2
        ·exact HH.out
       case measure=>simp [RowKit.intOf];omega
     ·have d1:decide ((j:Int)+(s.size:Int)+2≤57)=false:=dF (by omega)
      have HW:Hid (hasS wordsB s=false):=Ω (by
       cases h:hasS wordsB s with
       |false=>rfl
       |true=>
        obtain ⟨_,i,hi,hh⟩:=word_hit h
        rw [HNO.out i (by omega) hi] at hh
        cases hh)
      go_wp2
      go_ret
      exact ⟨by rw [HW.out];rfl,rfl⟩
theorem chars_at {s:ByteArray} (h0:0<s.size):charsB s.data.toList=true↔letterB (s[0]'h0)=true∧∀(k:Nat) (h:k<s.size),(letterB (s[k]'h) || digitB (s[k]'h))=true:=by
 have e:∀(k:Nat) (h:k<s.size) (h':k<s.data.toList.length),s.data.toList[k]'(h')=s[k]'h:=fun k h h'=>by simp;rfl
 rw [chars_iff]
 constructor
 ·rintro ⟨_,h2⟩
  have h3:=h2 0 (by simpa using h0)
  rw [e 0 h0] at h3
  refine ⟨h3.resolve_right (fun h=>absurd h.1 (by decide)),fun k h=>?_⟩
  have h4:=h2 k (by simpa using h)
  rw [e k h] at h4
  rw [Bool.or_eq_true]
  exact h4.imp id (fun h=>h.2)
 ·rintro ⟨h1,h2⟩
  refine ⟨fun e0=>by have h5:s.size=0:=(by simpa using congrArg List.length e0);omega,fun k h=>?_⟩
  have hk:k<s.size:=by simpa using h
  rw [e k hk]
  rcases Nat.eq_zero_or_pos k with rfl|h0
  ·exact .inl h1
  ·have h3:=h2 k hk
   rw [Bool.or_eq_true] at h3
   exact h3.imp id (fun h=>⟨h0,h⟩)
theorem nameB_of {s:ByteArray} (h0:0<s.size) (h20:s.size≤20) (h1:letterB (s[0]'h0)=true) (h2:∀(k:Nat) (h:k<s.size),(letterB (s[k]'h) || digitB (s[k]'h))=true):nameB s=!hasS wordsB s:=by
 unfold nameB
 rw [dT h20,(chars_at h0).2 ⟨h1,h2⟩,Bool.true_and,Bool.and_true]
theorem nameB_not {s:ByteArray} (h0:0<s.size) (h:¬(letterB (s[0]'h0)=true∧∀(k:Nat) (h:k<s.size),(letterB (s[k]'h) || digitB (s[k]'h))=true)):nameB s=false:=by
 unfold nameB
 have e:charsB s.data.toList=false:=by
  cases hc:charsB s.data.toList with
  |false=>rfl
  |true=>exact absurd ((chars_at h0).1 hc) h
 rw [e,Bool.and_false]
set_option maxRecDepth 100000 in
set_option maxHeartbeats 4000000 in
theorem rname_any (s:ByteArray) (w:World):Calls Tryz.prog 55 #[.string s] w fun e w'=>e=.returned (.bool (nameB s))∧w=w':=by
 rcases Nat.eq_zero_or_pos s.size with h0|h0
 ·have e0:s=⟨#[]⟩:=ByteArray.ext (Array.eq_empty_of_size_eq_zero h0)
  subst e0
  go_enter Tryz.func55,Tryz.ntmps55
  go_wp2
  go_ret
  exact ⟨rfl,rfl⟩
 by_cases h20:20<s.size
 ·have HN:Hid (nameB s=false):=Ω (by unfold nameB;rw [dF (by omega)];rfl)
  have d1:decide ((s.size:Int)<1)=false:=dF (by omega)
  have d2:decide ((s.size:Int) > 20)=true:=dT (by omega)
  have d3:decide (20<(s.size:Int))=true:=dT (by omega)
  go_enter Tryz.func55,Tryz.ntmps55
  go_wp2
  go_ret
  exact ⟨by rw [HN.out];rfl,rfl⟩
 have hs20:s.size≤20:=by omega
 have d1:decide ((s.size:Int)<1)=false:=dF (by omega)
 have d2:decide ((s.size:Int) > 20)=false:=dF (by omega)
 have d3:decide (20<(s.size:Int))=false:=dF (by omega)
 have hi0:(0:Int)<(s.size:Int):=by omega
 cases hc:letterB (s[0]'h0) with
 |false=>
  have HN:Hid (nameB s=false):=Ω (nameB_not h0 (fun h=>by rw [hc] at h;exact absurd h.1 (by decide)))
  have HB:=Ω (show ∀h:0<s.size,letterB (s[0]'h)=false from fun _=>hc)
  clear hc
  go_enter Tryz.func55,Tryz.ntmps55
  go_wp2_with (go_at_call 78;refine (rletter_any _ _).mono ?_;rintro e w1 ⟨rfl,hw1⟩;subst hw1;first|rw [HB.out]|(simp only [Int.toNat_zero];rw [HB.out]))
  go_ret
  exact ⟨by rw [HN.out];rfl,rfl⟩
 |true=>
  have HB:=Ω (show ∀h:0<s.size,letterB (s[0]'h)=true from fun _=>hc)
  clear hc
  go_enter Tryz.func55,Tryz.ntmps55
  go_wp2_with (go_at_call 78;refine (rletter_any _ _).mono ?_;rintro e w1 ⟨rfl,hw1⟩;subst hw1;first|rw [HB.out]|(simp only [Int.toNat_zero];rw [HB.out]))
  go_loopw [3] (fun i wr=>∃k:Nat,k≤s.size∧i=.int .i64 k∧wr=w∧∀(q:Nat) (h:q<s.size),q<k→(letterB (s[q]'h) || digitB (s[q]'h))=true) (fun i _=>s.size-(RowKit.intOf i).toNat)
  case atStart=>exact ⟨0,by omega,rfl,by trivial,fun q h hq=>absurd hq (Nat.not_lt_zero q)⟩
  case round=>
   obtain ⟨k,hk,rfl,hw,hall⟩:=hrel
   subst hw
   have HA:=Ω hall
   clear hall
   by_cases hlt:k<s.size
   ·have e1:decide ((k:Int)<(s.size:Int))=true:=dT (by omega)
    have hk1:(k:Int)<(s.size:Int):=by omega
    have hk0:(0:Int)≤(k:Int):=by omega
    obtain ⟨bl,hbl⟩:∃b,b=letterB (s[k]'hlt):=⟨_,rfl⟩
    obtain ⟨bd,hbd⟩:∃b,b=digitB (s[k]'hlt):=⟨_,rfl⟩
    have HL:=Ω (show ∀h:k<s.size,letterB (s[k]'h)=bl from fun _=>hbl.symm)
    have HD:=Ω (show ∀h:k<s.size,digitB (s[k]'h)=bd from fun _=>hbd.symm)
    clear hbl hbd
    cases hbb:(bl || bd) with
    |true=>
     have HBB:=Ω hbb
     clear hbb
     cases bl with
     |true=>
      go_wp2_with (go_at_call 78;refine (rletter_any _ _).mono ?_;rintro e w1 ⟨rfl,hw1⟩;subst hw1;first|rw [HL.out]|(simp only [Int.toNat_natCast];rw [HL.out]))
      go_roundw
      case rel=>exact ⟨k+1,by omega,by go_num,by trivial,fun q h hq=>by rcases Nat.lt_succ_iff_lt_or_eq.1 hq with h1|rfl;exact HA.out q h h1;rw [HL.out h,HD.out h];exact HBB.out⟩
      case measure=>simp [RowKit.intOf];omega
     |false=>
      cases bd with
      |false=>exact absurd HBB.out (by decide)
      |true=>
       go_wp2_with (first|(go_at_call 78;refine (rletter_any _ _).mono ?_;rintro e w1 ⟨rfl,hw1⟩;subst hw1;first|rw [HL.out]|(simp only [Int.toNat_natCast];rw [HL.out]))|(go_at_call 79;refine (rdigit_any _ _).mono ?_;rintro e w1 ⟨rfl,hw1⟩;subst hw1;first|rw [HD.out]|(simp only [Int.toNat_natCast];rw [HD.out])))
       go_roundw
       case rel=>exact ⟨k+1,by omega,by go_num,by trivial,fun q h hq=>by rcases Nat.lt_succ_iff_lt_or_eq.1 hq with h1|rfl;exact HA.out q h h1;rw [HL.out h,HD.out h];exact HBB.out⟩
       case measure=>simp [RowKit.intOf];omega
    |false=>
     have hn:nameB s=false:=nameB_not h0 (fun h=>by have h1:=h.2 k hlt;rw [HL.out hlt,HD.out hlt,hbb] at h1;cases h1)
     have HN:=Ω hn
     cases bl with
     |true=>cases hbb
     |false=>
      cases bd with
      |true=>cases hbb
      |false=>
       clear hbb hn
       go_wp2_with (first|(go_at_call 78;refine (rletter_any _ _).mono ?_;rintro e w1 ⟨rfl,hw1⟩;subst hw1;first|rw [HL.out]|(simp only [Int.toNat_natCast];rw [HL.out]))|(go_at_call 79;refine (rdigit_any _ _).mono ?_;rintro e w1 ⟨rfl,hw1⟩;subst hw1;first|rw [HD.out]|(simp only [Int.toNat_natCast];rw [HD.out])))
       go_ret
       exact ⟨by rw [HN.out];rfl,rfl⟩
   ·have e1:decide ((k:Int)<(s.size:Int))=false:=dF (by omega)
    have HN:Hid (nameB s=!hasS wordsB s):=Ω (nameB_of h0 hs20 (HB.out h0) (fun q h=>HA.out q h (by omega)))
    have HWD:=Ω (rword_any s hs20 wr)
    go_wp2_with (go_at_call 80;refine HWD.out.mono ?_;rintro e w1 ⟨rfl,hw1⟩;subst hw1)
    go_ret
    exact ⟨by rw [HN.out];rfl,rfl⟩
end Go.Proofs.YtmignlclfbaifaaGreat
namespace Go.Proofs.YtmignlclfbaifaaGreat
open Go.RowKit
def mx {α:Type} (f:α→Nat) (l:List α):Nat:=(l.map f).foldl max 0
theorem mx_snoc {α:Type} (f:α→Nat) (l:List α) (x:α):mx f (l++[x])=max (mx f l) (f x):=by unfold mx;simp
theorem mx_le {α:Type} (f:α→Nat) (l:List α) (k:Nat):mx f l≤k↔∀x∈l,f x≤k:=by
 have key:∀(l:List α) (a:Nat),(l.map f).foldl max a≤k↔a≤k∧∀x∈l,f x≤k:=by
  intro l
  induction l with
  |nil=>intro a;simp
  |cons x r ih=>
   intro a
   rw [List.map_cons,List.foldl_cons,ih,Nat.max_le]
   simp only [List.mem_cons,forall_eq_or_imp,and_assoc]
 unfold mx
 rw [key]
 exact ⟨fun h=>h.2,fun h=>⟨Nat.zero_le _,h⟩⟩
def deepN:Nat→LExpr→Nat
 |0,_=>1
 |m+1,e=>mx (deepN m) e.args+1
theorem deepN_le:∀(k m:Nat),k≤m→∀e:LExpr,(deepN m e≤k↔deepE k e=true)
 |0,0,_,e=>by show 1≤0↔false=true;simp
 |0,m+1,_,e=>by show mx (deepN m) e.args+1≤0↔false=true;simp
 |k+1,0,h,_=>absurd h (by omega)
 |k+1,m+1,h,e=>by
  show mx (deepN m) e.args+1≤k+1↔e.args.all (deepE k)=true
  rw [Nat.add_le_add_iff_right,mx_le,List.all_eq_true]
  exact ⟨fun h2 x hx=>(deepN_le k m (by omega) x).1 (h2 x hx),fun h2 x hx=>(deepN_le k m (by omega) x).2 (h2 x hx)⟩
theorem deepN_lt:∀(m:Nat) (e:LExpr),deepN m e≤m+1
 |0,_=>Nat.le_refl _
 |m+1,e=>by
  show mx (deepN m) e.args+1≤m+1+1
  have:=(mx_le (deepN m) e.args (m+1)).2 (fun x _=>deepN_lt m x)
  omega
section
set_option maxRecDepth 100000
set_option maxHeartbeats 4000000
theorem expr_at {d:Nat} {w:World} {A:Option Addr} {n c:Nat} {l:List LExpr} (h:SlR w (· < w.heap.size) 5 (RExpr d w (· < w.heap.size)) (.slice A n c) l) (hn:n=l.length) {k:Nat} (hk:k<l.length) :
  ∃(b off:Nat) (Ax:Option Addr) (nx cx d':Nat),A=some ⟨b,off,none⟩∧d=d'+1∧nx=l[k].args.length∧b<w.heap.size∧SlR w (· < w.heap.size) 5 (RExpr d' w (· < w.heap.size)) (.slice Ax nx cx) l[k].args∧
   ∀X:World,X.heap[b]?=w.heap[b]?→X.cell? ⟨b,off+k*5,none⟩=some (.int .i64 l[k].kind)∧X.cell? ⟨b,off+k*5+1,none⟩=some (.int .i64 l[k].op)∧X.cell? ⟨b,off+k*5+2,none⟩=some (.int .i64 l[k].n)∧X.cell? ⟨b,off+k*5+3,none⟩=some (.string l[k].name)∧X.cell? ⟨b,off+k*5+4,none⟩=some (.slice Ax nx cx):=by
 obtain ⟨b,off,c',hform,_,_,hb,hel⟩:=h.form (by omega)
 obtain ⟨cs,_,hcs,hcell⟩:=hel k hk
 cases d with
 |zero=>exact hcs.elim
 |succ d'=>
  obtain ⟨va,rfl,hr⟩:=hcs
  obtain ⟨Ax,cx,rfl,_,_⟩:=hr.val
  refine ⟨b,off,Ax,_,cx,d',by injection hform,rfl,rfl,hb,hr,fun X hX=>?_⟩
  have hq:=hcell.keep hX
  exact ⟨by simpa using hq.at_ (j:=0) rfl,hq.at_ (j:=1) rfl,hq.at_ (j:=2) rfl,hq.at_ (j:=3) rfl,hq.at_ (j:=4) rfl⟩
theorem deep_ref:∀(m:Nat),m≤41→∀(d:Nat) (e:LExpr) (Ae:Option Addr) (ne ce:Nat) (w:World),SlR w (· < w.heap.size) 5 (RExpr d w (· < w.heap.size)) (.slice Ae ne ce) e.args→ne=e.args.length→
  Calls Tryz.prog 95 #[.agg #[.int .i64 e.kind,.int .i64 e.op,.int .i64 e.n,.string e.name,.slice Ae ne ce],.int .i64 (m:Int)] w fun r w'=>r=.returned (.int .i64 (deepN m e:Int))∧Below w.heap.size w w'
 |0,_,d,e,Ae,ne,ce,w,hr,hn=>by
  have hl:=hr.len_le
  unfold maxLen at hl
  rw [←hn] at hl
  clear hr hn
  have BA:Hid (∀o,Below w.heap.size w (w.alloc o)):=Ω (fun o=>below1 w o)
  go_enter Tryz.func95,Tryz.ntmps95
  go_upto_block 0 with fail
  refine wp_world ?_
  intro W hW
  have hB:Below w.heap.size w W:=by rw [←hW];exact below1 _ _
  have hb:Blk W w.heap.size 42 #[.int .i64 e.kind,.int .i64 e.op,.int .i64 e.n,.string e.name,.slice Ae ne ce]:=by rw [←hW];exact Blk.new _ _ _
  have c4:=hb.cell 4
  have HB:=Ω hB
  clear hW hB hb
  go_wp2
  go_loopw [5,6] (fun a b wr=>a=.int .i64 0∧b=.int .i64 0∧wr=W) (fun _ _ _=>0)
  case atStart=>exact ⟨rfl,rfl,by trivial⟩
  case round=>
   obtain ⟨rfl,rfl,hw⟩:=hrel
   subst hw
   rcases Nat.eq_zero_or_pos ne with h0|h0
   ·subst h0
    go_wp2
    go_ret
    exact ⟨rfl,HB.out⟩
   ·have d1:decide ((0:Int)<(ne:Int))=true:=dT (by omega)
    go_wp2
    go_ret
    exact ⟨rfl,HB.out⟩
 |m+1,hm,d,e,Ae,ne,ce,w,hr,hn=>by
  have hl:=hr.len_le
  unfold maxLen at hl
  rw [←hn] at hl
  have IH:=Ω (deep_ref m (by omega))
  have HR:=Ω hr
  have HN:=Ω hn
  clear hr hn
  go_enter Tryz.func95,Tryz.ntmps95
  go_upto_block 0 with fail
  refine wp_world ?_
  intro W hW
  have hB:Below w.heap.size w W:=by rw [←hW];exact below1 _ _
  have hb:Blk W w.heap.size 42 #[.int .i64 e.kind,.int .i64 e.op,.int .i64 e.n,.string e.name,.slice Ae ne ce]:=by rw [←hW];exact Blk.new _ _ _
  have HBK:=Ω hb
  have HB:=Ω hB
  clear hW hB hb
  go_wp2
  go_loopw [5,6] (fun a b wr=>∃k:Nat,k≤ne∧a=.int .i64 (mx (deepN m) (e.args.take k):Int)∧b=.int .i64 (k:Int)∧Below W.heap.size W wr) (fun _ b _=>ne-(intOf b).toNat)
  case atStart=>exact ⟨0,by omega,rfl,rfl,Below.refl _ _⟩
  case round=>
   obtain ⟨k,hk,rfl,rfl,hbr⟩:=hrel
   have c4:wr.cell? ⟨w.heap.size,4,none⟩=some (.slice Ae ne ce):=(HBK.out.below hbr HBK.out.lt).cell 4
   have hmx:mx (deepN m) (e.args.take k)≤42:=(mx_le _ _ _).2 (fun x _=>Nat.le_trans (deepN_lt m x) (by omega))
   obtain ⟨q,hq⟩:∃q,q=mx (deepN m) (e.args.take k):=⟨_,rfl⟩
   rw [←hq] at hmx
   rw [←hq]
   have HQ:=Ω hq
   have HBR:=Ω hbr
   clear hq hbr
   have dm:decide (((m+1:Nat):Int) > 0)=true:=dT (by omega)
   have dm2:decide ((0:Int)<((m+1:Nat):Int))=true:=dT (by omega)
   have dm3:decide ((0:Int)<(m:Int)+1)=true:=dT (by omega)
   by_cases hlt:k<ne
   ·have d1:decide ((k:Int)<(ne:Int))=true:=dT (by omega)
    have hk1:(k:Int)<(ne:Int):=by omega
    have hk0:¬(k:Int)<0:=by omega
    have hkl:k<e.args.length:=by rw [←HN.out];exact hlt
    obtain ⟨b,off,Ax,nx,cx,d',hA,hd,hnx,hbl,hrx,hcl⟩:=expr_at HR.out HN.out hkl
    obtain ⟨x,hx⟩:∃x,x=e.args[k]'hkl:=⟨_,rfl⟩
    rw [←hx] at hnx hrx hcl
    subst hA
    obtain ⟨i0,i1,i2,i3,i4⟩:=hcl wr ((HBR.out.block b (ltle hbl HB.out.size)).trans (HB.out.block b hbl))
    have hBw:Below w.heap.size w wr:=HB.out.trans (HBR.out.mono HB.out.size)
    have hcall:Calls Tryz.prog 95 #[.agg #[.int .i64 x.kind,.int .i64 x.op,.int .i64 x.n,.string x.name,.slice Ax nx cx],.int .i64 (m:Int)] wr fun r w'=>r=.returned (.int .i64 (deepN m x:Int))∧Below wr.heap.size wr w':=
     IH.out d' x Ax nx cx wr (hrx.imp (fun b hb=>ltle hb hBw.size) (Keeps.of_below hBw) fun _ _ _ r=>r.imp (fun b hb=>ltle hb hBw.size) (Keeps.of_below hBw)) hnx
    have hdx:=deepN_lt m x
    obtain ⟨v,hv⟩:∃v,v=deepN m x:=⟨_,rfl⟩
    rw [←hv] at hcall hdx
    have em:((m+1:Nat):Int)-1=(m:Int):=by omega
    have HC:=Ω hcall
    have HV:=Ω hv
    have HX:=Ω hx
    have HKL:=Ω hkl
    clear hcl hbl hrx hd hnx hBw hcall hv hx
    go_wp2_with (go_at_call 95;refine HC.out.mono ?_;rintro r w1 ⟨rfl,hb1⟩;have HB1:=Ω hb1;clear hb1)
    go_roundw
    case rel=>
     refine ⟨k+1,by omega,?_,by go_num,HBR.out.trans (HB1.out.mono HBR.out.size)⟩
     rw [List.take_succ_eq_append_getElem HKL.out,mx_snoc,←HX.out,←HV.out,←HQ.out]
     congr 1;omega
    case measure=>simp [intOf];omega
   ·have hkn:k=ne:=by omega
    have d1:decide ((k:Int)<(ne:Int))=false:=dF (by omega)
    go_wp2
    go_ret
    refine ⟨?_,HB.out.trans (HBR.out.mono HB.out.size)⟩
    have h:=HQ.out
    rw [hkn,HN.out,List.take_length] at h
    show Ending.returned (.int .i64 ((q:Int)+1))=.returned (.int .i64 ((mx (deepN m) e.args+1:Nat):Int))
    rw [h]
    congr 2
theorem empty_beq (s:ByteArray):(s.toList == [])=decide (s=⟨#[]⟩):=by
 rw [ByteArray.toList_eq]
 by_cases h:s=⟨#[]⟩
 ·subst h;rfl
 ·rw [dF h,beq_eq_false_iff_ne]
  intro h2
  apply h
  apply ByteArray.ext
  exact Array.toList_inj.1 (by simpa using h2)
def bareR (op n name:Bool) (m:Nat) (e:LExpr):Bool:=(op || decide (e.op=0)) && (n || decide (e.n=0)) && (name || decide (e.name=⟨#[]⟩)) && decide (e.args.length=m)
theorem bare_ref (e:LExpr) (Ae:Option Addr) (ne ce:Nat) (hn:ne=e.args.length) (op n name:Bool) (m:Nat) (w:World) :
  Calls Tryz.prog 111 #[.agg #[.int .i64 e.kind,.int .i64 e.op,.int .i64 e.n,.string e.name,.slice Ae ne ce],.bool op,.bool n,.bool name,.int .i64 (m:Int)] w fun r w'=>r=.returned (.bool (bareR op n name m e))∧Below w.heap.size w w':=by
 unfold bareR
 have d0:((ne:Int) == (m:Int))=decide (e.args.length=m):=by rw [hn,Bool.eq_iff_iff];simp;omega
 have d1:=empty_beq e.name
 clear hn
 obtain ⟨bl,hbl⟩:∃b,b=decide (e.args.length=m):=⟨_,rfl⟩
 rw [←hbl] at d0
 rw [←hbl]
 clear hbl
 have k1:(e.op == 0)=decide (e.op=0):=by rw [Bool.eq_iff_iff];simp
 have k2:(e.n == 0)=decide (e.n=0):=by rw [Bool.eq_iff_iff];simp
 rw [←k1,←k2,←d1]
 clear k1 k2 d1
 obtain ⟨bo,d2⟩:∃b,(e.op == 0)=b:=⟨_,rfl⟩
 obtain ⟨bn,d3⟩:∃b,(e.n == 0)=b:=⟨_,rfl⟩
 obtain ⟨bs,d4⟩:∃b,(e.name.toList == [])=b:=⟨_,rfl⟩
 rw [d2,d3,d4]
 go_enter Tryz.func111,Tryz.ntmps111
 cases op <;> cases bo <;> cases n <;> cases bn <;> cases name <;> cases bs <;> (go_wp2;go_ret;exact ⟨by rfl,below1 _ _⟩)
theorem bare1 {e:LExpr} (h:e.kind=1):bareE e=(bareR false true false 0 e && decide (0≤e.n)):=by
 unfold bareE bareR;rw [h,Bool.eq_iff_iff];simp [and_comm,and_left_comm]
theorem bare2 {e:LExpr} (h:e.kind=2):bareE e=(bareR false false true 0 e && nameB e.name):=by
 unfold bareE bareR;rw [h,Bool.eq_iff_iff];simp [and_comm,and_left_comm]
theorem bare3 {e:LExpr} (h:e.kind=3):bareE e=(bareR true false false 1 e && decide (17≤e.op) && decide (e.op≤19)):=by
 have hh:(e.op=17∨e.op=18∨e.op=19)↔(17≤e.op∧e.op≤19):=by omega
 unfold bareE bareR;rw [h,Bool.eq_iff_iff];simp [hh,and_assoc,and_comm,and_left_comm]
theorem bare4 {e:LExpr} (h:e.kind=4):bareE e=(bareR true false false 2 e && decide (1≤e.op) && decide (e.op≤16)):=by
 unfold bareE bareR;rw [h,Bool.eq_iff_iff];simp [and_assoc,and_comm,and_left_comm]
theorem bare5 {e:LExpr} (h:e.kind=5):bareE e=(bareR false false true e.args.length e && nameB e.name && decide (e.args.length≤6)):=by
 unfold bareE bareR;rw [h,Bool.eq_iff_iff];simp [and_comm,and_left_comm]
theorem bare6 {e:LExpr} (h:e.kind=6):bareE e=(bareR false false true 1 e && nameB e.name):=by
 unfold bareE bareR;rw [h,Bool.eq_iff_iff];simp [and_comm,and_left_comm]
theorem bare7 {e:LExpr} (h:e.kind=7):bareE e=bareR false false false 0 e:=by
 unfold bareE bareR;rw [h,Bool.eq_iff_iff];simp
theorem bare0 {e:LExpr} (h:e.kind<1∨7<e.kind):bareE e=false:=by
 unfold bareE
 repeat rw [if_neg (by omega)]
def RightAt (d:Nat):Prop:=∀(e:LExpr) (Ae:Option Addr) (ne ce:Nat) (w:World),SlR w (· < w.heap.size) 5 (RExpr d w (· < w.heap.size)) (.slice Ae ne ce) e.args→ne=e.args.length→
  Calls Tryz.prog 96 #[.agg #[.int .i64 e.kind,.int .i64 e.op,.int .i64 e.n,.string e.name,.slice Ae ne ce]] w fun r w'=>r=.returned (.bool (wellE (d+1) e))∧Below w.heap.size w w'
theorem right_step (d:Nat) (IH:Hid (∀d',d=d'+1→RightAt d')):RightAt d:=by
 intro e Ae ne ce w hr hn
 have hl:=hr.len_le
 unfold maxLen at hl
 rw [←hn] at hl
 have HR:=Ω hr
 have HN:=Ω hn
 clear hr hn
 go_enter Tryz.func96,Tryz.ntmps96
 go_upto_block 0 with fail
 refine wp_world ?_
 intro W hW
 have hB:Below w.heap.size w W:=by rw [←hW];exact below1 _ _
 have hb:Blk W w.heap.size 42 #[.int .i64 e.kind,.int .i64 e.op,.int .i64 e.n,.string e.name,.slice Ae ne ce]:=by rw [←hW];exact Blk.new _ _ _
 have HBK:=Ω hb
 have HB:=Ω hB
 clear hW hB hb
 go_wp2
 go_loopw [3] (fun a wr=>∃k:Nat,k≤ne∧a=.int .i64 (k:Int)∧Below W.heap.size W wr∧∀x∈e.args.take k,wellE d x=true) (fun a _=>ne-(intOf a).toNat)
 case atStart=>exact ⟨0,by omega,rfl,Below.refl _ _,fun x hx=>by simp at hx⟩
 case round=>
  obtain ⟨k,hk,rfl,hbr,hall⟩:=hrel
  have HA:=Ω hall
  have HBR:=Ω hbr
  have HCL:Hid (∀X,Below W.heap.size W X→X.cell? ⟨w.heap.size,0,none⟩=some (.int .i64 e.kind)∧X.cell? ⟨w.heap.size,1,none⟩=some (.int .i64 e.op)∧X.cell? ⟨w.heap.size,2,none⟩=some (.int .i64 e.n)∧X.cell? ⟨w.heap.size,3,none⟩=some (.string e.name)∧X.cell? ⟨w.heap.size,4,none⟩=some (.slice Ae ne ce)):=Ω (fun X hX=>
   have q:=HBK.out.below hX HBK.out.lt
   ⟨q.cell 0,q.cell 1,q.cell 2,q.cell 3,q.cell 4⟩)
  obtain ⟨c0,c1,c2,c3,c4⟩:=HCL.out wr hbr
  clear hall hbr
  by_cases hlt:k<ne
  ·have d1:decide ((k:Int)<(ne:Int))=true:=dT (by omega)
   have hk1:(k:Int)<(ne:Int):=by omega
   have hk0:¬(k:Int)<0:=by omega
   have hkl:k<e.args.length:=by rw [←HN.out];exact hlt
   obtain ⟨b,off,Ax,nx,cx,d',hA,hd,hnx,hbl,hrx,hcl⟩:=expr_at HR.out HN.out hkl
   obtain ⟨x,hx⟩:∃x,x=e.args[k]'hkl:=⟨_,rfl⟩
   rw [←hx] at hnx hrx hcl
   subst hA
   obtain ⟨i0,i1,i2,i3,i4⟩:=hcl wr ((HBR.out.block b (ltle hbl HB.out.size)).trans (HB.out.block b hbl))
   have hBw:Below w.heap.size w wr:=HB.out.trans (HBR.out.mono HB.out.size)
   have hcall:Calls Tryz.prog 96 #[.agg #[.int .i64 x.kind,.int .i64 x.op,.int .i64 x.n,.string x.name,.slice Ax nx cx]] wr fun r w'=>r=.returned (.bool (wellE d x))∧Below wr.heap.size wr w':=by
    rw [hd]
    exact IH.out d' hd x Ax nx cx wr (hrx.imp (fun b hb=>ltle hb hBw.size) (Keeps.of_below hBw) fun _ _ _ r=>r.imp (fun b hb=>ltle hb hBw.size) (Keeps.of_below hBw)) hnx
   obtain ⟨v,hv⟩:∃v,v=wellE d x:=⟨_,rfl⟩
   rw [←hv] at hcall
   have HC:=Ω hcall
   have HV:=Ω hv
   have HX:=Ω hx
   have HKL:=Ω hkl
   clear hcl hbl hrx hd hnx hBw hcall hv hx c0 c1 c2 c3
   cases v with
   |true=>
    go_wp2_with (go_at_call 96;refine HC.out.mono ?_;rintro r w1 ⟨rfl,hb1⟩;have HB1:=Ω hb1;clear hb1)
    go_roundw
    case rel=>
     refine ⟨k+1,by omega,by go_num,HBR.out.trans (HB1.out.mono HBR.out.size),?_⟩
     intro y hy
     rw [List.take_succ_eq_append_getElem HKL.out,List.mem_append,List.mem_singleton,←HX.out] at hy
     rcases hy with hy|rfl
     ·exact HA.out y hy
     ·exact HV.out.symm
    case measure=>simp [intOf];omega
   |false=>
    go_wp2_with (go_at_call 96;refine HC.out.mono ?_;rintro r w1 ⟨rfl,hb1⟩;have HB1:=Ω hb1;clear hb1)
    go_ret
    refine ⟨?_,HB.out.trans ((HBR.out.trans (HB1.out.mono HBR.out.size)).mono HB.out.size)⟩
    have hf:wellE (d+1) e=false:=by
     show (bareE e && e.args.all (wellE d))=false
     have hq:e.args.all (wellE d)=false:=by
      rw [List.all_eq_false]
      exact ⟨x,by rw [HX.out];exact List.getElem_mem _,by rw [←HV.out];exact Bool.false_ne_true⟩
     rw [hq,Bool.and_false]
    rw [hf]
    rfl
  ·have hkn:k=ne:=by omega
   have d1:decide ((k:Int)<(ne:Int))=false:=dF (by omega)
   have HE:Hid (wellE (d+1) e=bareE e):=Ω (by
    show (bareE e && e.args.all (wellE d))=bareE e
    have hq:e.args.all (wellE d)=true:=by
     rw [List.all_eq_true]
     intro y hy
     refine HA.out y ?_
     rw [hkn,HN.out,List.take_length]
     exact hy
    rw [hq,Bool.and_true])
   have HF:Hid (∀X,Below wr.heap.size wr X→Below w.heap.size w X):=Ω (fun X hX=>HB.out.trans ((HBR.out.trans (hX.mono HBR.out.size)).mono HB.out.size))
   have HL:Hid (∀X,Below wr.heap.size wr X→X.cell? ⟨w.heap.size,0,none⟩=some (.int .i64 e.kind)∧X.cell? ⟨w.heap.size,1,none⟩=some (.int .i64 e.op)∧X.cell? ⟨w.heap.size,2,none⟩=some (.int .i64 e.n)∧X.cell? ⟨w.heap.size,3,none⟩=some (.string e.name)∧X.cell? ⟨w.heap.size,4,none⟩=some (.slice Ae ne ce)):=Ω (fun X hX=>HCL.out X (HBR.out.trans (hX.mono HBR.out.size)))
   obtain ⟨nb,hnb⟩:∃nb,nb=nameB e.name:=⟨_,rfl⟩
   have HM:Hid (∀X,Calls Tryz.prog 55 #[.string e.name] X fun r w'=>r=.returned (.bool nb)∧X=w'):=Ω (fun X=>by have h:=rname_any e.name X;rw [←hnb] at h;exact h)
   clear hk
   rcases (by omega:e.kind=1∨e.kind=2∨e.kind=3∨e.kind=4∨e.kind=5∨e.kind=6∨e.kind=7∨(e.kind<1∨7<e.kind)) with hq|hq|hq|hq|hq|hq|hq|hq
   ·have k1:(e.kind == 1)=true:=by rw [hq];rfl
    obtain ⟨bb,hbb⟩:∃bb,bb=bareR false true false 0 e:=⟨_,rfl⟩
    have HC:Hid (∀X,Calls Tryz.prog 111 #[.agg #[.int .i64 e.kind,.int .i64 e.op,.int .i64 e.n,.string e.name,.slice Ae ne ce],.bool false,.bool true,.bool false,.int .i64 (0:Int)] X fun r w'=>r=.returned (.bool bb)∧Below X.heap.size X w'):=Ω (fun X=>by have h:=bare_ref e Ae ne ce HN.out false true false 0 X;rw [←hbb] at h;exact h)
    have HK:=Ω (bare1 hq)
    obtain ⟨v0,hv0⟩:∃v,v=decide (0≤e.n):=⟨_,rfl⟩
    have a0:decide (0≤e.n)=v0:=hv0.symm
    have b0:decide (e.n≥0)=v0:=hv0.symm
    have HZ:Hid (bareE e=(bb && v0)):=Ω (by rw [HK.out,←hbb,←hv0])
    clear hq hbb hnb HK hv0
    cases bb <;> cases v0 <;> (go_wp2_with (first|(go_at_call 55;refine (HM.out _).mono ?_;rintro r w1 ⟨rfl,hw1⟩;subst hw1)|(go_at_call 111;refine (HC.out _).mono ?_;rintro r w1 ⟨rfl,hb1⟩;obtain ⟨n0,n1,n2,n3,n4⟩:=HL.out w1 hb1;have HB1:=Ω hb1;clear hb1));go_ret;exact ⟨by rw [HE.out,HZ.out];rfl,HF.out _ HB1.out⟩)
   ·have k1:(e.kind == 1)=false:=by rw [hq];rfl
    have k2:(e.kind == 2)=true:=by rw [hq];rfl
    obtain ⟨bb,hbb⟩:∃bb,bb=bareR false false true 0 e:=⟨_,rfl⟩
    have HC:Hid (∀X,Calls Tryz.prog 111 #[.agg #[.int .i64 e.kind,.int .i64 e.op,.int .i64 e.n,.string e.name,.slice Ae ne ce],.bool false,.bool false,.bool true,.int .i64 (0:Int)] X fun r w'=>r=.returned (.bool bb)∧Below X.heap.size X w'):=Ω (fun X=>by have h:=bare_ref e Ae ne ce HN.out false false true 0 X;rw [←hbb] at h;exact h)
    have HK:=Ω (bare2 hq)
    have HZ:Hid (bareE e=(bb && nb)):=Ω (by rw [HK.out,←hbb,←hnb])
    clear hq hbb hnb HK
    cases bb <;> cases nb <;> (go_wp2_with (first|(go_at_call 55;refine (HM.out _).mono ?_;rintro r w1 ⟨rfl,hw1⟩;subst hw1)|(go_at_call 111;refine (HC.out _).mono ?_;rintro r w1 ⟨rfl,hb1⟩;obtain ⟨n0,n1,n2,n3,n4⟩:=HL.out w1 hb1;have HB1:=Ω hb1;clear hb1));go_ret;exact ⟨by rw [HE.out,HZ.out];rfl,HF.out _ HB1.out⟩)
   ·have k1:(e.kind == 1)=false:=by rw [hq];rfl
    have k2:(e.kind == 2)=false:=by rw [hq];rfl
    have k3:(e.kind == 3)=true:=by rw [hq];rfl
    obtain ⟨bb,hbb⟩:∃bb,bb=bareR true false false 1 e:=⟨_,rfl⟩
    have HC:Hid (∀X,Calls Tryz.prog 111 #[.agg #[.int .i64 e.kind,.int .i64 e.op,.int .i64 e.n,.string e.name,.slice Ae ne ce],.bool true,.bool false,.bool false,.int .i64 (1:Int)] X fun r w'=>r=.returned (.bool bb)∧Below X.heap.size X w'):=Ω (fun X=>by have h:=bare_ref e Ae ne ce HN.out true false false 1 X;rw [←hbb] at h;exact h)
    have HK:=Ω (bare3 hq)
    obtain ⟨v0,hv0⟩:∃v,v=decide (17≤e.op):=⟨_,rfl⟩
    have a0:decide (17≤e.op)=v0:=hv0.symm
    have b0:decide (e.op≥17)=v0:=hv0.symm
    obtain ⟨v1,hv1⟩:∃v,v=decide (e.op≤19):=⟨_,rfl⟩
    have a1:decide (e.op≤19)=v1:=hv1.symm
    have HZ:Hid (bareE e=(bb && v0 && v1)):=Ω (by rw [HK.out,←hbb,←hv0,←hv1])
    clear hq hbb hnb HK hv0 hv1
    cases bb <;> cases v0 <;> cases v1 <;> (go_wp2_with (first|(go_at_call 55;refine (HM.out _).mono ?_;rintro r w1 ⟨rfl,hw1⟩;subst hw1)|(go_at_call 111;refine (HC.out _).mono ?_;rintro r w1 ⟨rfl,hb1⟩;obtain ⟨n0,n1,n2,n3,n4⟩:=HL.out w1 hb1;have HB1:=Ω hb1;clear hb1));go_ret;exact ⟨by rw [HE.out,HZ.out];rfl,HF.out _ HB1.out⟩)
   ·have k1:(e.kind == 1)=false:=by rw [hq];rfl
    have k2:(e.kind == 2)=false:=by rw [hq];rfl
    have k3:(e.kind == 3)=false:=by rw [hq];rfl
    have k4:(e.kind == 4)=true:=by rw [hq];rfl
    obtain ⟨bb,hbb⟩:∃bb,bb=bareR true false false 2 e:=⟨_,rfl⟩
    have HC:Hid (∀X,Calls Tryz.prog 111 #[.agg #[.int .i64 e.kind,.int .i64 e.op,.int .i64 e.n,.string e.name,.slice Ae ne ce],.bool true,.bool false,.bool false,.int .i64 (2:Int)] X fun r w'=>r=.returned (.bool bb)∧Below X.heap.size X w'):=Ω (fun X=>by have h:=bare_ref e Ae ne ce HN.out true false false 2 X;rw [←hbb] at h;exact h)
    have HK:=Ω (bare4 hq)
    obtain ⟨v0,hv0⟩:∃v,v=decide (1≤e.op):=⟨_,rfl⟩
    have a0:decide (1≤e.op)=v0:=hv0.symm
    have b0:decide (e.op≥1)=v0:=hv0.symm
    obtain ⟨v1,hv1⟩:∃v,v=decide (e.op≤16):=⟨_,rfl⟩
    have a1:decide (e.op≤16)=v1:=hv1.symm
    have HZ:Hid (bareE e=(bb && v0 && v1)):=Ω (by rw [HK.out,←hbb,←hv0,←hv1])
    clear hq hbb hnb HK hv0 hv1
    cases bb <;> cases v0 <;> cases v1 <;> (go_wp2_with (first|(go_at_call 55;refine (HM.out _).mono ?_;rintro r w1 ⟨rfl,hw1⟩;subst hw1)|(go_at_call 111;refine (HC.out _).mono ?_;rintro r w1 ⟨rfl,hb1⟩;obtain ⟨n0,n1,n2,n3,n4⟩:=HL.out w1 hb1;have HB1:=Ω hb1;clear hb1));go_ret;exact ⟨by rw [HE.out,HZ.out];rfl,HF.out _ HB1.out⟩)
   ·have k1:(e.kind == 1)=false:=by rw [hq];rfl
    have k2:(e.kind == 2)=false:=by rw [hq];rfl
    have k3:(e.kind == 3)=false:=by rw [hq];rfl
    have k4:(e.kind == 4)=false:=by rw [hq];rfl
    have k5:(e.kind == 5)=true:=by rw [hq];rfl
    obtain ⟨bb,hbb⟩:∃bb,bb=bareR false false true ne e:=⟨_,rfl⟩
    have HC:Hid (∀X,Calls Tryz.prog 111 #[.agg #[.int .i64 e.kind,.int .i64 e.op,.int .i64 e.n,.string e.name,.slice Ae ne ce],.bool false,.bool false,.bool true,.int .i64 (ne:Int)] X fun r w'=>r=.returned (.bool bb)∧Below X.heap.size X w'):=Ω (fun X=>by have h:=bare_ref e Ae ne ce HN.out false false true ne X;rw [←hbb] at h;exact h)
    have HK:=Ω (bare5 hq)
    obtain ⟨v0,hv0⟩:∃v,v=decide ((ne:Int)≤6):=⟨_,rfl⟩
    have a0:decide ((ne:Int)≤6)=v0:=hv0.symm
    have HZ:Hid (bareE e=(bb && nb && v0)):=Ω (by rw [HK.out,←HN.out,←hbb,←hnb,show decide (ne≤6)=v0 by rw [hv0];exact decide_eq_decide.2 (by omega)])
    clear hq hbb hnb HK hv0
    cases bb <;> cases nb <;> cases v0 <;> (go_wp2_with (first|(go_at_call 55;refine (HM.out _).mono ?_;rintro r w1 ⟨rfl,hw1⟩;subst hw1)|(go_at_call 111;refine (HC.out _).mono ?_;rintro r w1 ⟨rfl,hb1⟩;obtain ⟨n0,n1,n2,n3,n4⟩:=HL.out w1 hb1;have HB1:=Ω hb1;clear hb1));go_ret;exact ⟨by rw [HE.out,HZ.out];rfl,HF.out _ HB1.out⟩)
   ·have k1:(e.kind == 1)=false:=by rw [hq];rfl
    have k2:(e.kind == 2)=false:=by rw [hq];rfl
    have k3:(e.kind == 3)=false:=by rw [hq];rfl
    have k4:(e.kind == 4)=false:=by rw [hq];rfl
    have k5:(e.kind == 5)=false:=by rw [hq];rfl
    have k6:(e.kind == 6)=true:=by rw [hq];rfl
    obtain ⟨bb,hbb⟩:∃bb,bb=bareR false false true 1 e:=⟨_,rfl⟩
    have HC:Hid (∀X,Calls Tryz.prog 111 #[.agg #[.int .i64 e.kind,.int .i64 e.op,.int .i64 e.n,.string e.name,.slice Ae ne ce],.bool false,.bool false,.bool true,.int .i64 (1:Int)] X fun r w'=>r=.returned (.bool bb)∧Below X.heap.size X w'):=Ω (fun X=>by have h:=bare_ref e Ae ne ce HN.out false false true 1 X;rw [←hbb] at h;exact h)
    have HK:=Ω (bare6 hq)
    have HZ:Hid (bareE e=(bb && nb)):=Ω (by rw [HK.out,←hbb,←hnb])
    clear hq hbb hnb HK
    cases bb <;> cases nb <;> (go_wp2_with (first|(go_at_call 55;refine (HM.out _).mono ?_;rintro r w1 ⟨rfl,hw1⟩;subst hw1)|(go_at_call 111;refine (HC.out _).mono ?_;rintro r w1 ⟨rfl,hb1⟩;obtain ⟨n0,n1,n2,n3,n4⟩:=HL.out w1 hb1;have HB1:=Ω hb1;clear hb1));go_ret;exact ⟨by rw [HE.out,HZ.out];rfl,HF.out _ HB1.out⟩)
   ·have k1:(e.kind == 1)=false:=by rw [hq];rfl
    have k2:(e.kind == 2)=false:=by rw [hq];rfl
    have k3:(e.kind == 3)=false:=by rw [hq];rfl
    have k4:(e.kind == 4)=false:=by rw [hq];rfl
    have k5:(e.kind == 5)=false:=by rw [hq];rfl
    have k6:(e.kind == 6)=false:=by rw [hq];rfl
    have k7:(e.kind == 7)=true:=by rw [hq];rfl
    obtain ⟨bb,hbb⟩:∃bb,bb=bareR false false false 0 e:=⟨_,rfl⟩
    have HC:Hid (∀X,Calls Tryz.prog 111 #[.agg #[.int .i64 e.kind,.int .i64 e.op,.int .i64 e.n,.string e.name,.slice Ae ne ce],.bool false,.bool false,.bool false,.int .i64 (0:Int)] X fun r w'=>r=.returned (.bool bb)∧Below X.heap.size X w'):=Ω (fun X=>by have h:=bare_ref e Ae ne ce HN.out false false false 0 X;rw [←hbb] at h;exact h)
    have HK:=Ω (bare7 hq)
    have HZ:Hid (bareE e=(bb)):=Ω (by rw [HK.out,←hbb])
    clear hq hbb hnb HK
    cases bb <;> (go_wp2_with (first|(go_at_call 55;refine (HM.out _).mono ?_;rintro r w1 ⟨rfl,hw1⟩;subst hw1)|(go_at_call 111;refine (HC.out _).mono ?_;rintro r w1 ⟨rfl,hb1⟩;obtain ⟨n0,n1,n2,n3,n4⟩:=HL.out w1 hb1;have HB1:=Ω hb1;clear hb1));go_ret;exact ⟨by rw [HE.out,HZ.out];rfl,HF.out _ HB1.out⟩)
   ·have k1:(e.kind == 1)=false:=by rw [beq_dec];exact dF (by omega)
    have k2:(e.kind == 2)=false:=by rw [beq_dec];exact dF (by omega)
    have k3:(e.kind == 3)=false:=by rw [beq_dec];exact dF (by omega)
    have k4:(e.kind == 4)=false:=by rw [beq_dec];exact dF (by omega)
    have k5:(e.kind == 5)=false:=by rw [beq_dec];exact dF (by omega)
    have k6:(e.kind == 6)=false:=by rw [beq_dec];exact dF (by omega)
    have k7:(e.kind == 7)=false:=by rw [beq_dec];exact dF (by omega)
    have HZ:=Ω (bare0 hq)
    clear hq hnb
    go_wp2_with (go_at_call 55;refine (HM.out _).mono ?_;rintro r w1 ⟨rfl,hw1⟩;subst hw1)
    go_ret
    exact ⟨by rw [HE.out,HZ.out];rfl,HF.out _ (Below.refl _ _)⟩
theorem right_ref:∀d:Nat,RightAt d
 |0=>right_step 0 (Ω fun d' h=>absurd h (by omega))
 |d+1=>right_step (d+1) (Ω fun d' h=>by cases h;exact right_ref d)
end
end Go.Proofs.YtmignlclfbaifaaGreat
namespace Go.Proofs.YtmignlclfbaifaaGreat
open Go.RowKit
def farL:Nat→List LStmt→Nat
 |0,_=>0
 |m+1,l=>mx (fun s=>max (1+farL m s.thn) (1+farL m s.els)) l
def farS:Nat→LStmt→Bool
 |0,_=>false
 |k+1,s=>s.thn.all (farS k) && s.els.all (farS k)
theorem farL_le:∀(k m:Nat),k<m→∀l:List LStmt,(farL m l≤k↔l.all (farS k)=true)
 |_,0,h,_=>absurd h (Nat.not_lt_zero _)
 |0,m+1,_,l=>by
  show mx _ l≤0↔_
  rw [mx_le,List.all_eq_true]
  exact ⟨fun h x hx=>absurd (h x hx) (by omega),fun h x hx=>absurd (h x hx) Bool.false_ne_true⟩
 |k+1,m+1,h,l=>by
  show mx _ l≤k+1↔_
  rw [mx_le,List.all_eq_true]
  have key:∀x:LStmt,(max (1+farL m x.thn) (1+farL m x.els)≤k+1↔farS (k+1) x=true):=by
   intro x
   have h1:=farL_le k m (by omega) x.thn
   have h2:=farL_le k m (by omega) x.els
   show _↔(x.thn.all (farS k) && x.els.all (farS k))=true
   rw [Bool.and_eq_true,←h1,←h2]
   omega
  exact ⟨fun h x hx=>(key x).1 (h x hx),fun h x hx=>(key x).2 (h x hx)⟩
theorem farL_top:∀(m:Nat) (l:List LStmt),farL m l≤m
 |0,_=>Nat.le_refl _
 |m+1,l=>by
  show mx _ l≤m+1
  rw [mx_le]
  intro x _
  have h1:=farL_top m x.thn
  have h2:=farL_top m x.els
  omega
theorem stmtB_far (D:Nat):∀(m m':Nat),m≤m'→∀s:LStmt,stmtB D m s=(farS m s && stmtB D m' s)
 |0,_,_,s=>by show false=(false && _);rfl
 |m+1,0,h,_=>absurd h (by omega)
 |m+1,m'+1,h,s=>by
  have ih:=fun x=>stmtB_far D m m' (by omega) x
  have hl:∀l:List LStmt,l.all (stmtB D m)=(l.all (farS m) && l.all (stmtB D m')):=by
   intro l
   induction l with
   |nil=>rfl
   |cons x r ihr=>
    simp only [List.all_cons,ihr,ih x]
    cases farS m x <;> cases stmtB D m' x <;> cases r.all (farS m) <;> rfl
  show (bareS s && s.args.all (fun e=>deepE 40 e && wellE D e) && s.thn.all (stmtB D m) && s.els.all (stmtB D m))=((s.thn.all (farS m) && s.els.all (farS m)) && (bareS s && s.args.all (fun e=>deepE 40 e && wellE D e) && s.thn.all (stmtB D m') && s.els.all (stmtB D m')))
  rw [hl,hl]
  cases bareS s <;> cases s.args.all (fun e=>deepE 40 e && wellE D e) <;> cases s.thn.all (farS m) <;> cases s.els.all (farS m) <;> simp
theorem stmtB_split (D d:Nat) (l:List LStmt) (hf:l.all (farS d)=true):l.all (stmtB D 40)=(decide (farL 42 l≤40) && l.all (stmtB D d)):=by
 have e0:decide (farL 42 l≤40)=l.all (farS 40):=by
  rw [Bool.eq_iff_iff,decide_eq_true_eq]
  exact farL_le 40 42 (by omega) l
 rw [e0]
 rw [List.all_eq_true] at hf
 rw [Bool.eq_iff_iff,Bool.and_eq_true,List.all_eq_true,List.all_eq_true,List.all_eq_true]
 have key:∀x∈l,(stmtB D 40 x=true↔farS 40 x=true∧stmtB D d x=true):=by
  intro x hx
  have h1:=stmtB_far D 40 (max 40 d) (by omega) x
  have h2:=stmtB_far D d (max 40 d) (by omega) x
  rw [hf x hx,Bool.true_and] at h2
  rw [h1,←h2,Bool.and_eq_true]
 exact ⟨fun h=>⟨fun x hx=>((key x hx).1 (h x hx)).1,fun x hx=>((key x hx).1 (h x hx)).2⟩,fun h x hx=>(key x hx).2 ⟨h.1 x hx,h.2 x hx⟩⟩
theorem SlR.fits {w:World} {ok:Nat→Prop}:∀(d:Nat) {v:Value} {l:List LStmt},SlR w ok 5 (RStmt d w ok) v l→l.all (farS d)=true:=by
 intro d
 induction d with
 |zero=>
  intro v l h
  rw [List.all_eq_true]
  intro x hx
  obtain ⟨k,hk,rfl⟩:=List.getElem_of_mem hx
  obtain ⟨b,off,c',hform,_,_,hb,hel⟩:=h.form (by omega)
  obtain ⟨cs,_,hcs,_⟩:=hel k hk
  exact hcs.elim
 |succ d ih=>
  intro v l h
  rw [List.all_eq_true]
  intro x hx
  obtain ⟨k,hk,rfl⟩:=List.getElem_of_mem hx
  obtain ⟨b,off,c',hform,_,_,hb,hel⟩:=h.form (by omega)
  obtain ⟨cs,_,hcs,_⟩:=hel k hk
  obtain ⟨va,vt,ve,_,_,h2,h3⟩:=hcs
  show (l[k].thn.all (farS d) && l[k].els.all (farS d))=true
  rw [ih h2,ih h3]
  rfl
section
set_option maxRecDepth 100000
set_option maxHeartbeats 4000000
theorem stmt_at {d:Nat} {w:World} {A:Option Addr} {n c:Nat} {l:List LStmt} (h:SlR w (· < w.heap.size) 5 (RStmt d w (· < w.heap.size)) (.slice A n c) l) (hn:n=l.length) {k:Nat} (hk:k<l.length) :
  ∃(b off:Nat) (Aa At Ae:Option Addr) (na nt ne ca ct ce d':Nat),A=some ⟨b,off,none⟩∧d=d'+1∧na=l[k].args.length∧nt=l[k].thn.length∧ne=l[k].els.length∧b<w.heap.size∧SlR w (· < w.heap.size) 5 (RExpr d w (· < w.heap.size)) (.slice Aa na ca) l[k].args∧SlR w (· < w.heap.size) 5 (RStmt d' w (· < w.heap.size)) (.slice At nt ct) l[k].thn∧SlR w (· < w.heap.size) 5 (RStmt d' w (· < w.heap.size)) (.slice Ae ne ce) l[k].els∧
   ∀X:World,X.heap[b]?=w.heap[b]?→X.cell? ⟨b,off+k*5,none⟩=some (.int .i64 l[k].kind)∧X.cell? ⟨b,off+k*5+1,none⟩=some (.string l[k].name)∧X.cell? ⟨b,off+k*5+2,none⟩=some (.slice Aa na ca)∧X.cell? ⟨b,off+k*5+3,none⟩=some (.slice At nt ct)∧X.cell? ⟨b,off+k*5+4,none⟩=some (.slice Ae ne ce):=by
 obtain ⟨b,off,c',hform,_,_,hb,hel⟩:=h.form (by omega)
 obtain ⟨cs,_,hcs,hcell⟩:=hel k hk
 cases d with
 |zero=>exact hcs.elim
 |succ d'=>
  obtain ⟨va,vt,ve,rfl,h1,h2,h3⟩:=hcs
  obtain ⟨Aa,ca,rfl,_,_⟩:=h1.val
  obtain ⟨At,ct,rfl,_,_⟩:=h2.val
  obtain ⟨Ae,ce,rfl,_,_⟩:=h3.val
  refine ⟨b,off,Aa,At,Ae,_,_,_,ca,ct,ce,d',by injection hform,rfl,rfl,rfl,rfl,hb,h1,h2,h3,fun X hX=>?_⟩
  have hq:=hcell.keep hX
  exact ⟨by simpa using hq.at_ (j:=0) rfl,hq.at_ (j:=1) rfl,hq.at_ (j:=2) rfl,hq.at_ (j:=3) rfl,hq.at_ (j:=4) rfl⟩
theorem name_at {w:World} {A:Option Addr} {n c:Nat} {l:List ByteArray} (h:SlR w (· < w.heap.size) 1 RStr (.slice A n c) l) {k:Nat} (hk:k<l.length) :
  ∃b off,A=some ⟨b,off,none⟩∧b<w.heap.size∧∀X:World,X.heap[b]?=w.heap[b]?→X.cell? ⟨b,off+k,none⟩=some (.string l[k]):=by
 obtain ⟨b,off,c',hform,_,_,hb,hel⟩:=h.form (by omega)
 obtain ⟨cs,_,hcs,hcell⟩:=hel k hk
 subst hcs
 refine ⟨b,off,by injection hform,hb,fun X hX=>?_⟩
 have hq:=hcell.keep hX
 simpa using hq.at_ (j:=0) rfl
theorem names_ref (A:Option Addr) (n c:Nat) (l:List ByteArray) (hn:n=l.length) (w:World) (hr:SlR w (· < w.heap.size) 1 RStr (.slice A n c) l) :
  Calls Tryz.prog 56 #[.slice A n c] w fun r w'=>r=.returned (.bool (l.all nameB))∧w=w':=by
 have hl:=hr.len_le
 unfold maxLen at hl
 rw [←hn] at hl
 have HR:=Ω hr
 have HN:=Ω hn
 clear hr hn
 go_enter Tryz.func56,Tryz.ntmps56
 go_wp2
 go_loopw [3] (fun a wr=>∃k:Nat,k≤n∧a=.int .i64 (k:Int)∧wr=w∧∀x∈l.take k,nameB x=true) (fun a _=>n-(intOf a).toNat)
 case atStart=>exact ⟨0,by omega,rfl,by trivial,fun x hx=>by simp at hx⟩
 case round=>
  obtain ⟨k,hk,rfl,hw,hall⟩:=hrel
  subst hw
  have HA:=Ω hall
  clear hall
  by_cases hlt:k<n
  ·have d1:decide ((k:Int)<(n:Int))=true:=dT (by omega)
   have hk1:(k:Int)<(n:Int):=by omega
   have hk0:¬(k:Int)<0:=by omega
   have hkl:k<l.length:=by rw [←HN.out];exact hlt
   obtain ⟨b,off,hA,hbl,hcl⟩:=name_at HR.out hkl
   obtain ⟨x,hx⟩:∃x,x=l[k]'hkl:=⟨_,rfl⟩
   rw [←hx] at hcl
   subst hA
   have i0:=hcl wr rfl
   obtain ⟨v,hv⟩:∃v,v=nameB x:=⟨_,rfl⟩
   have HC:Hid (Calls Tryz.prog 55 #[.string x] wr fun r w'=>r=.returned (.bool v)∧wr=w'):=Ω (by rw [hv];exact rname_any x wr)
   have HV:=Ω hv
   have HX:=Ω hx
   have HKL:=Ω hkl
   clear hcl hbl hv hx
   cases v with
   |true=>
    go_wp2_with (go_at_call 55;refine HC.out.mono ?_;rintro r w1 ⟨rfl,hw1⟩;subst hw1)
    go_roundw
    case rel=>
     refine ⟨k+1,by omega,by go_num,by trivial,?_⟩
     intro y hy
     rw [List.take_succ_eq_append_getElem HKL.out,List.mem_append,List.mem_singleton,←HX.out] at hy
     rcases hy with hy|rfl
     ·exact HA.out y hy
     ·exact HV.out.symm
    case measure=>simp [intOf];omega
   |false=>
    go_wp2_with (go_at_call 55;refine HC.out.mono ?_;rintro r w1 ⟨rfl,hw1⟩;subst hw1)
    go_ret
    have hf:l.all nameB=false:=by
     rw [List.all_eq_false]
     exact ⟨x,by rw [HX.out];exact List.getElem_mem _,by rw [←HV.out];exact Bool.false_ne_true⟩
    rw [hf]
    exact ⟨rfl,rfl⟩
  ·have hkn:k=n:=by omega
   have d1:decide ((k:Int)<(n:Int))=false:=dF (by omega)
   go_wp2
   go_ret
   have hf:l.all nameB=true:=by
    rw [List.all_eq_true]
    intro y hy
    refine HA.out y ?_
    rw [hkn,HN.out,List.take_length]
    exact hy
   rw [hf]
   exact ⟨rfl,rfl⟩
theorem far_ref:∀(m:Nat),m≤42→∀(d:Nat) (l:List LStmt) (A:Option Addr) (n c:Nat) (w:World),SlR w (· < w.heap.size) 5 (RStmt d w (· < w.heap.size)) (.slice A n c) l→n=l.length→
  Calls Tryz.prog 57 #[.slice A n c,.int .i64 (m:Int)] w fun r w'=>r=.returned (.int .i64 (farL m l:Int))∧Below w.heap.size w w'
 |0,_,d,l,A,n,c,w,hr,hn=>by
  have hl:=hr.len_le
  unfold maxLen at hl
  rw [←hn] at hl
  clear hr hn
  go_enter Tryz.func57,Tryz.ntmps57
  go_wp2
  go_loopw [5,6] (fun a b wr=>a=.int .i64 0∧b=.int .i64 0∧wr=w) (fun _ _ _=>0)
  case atStart=>exact ⟨rfl,rfl,by trivial⟩
  case round=>
   obtain ⟨rfl,rfl,hw⟩:=hrel
   subst hw
   rcases Nat.eq_zero_or_pos n with h0|h0
   ·subst h0
    go_wp2
    go_ret
    exact ⟨rfl,Below.refl _ _⟩
   ·have d1:decide ((0:Int)<(n:Int))=true:=dT (by omega)
    go_wp2
    go_ret
    exact ⟨rfl,Below.refl _ _⟩
 |m+1,hm,d,l,A,n,c,w,hr,hn=>by
  have hl:=hr.len_le
  unfold maxLen at hl
  rw [←hn] at hl
  have IH:=Ω (far_ref m (by omega))
  have HR:=Ω hr
  have HN:=Ω hn
  clear hr hn
  go_enter Tryz.func57,Tryz.ntmps57
  go_wp2
  go_loopw [5,6] (fun a b wr=>∃k:Nat,k≤n∧a=.int .i64 (mx (fun s=>max (1+farL m s.thn) (1+farL m s.els)) (l.take k):Int)∧b=.int .i64 (k:Int)∧Below w.heap.size w wr) (fun _ b _=>n-(intOf b).toNat)
  case atStart=>exact ⟨0,by omega,rfl,rfl,Below.refl _ _⟩
  case round=>
   obtain ⟨k,hk,rfl,rfl,hbr⟩:=hrel
   have hmx:mx (fun s=>max (1+farL m s.thn) (1+farL m s.els)) (l.take k)≤42:=(mx_le _ _ _).2 (fun x _=>(by have h1:=farL_top m x.thn;have h2:=farL_top m x.els;omega))
   obtain ⟨q,hq⟩:∃q,q=mx (fun s=>max (1+farL m s.thn) (1+farL m s.els)) (l.take k):=⟨_,rfl⟩
   rw [←hq] at hmx
   rw [←hq]
   have HQ:=Ω hq
   have HBR:=Ω hbr
   clear hq hbr
   have dm:decide (((m+1:Nat):Int) > 0)=true:=dT (by omega)
   have dm2:decide ((0:Int)<((m+1:Nat):Int))=true:=dT (by omega)
   have dm3:decide ((0:Int)<(m:Int)+1)=true:=dT (by omega)
   by_cases hlt:k<n
   ·have d1:decide ((k:Int)<(n:Int))=true:=dT (by omega)
    have hk1:(k:Int)<(n:Int):=by omega
    have hk0:¬(k:Int)<0:=by omega
    have hkl:k<l.length:=by rw [←HN.out];exact hlt
    obtain ⟨b,off,Aa,At,Ae,na,nt,ne,ca,ct,ce,d',hA,hd,hna,hnt,hne,hbl,hra,hrt,hre,hcl⟩:=stmt_at HR.out HN.out hkl
    obtain ⟨x,hx⟩:∃x,x=l[k]'hkl:=⟨_,rfl⟩
    rw [←hx] at hnt hne hrt hre hcl
    subst hA
    have HT:Hid (∀X,Below w.heap.size w X→Calls Tryz.prog 57 #[.slice At nt ct,.int .i64 (m:Int)] X fun r w'=>r=.returned (.int .i64 (farL m x.thn:Int))∧Below X.heap.size X w'):=Ω (fun X hX=>IH.out d' x.thn At nt ct X (hrt.imp (fun b hb=>ltle hb hX.size) (Keeps.of_below hX) fun _ _ _ r=>r.imp (fun b hb=>ltle hb hX.size) (Keeps.of_below hX)) hnt)
    have HE:Hid (∀X,Below w.heap.size w X→Calls Tryz.prog 57 #[.slice Ae ne ce,.int .i64 (m:Int)] X fun r w'=>r=.returned (.int .i64 (farL m x.els:Int))∧Below X.heap.size X w'):=Ω (fun X hX=>IH.out d' x.els Ae ne ce X (hre.imp (fun b hb=>ltle hb hX.size) (Keeps.of_below hX) fun _ _ _ r=>r.imp (fun b hb=>ltle hb hX.size) (Keeps.of_below hX)) hne)
    have hf1:=farL_top m x.thn
    have hf2:=farL_top m x.els
    obtain ⟨u,hu⟩:∃u,u=farL m x.thn:=⟨_,rfl⟩
    obtain ⟨v,hv⟩:∃v,v=farL m x.els:=⟨_,rfl⟩
    rw [←hu] at HT hf1
    rw [←hv] at HE hf2
    have em:((m+1:Nat):Int)-1=(m:Int):=by omega
    have HU:=Ω hu
    have HV:=Ω hv
    have HX:=Ω hx
    have HKL:=Ω hkl
    have HCL:Hid (∀X,Below w.heap.size w X→X.cell? ⟨b,off+k*5+3,none⟩=some (.slice At nt ct)∧X.cell? ⟨b,off+k*5+4,none⟩=some (.slice Ae ne ce)):=Ω (fun X hX=>⟨(hcl X (hX.block b hbl)).2.2.2.1,(hcl X (hX.block b hbl)).2.2.2.2⟩)
    clear hcl hbl hra hrt hre hd hna hnt hne hu hv hx
    go_upto_region 5 with fail
    have SO:Hid (∀X,Below w.heap.size w X→(fun X=>X.cell? ⟨b,off+k*5+3,none⟩=some (.slice At nt ct)∧X.cell? ⟨b,off+k*5+4,none⟩=some (.slice Ae ne ce)) X):=HCL
    refine wp_region_G 20 (fun X=>X.cell? ⟨b,off+k*5+3,none⟩=some (.slice At nt ct)∧X.cell? ⟨b,off+k*5+4,none⟩=some (.slice Ae ne ce)) (SO.out _ HBR.out.drew) ?_
    change GL _ _ _ _ _ 20 21 (Array.replicate 21 false) _ _
    obtain ⟨X0,hX0⟩:∃X0,wr.drew=X0:=⟨_,rfl⟩
    have HT0:Hid (Below w.heap.size w wr.drew):=Ω HBR.out.drew
    rw [hX0] at HT0 ⊢
    clear hX0
    refine gj 0 (.int .i64 (q:Int)) ?_
    refine gj 1 (.slice (some ⟨b,off,none⟩) n c) ?_
    refine gj 2 (.int .i64 (k:Int)) ?_
    refine gj 3 (.pointer (some ⟨b,off+k*5,none⟩)) ?_
    refine gj 4 (.pointer (some ⟨b,off+k*5+3,none⟩)) ?_
    refine gS 5 (.slice At nt ct) [20] ?_ ?_
    ·intro w2 hSw;obtain ⟨g0,g1⟩:=hSw;go_simp
    refine gj 6 (.int .i64 ((m+1:Nat):Int)) ?_
    refine gk 7 (.int .i64 (m:Int)) ?_ ?_
    ·intro w2;go_simp;rw [IntKind.wrap_i64];omega
    refine gj 10 (.slice (some ⟨b,off,none⟩) n c) ?_
    refine gj 11 (.int .i64 (k:Int)) ?_
    refine gj 12 (.pointer (some ⟨b,off+k*5,none⟩)) ?_
    refine gj 13 (.pointer (some ⟨b,off+k*5+4,none⟩)) ?_
    refine gS 14 (.slice Ae ne ce) [20] ?_ ?_
    ·intro w2 hSw;obtain ⟨g0,g1⟩:=hSw;go_simp
    refine gj 15 (.int .i64 ((m+1:Nat):Int)) ?_
    refine gk 16 (.int .i64 (m:Int)) ?_ ?_
    ·intro w2;go_simp;rw [IntKind.wrap_i64];omega
    refine gO 8 (fun K hK=>?_)
    go_simp
    refine (HT.out X0 HT0.out).mono ?_
    rintro e X1 ⟨rfl,hx1⟩
    have HT1:Hid (Below w.heap.size w X1):=Ω (HT0.out.trans (hx1.mono HT0.out.size))
    clear hx1
    refine hK.out _ _ (SO.out _ HT1.out) ?_
    clear hK K
    try simp only [sG]
    refine gk 9 (.int .i64 (1+(u:Int))) ?_ ?_
    ·intro w2;go_simp;rw [IntKind.wrap_i64];omega
    refine gO 17 (fun K hK=>?_)
    go_simp
    refine (HE.out X1 HT1.out).mono ?_
    rintro e X2 ⟨rfl,hx2⟩
    have HT2:Hid (Below w.heap.size w X2):=Ω (HT1.out.trans (hx2.mono HT1.out.size))
    clear hx2
    refine hK.out _ _ (SO.out _ HT2.out) ?_
    clear hK K
    try simp only [sG]
    refine gk 18 (.int .i64 (1+(v:Int))) ?_ ?_
    ·intro w2;go_simp;rw [IntKind.wrap_i64];omega
    refine gk 19 (.int .i64 (max (max (q:Int) (1+(u:Int))) (1+(v:Int)))) ?_ ?_
    ·intro w2;go_simp;(repeat' split) <;> omega
    refine gL (fun K hK=>?_)
    go_simp
    refine hK.out _ _ ?_
    clear hK K
    try simp only [sG]
    go_wp2
    go_roundw
    case rel=>
     refine ⟨k+1,by omega,?_,by go_num,HT2.out⟩
     rw [List.take_succ_eq_append_getElem HKL.out,mx_snoc,←HX.out,←HU.out,←HV.out,←HQ.out]
     congr 1;omega
    case measure=>simp [intOf];omega
   ·have hkn:k=n:=by omega
    have d1:decide ((k:Int)<(n:Int))=false:=dF (by omega)
    go_wp2
    go_ret
    refine ⟨?_,HBR.out⟩
    have h:=HQ.out
    rw [hkn,HN.out,List.take_length] at h
    show Ending.returned (.int .i64 (q:Int))=.returned (.int .i64 ((mx _ l:Nat):Int))
    rw [h]
end
end Go.Proofs.YtmignlclfbaifaaGreat
namespace Go.Proofs.YtmignlclfbaifaaGreat
open Go.RowKit
set_option maxRecDepth 100000 in
set_option maxHeartbeats 4000000 in
theorem rexpr_ref (d:Nat) (e:LExpr) (Ae:Option Addr) (ne ce:Nat) (hn:ne=e.args.length) (w:World) (hr:SlR w (· < w.heap.size) 5 (RExpr d w (· < w.heap.size)) (.slice Ae ne ce) e.args) :
  Calls Tryz.prog 81 #[.agg #[.int .i64 e.kind,.int .i64 e.op,.int .i64 e.n,.string e.name,.slice Ae ne ce]] w fun r w'=>r=.returned (.bool (deepE 40 e && wellE (d+1) e))∧Below w.heap.size w w':=by
 have HR:=Ω hr
 have HN:=Ω hn
 have hdn:=deepN_le 40 41 (by omega) e
 have HD:Hid (∀X,Below w.heap.size w X→Calls Tryz.prog 95 #[.agg #[.int .i64 e.kind,.int .i64 e.op,.int .i64 e.n,.string e.name,.slice Ae ne ce],.int .i64 41] X fun r w'=>r=.returned (.int .i64 (deepN 41 e:Int))∧Below X.heap.size X w'):=Ω (fun X hX=>deep_ref 41 (by omega) d e Ae ne ce X (HR.out.imp (fun b hb=>ltle hb hX.size) (Keeps.of_below hX) fun _ _ _ r=>r.imp (fun b hb=>ltle hb hX.size) (Keeps.of_below hX)) HN.out)
 have HG:Hid (∀X,Below w.heap.size w X→Calls Tryz.prog 96 #[.agg #[.int .i64 e.kind,.int .i64 e.op,.int .i64 e.n,.string e.name,.slice Ae ne ce]] X fun r w'=>r=.returned (.bool (wellE (d+1) e))∧Below X.heap.size X w'):=Ω (fun X hX=>right_ref d e Ae ne ce X (HR.out.imp (fun b hb=>ltle hb hX.size) (Keeps.of_below hX) fun _ _ _ r=>r.imp (fun b hb=>ltle hb hX.size) (Keeps.of_below hX)) HN.out)
 have HK:Hid (∀X,Below (w.alloc (.cells #[.int .i64 e.kind,.int .i64 e.op,.int .i64 e.n,.string e.name,.slice Ae ne ce] 42)).heap.size (w.alloc (.cells #[.int .i64 e.kind,.int .i64 e.op,.int .i64 e.n,.string e.name,.slice Ae ne ce] 42)) X→Below w.heap.size w X∧X.cell? ⟨w.heap.size,0,none⟩=some (.int .i64 e.kind)∧X.cell? ⟨w.heap.size,1,none⟩=some (.int .i64 e.op)∧X.cell? ⟨w.heap.size,2,none⟩=some (.int .i64 e.n)∧X.cell? ⟨w.heap.size,3,none⟩=some (.string e.name)∧X.cell? ⟨w.heap.size,4,none⟩=some (.slice Ae ne ce)):=Ω (fun X hX=>
  have hb:Blk (w.alloc (.cells #[.int .i64 e.kind,.int .i64 e.op,.int .i64 e.n,.string e.name,.slice Ae ne ce] 42)) w.heap.size 42 #[.int .i64 e.kind,.int .i64 e.op,.int .i64 e.n,.string e.name,.slice Ae ne ce]:=Blk.new _ _ _
  have q:=hb.below hX hb.lt
  ⟨(below1 w _).trans (hX.mono (below1 w _).size),q.cell 0,q.cell 1,q.cell 2,q.cell 3,q.cell 4⟩)
 clear hr hn
 go_enter Tryz.func81,Tryz.ntmps81
 obtain ⟨v,hv⟩:∃v,v=deepN 41 e:=⟨_,rfl⟩
 obtain ⟨g,hg⟩:∃g,g=wellE (d+1) e:=⟨_,rfl⟩
 rw [←hv] at hdn HD
 rw [←hg] at HG
 rw [←hg]
 clear hv hg
 cases hq:deepE 40 e with
 |true=>
  have d1:decide ((v:Int)≤40)=true:=dT (by have:=hdn.2 hq;omega)
  clear hq hdn
  go_wp2_with (first|(go_at_call 95;refine (HD.out _ (below1 w _)).mono ?_;rintro r w1 ⟨rfl,hb1⟩;obtain ⟨hb2,n0,n1,n2,n3,n4⟩:=HK.out w1 hb1;have HB2:=Ω hb2;clear hb1 hb2)|(go_at_call 96;refine (HG.out _ HB2.out).mono ?_;rintro r w2 ⟨rfl,hb3⟩;have HB3:=Ω hb3;clear hb3))
  go_ret
  exact ⟨rfl,HB2.out.trans (HB3.out.mono HB2.out.size)⟩
 |false=>
  have d1:decide ((v:Int)≤40)=false:=dF (by intro h;have:=hdn.1 (by omega);rw [hq] at this;cases this)
  clear hq hdn
  go_wp2_with (go_at_call 95;refine (HD.out _ (below1 w _)).mono ?_;rintro r w1 ⟨rfl,hb1⟩;obtain ⟨hb2,n0,n1,n2,n3,n4⟩:=HK.out w1 hb1;have HB2:=Ω hb2;clear hb1 hb2)
  go_ret
  exact ⟨rfl,HB2.out⟩
end Go.Proofs.YtmignlclfbaifaaGreat
