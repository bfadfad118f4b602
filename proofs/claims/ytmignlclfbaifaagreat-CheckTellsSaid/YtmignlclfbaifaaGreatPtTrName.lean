/- What scan.Name tells, of whatever text: nameB. -/
import Derived.Test.YtmignlclfbaifaaGreatPtGen
import Derived.Test.YtmignlclfbaifaaGreatPtTrBase
import Derived.Laws.RangeString
import Derived.Laws.RangeAny
namespace Go.Proofs.YtmignlclfbaifaaGreat
open Go.RowKit
def letterR (r:Int):Bool:=decide (r=95) || (decide (97≤r) && decide (r≤122)) || (decide (65≤r) && decide (r≤90))
def digitR (r:Int):Bool:=decide (48≤r) && decide (r≤57)
theorem letter_any (r:Int) (w:World):Calls Tryz.prog 84 #[.int .i32 r] w fun e w'=>e=.returned (.bool (letterR r))∧w=w':=by
 rcases (by omega:r<65∨(65≤r∧r≤90)∨(91≤r∧r≤94)∨r=95∨r=96∨(97≤r∧r≤122)∨122<r) with h|h|h|h|h|h|h
 all_goals
  have b0:(r == 95)=_:=(beq_dec r 95).trans (by first|exact dT (by omega)|exact dF (by omega))
  have b1:decide (97≤r)=_:=(by first|exact dT (by omega)|exact dF (by omega))
  have b2:decide (r≤122)=_:=(by first|exact dT (by omega)|exact dF (by omega))
  have b3:decide (65≤r)=_:=(by first|exact dT (by omega)|exact dF (by omega))
  have b4:decide (r≤90)=_:=(by first|exact dT (by omega)|exact dF (by omega))
  have hr:letterR r=((r == 95) || (decide (97≤r) && decide (r≤122)) || (decide (65≤r) && decide (r≤90))):=by rw [beq_dec];rfl
  rw [b0,b1,b2,b3,b4] at hr
  have HR:=Ω hr
  clear hr h
  go_enter Tryz.func84,Tryz.ntmps84
  go_wp2
  go_ret
  exact ⟨by rw [HR.out];rfl,rfl⟩
theorem digit_any (r:Int) (w:World):Calls Tryz.prog 85 #[.int .i32 r] w fun e w'=>e=.returned (.bool (digitR r))∧w=w':=by
 rcases (by omega:r<48∨(48≤r∧r≤57)∨57<r) with h|h|h
 all_goals
  have b1:decide (48≤r)=_:=(by first|exact dT (by omega)|exact dF (by omega))
  have b2:decide (r≤57)=_:=(by first|exact dT (by omega)|exact dF (by omega))
  have hr:digitR r=(decide (48≤r) && decide (r≤57)):=rfl
  rw [b1,b2] at hr
  have HR:=Ω hr
  clear hr h
  go_enter Tryz.func85,Tryz.ntmps85
  go_wp2
  go_ret
  exact ⟨by rw [HR.out];rfl,rfl⟩
theorem tol_ne {s:ByteArray} {l:List UInt8} (h:hasS wordsB s=false) (hl:strOf l∈wordsB):(s.toList == l)=false:=by
 rw [beq_eq_false_iff_ne]
 intro e
 have e2:strOf l=s:=by unfold strOf;rw [←e,ByteArray.toList_eq]
 rw [hasS_iff.2 (e2▸hl)] at h
 cases h
theorem word_no {s:ByteArray} (h:hasS wordsB s=false) (w:World):Calls Tryz.prog 83 #[.string s] w fun e w'=>e=.returned (.bool false)∧w=w':=by
 have e0:(s.toList == [105,110,116])=false:=tol_ne h (by simp [wordsB])
 have e1:(s.toList == [105,102])=false:=tol_ne h (by simp [wordsB])
 have e2:(s.toList == [101,108,115,101])=false:=tol_ne h (by simp [wordsB])
 have e3:(s.toList == [119,104,105,108,101])=false:=tol_ne h (by simp [wordsB])
 have e4:(s.toList == [98,114,101,97,107])=false:=tol_ne h (by simp [wordsB])
 have e5:(s.toList == [99,111,110,116,105,110,117,101])=false:=tol_ne h (by simp [wordsB])
 have e6:(s.toList == [114,101,116,117,114,110])=false:=tol_ne h (by simp [wordsB])
 have e7:(s.toList == [112,114,105,110,116])=false:=tol_ne h (by simp [wordsB])
 have e8:(s.toList == [114,101,97,100])=false:=tol_ne h (by simp [wordsB])
 have e9:(s.toList == [116,114,97,112])=false:=tol_ne h (by simp [wordsB])
 clear h
 go_enter Tryz.func83,Tryz.ntmps83
 go_wp2
 go_ret
 exact ⟨rfl,rfl⟩
theorem word_yes {s:ByteArray} (h:hasS wordsB s=true) (w:World):Calls Tryz.prog 83 #[.string s] w fun e w'=>e=.returned (.bool true)∧w=w':=by
 have hm:=hasS_iff.1 h
 simp only [wordsB,List.mem_cons,List.not_mem_nil,or_false] at hm
 rcases hm with rfl|rfl|rfl|rfl|rfl|rfl|rfl|rfl|rfl|rfl
 all_goals
  unfold strOf
  go_enter Tryz.func83,Tryz.ntmps83
  go_wp2
  go_ret
  exact ⟨rfl,rfl⟩
theorem word_any (s:ByteArray) (w:World):Calls Tryz.prog 83 #[.string s] w fun e w'=>e=.returned (.bool (hasS wordsB s))∧w=w':=by
 cases h:hasS wordsB s with
 |true=>exact word_yes h w
 |false=>exact word_no h w
theorem decode_high (s:ByteArray) (pos:Nat) (h:pos<s.size) (ha:128≤(s[pos]'h).toNat):128≤(Utf8.decode s pos).1:=by
 have e:s.get! (pos+0)=s[pos]'h:=by
  show s.get! pos=_
  simp [ByteArray.get!,getElem!_pos,h]
  rfl
 have hn:¬(s[pos]'h).toNat<128:=by omega
 simp only [Utf8.decode,e,hn,if_false]
 repeat' split
 all_goals first|(simp [Utf8.runeError];done)|(rename_i hh;simp only [ge_iff_le,Bool.and_eq_true,decide_eq_true_eq] at hh;simp;omega)|(rename_i hh;simp only [ge_iff_le] at hh;simp;omega)
theorem run_next_any {P:Program} (w:World) (s:ByteArray) (pos:Nat) (ty:TypeId) (h:pos<s.size) :
  (Instr.next (.pointer (some ⟨w.heap.size,0,none⟩)) true ty).run P (w.iter s pos) =
   .ok (.tuple #[.bool true,.int .i64 pos,.int .i32 (Utf8.decode s pos).1]) (w.iter s (pos+(Utf8.decode s pos).2)):=by
 simp only [Instr.next,getObj,setObj,Sem.run_bind,Sem.run,World.iter_heap,Result.andThen,h,if_true,World.iter_set]
 simp [goInt]
theorem letterR_of (c:UInt8):letterR (c.toNat:Int)=letterB c:=by
 have h1:decide ((c.toNat:Int)=95)=decide (c=95):=by
  rw [Bool.eq_iff_iff,decide_eq_true_eq,decide_eq_true_eq,←UInt8.toNat_inj]
  show ((c.toNat:Int)=95)↔c.toNat=95
  omega
 have h2:∀k:UInt8,decide ((k.toNat:Int)≤(c.toNat:Int))=decide (k≤c):=fun k=>by
  rw [Bool.eq_iff_iff,decide_eq_true_eq,decide_eq_true_eq,UInt8.le_iff_toNat_le];omega
 have h3:∀k:UInt8,decide ((c.toNat:Int)≤(k.toNat:Int))=decide (c≤k):=fun k=>by
  rw [Bool.eq_iff_iff,decide_eq_true_eq,decide_eq_true_eq,UInt8.le_iff_toNat_le];omega
 unfold letterR letterB
 rw [h1,show decide ((97:Int)≤(c.toNat:Int))=decide ((97:UInt8)≤c) from h2 97,show decide ((c.toNat:Int)≤122)=decide (c≤(122:UInt8)) from h3 122,show decide ((65:Int)≤(c.toNat:Int))=decide ((65:UInt8)≤c) from h2 65,show decide ((c.toNat:Int)≤90)=decide (c≤(90:UInt8)) from h3 90]
theorem digitR_of (c:UInt8):digitR (c.toNat:Int)=digitB c:=by
 have h2:∀k:UInt8,decide ((k.toNat:Int)≤(c.toNat:Int))=decide (k≤c):=fun k=>by
  rw [Bool.eq_iff_iff,decide_eq_true_eq,decide_eq_true_eq,UInt8.le_iff_toNat_le];omega
 have h3:∀k:UInt8,decide ((c.toNat:Int)≤(k.toNat:Int))=decide (c≤k):=fun k=>by
  rw [Bool.eq_iff_iff,decide_eq_true_eq,decide_eq_true_eq,UInt8.le_iff_toNat_le];omega
 unfold digitR digitB
 rw [show decide ((48:Int)≤(c.toNat:Int))=decide ((48:UInt8)≤c) from h2 48,show decide ((c.toNat:Int)≤57)=decide (c≤(57:UInt8)) from h3 57]
theorem letterR_high {r:Int} (h:128≤r):letterR r=false:=by
 unfold letterR
 rw [dF (show ¬r=95 by omega),dF (show ¬r≤122 by omega),dF (show ¬r≤90 by omega)]
 simp
theorem digitR_high {r:Int} (h:128≤r):digitR r=false:=by
 unfold digitR
 rw [dF (show ¬r≤57 by omega)]
 simp
theorem chars_iff:∀(l:List UInt8),charsB l=true↔l≠[]∧∀(i:Nat) (h:i<l.length),letterB l[i]=true∨(0<i∧digitB l[i]=true)
 |[]=>by simp [charsB]
 |c :: r=>by
  show (letterB c && r.all fun c=>letterB c || digitB c)=true↔_
  rw [Bool.and_eq_true,List.all_eq_true]
  constructor
  ·rintro ⟨h1,h2⟩
   refine ⟨by simp,fun i hi=>?_⟩
   cases i with
   |zero=>exact .inl h1
   |succ i=>
    have hi':i<r.length:=by simpa using hi
    have:=h2 _ (List.getElem_mem hi')
    rw [Bool.or_eq_true] at this
    exact this.imp id fun h=>⟨Nat.succ_pos _,h⟩
  ·rintro ⟨_,h⟩
   refine ⟨(h 0 (Nat.succ_pos _)).elim id fun h=>absurd h.1 (Nat.lt_irrefl _),fun x hx=>?_⟩
   obtain ⟨i,hi,rfl⟩:=List.getElem_of_mem hx
   have:=h (i+1) (by simpa using hi)
   rw [Bool.or_eq_true]
   exact this.imp id fun h=>h.2
def okAt (s:ByteArray) (i:Nat):Prop:=∀(h:i<s.size),letterB (s[i]'h)=true∨(0<i∧digitB (s[i]'h)=true)
theorem name_iff (s:ByteArray):nameB s=true↔0<s.size∧s.size≤20∧hasS wordsB s=false∧∀i,i<s.size→okAt s i:=by
 have hl:s.data.toList.length=s.size:=by rw [Array.length_toList];rfl
 have hg:∀(i:Nat) (h:i<s.size),s.data.toList[i]'(by rw [hl];exact h)=s[i]'h:=fun i h=>by rw [Array.getElem_toList];rfl
 unfold nameB
 rw [Bool.and_eq_true,Bool.and_eq_true,chars_iff,decide_eq_true_eq,Bool.not_eq_true']
 constructor
 ·rintro ⟨⟨h1,h2⟩,h3,h4⟩
  refine ⟨?_,h1,h2,fun i hi h=>?_⟩
  ·rw [←hl];exact List.length_pos_iff.2 h3
  ·have:=h4 i (by rw [hl];exact h)
   rw [hg i h] at this;exact this
 ·rintro ⟨h0,h1,h2,h3⟩
  refine ⟨⟨h1,h2⟩,fun e=>by rw [e] at hl;simp at hl;omega,fun i hi=>?_⟩
  rw [hl] at hi
  rw [hg i hi]
  exact h3 i hi hi
set_option maxRecDepth 100000 in
set_option maxHeartbeats 2000000 in
theorem name_any (s:ByteArray) (w:World):Calls Tryz.prog 62 #[.string s] w fun e w'=>e=.returned (.bool (nameB s))∧Below w.heap.size w w':=by
 have HW:=Ω (fun w=>word_any s w)
 have hsz:s.toList=[]↔s.size=0:=by
  rw [ByteArray.toList_eq]
  constructor
  ·intro e
   show s.data.size=0
   rw [←Array.length_toList,e];rfl
  ·intro e
   exact List.eq_nil_of_length_eq_zero (by rw [Array.length_toList];exact e)
 have HNI:=Ω (name_iff s)
 have hno:(¬(0<s.size∧s.size≤20∧hasS wordsB s=false∧∀i,i<s.size→okAt s i))→nameB s=false:=fun h=>by
  cases e:nameB s with
  |false=>rfl
  |true=>exact absurd ((name_iff s).1 e) h
 have HNO:=Ω hno
 clear hno
 by_cases h0:s.size=0
 ·have e0:(s.toList == [])=true:=by rw [hsz.2 h0];rfl
  have e1:s.toList.isEmpty=true:=by rw [hsz.2 h0];rfl
  have HF:Hid (nameB s=false):=Ω (HNO.out fun h=>by omega)
  clear hsz
  go_enter Tryz.func62,Tryz.ntmps62
  go_wp2
  go_ret
  exact ⟨by rw [HF.out];rfl,Below.refl _ _⟩
 ·have dn:¬s.toList=[]:=fun e=>h0 (hsz.1 e)
  have dn2:s.toList.isEmpty=false:=by rw [List.isEmpty_eq_false_iff];exact dn
  have dn3:(s.toList == [])=false:=by simp [dn]
  clear hsz
  by_cases h20:s.size≤20
  ·have d1:decide ((s.size:Int) > 20)=false:=dF (by omega)
   have d2:decide (20<(s.size:Int))=false:=dF (by omega)
   cases hw:hasS wordsB s with
   |true=>
    rw [hw] at HW
    have HF:Hid (nameB s=false):=Ω (HNO.out fun h=>by rw [h.2.2.1] at hw;cases hw)
    go_enter Tryz.func62,Tryz.ntmps62
    go_wp2_with (go_at_call 83;refine (HW.out _).mono ?_;rintro e w' ⟨rfl,rfl⟩)
    go_ret
    exact ⟨by rw [HF.out];rfl,Below.refl _ _⟩
   |false=>
    have HWF:=Ω hw
    rw [hw] at HW
    clear hw
    go_enter Tryz.func62,Tryz.ntmps62
    go_wp2_with (go_at_call 83;refine (HW.out _).mono ?_;rintro e w' ⟨rfl,rfl⟩)
    clear dn dn2 dn3 d1 d2
    go_loopw [3] (fun _ wr=>∃pos:Nat,pos≤s.size∧(∀i,i<pos→okAt s i)∧wr=w.iter s pos) (fun _ w'=>s.size-w'.iterPos w.heap.size)
    case atStart=>exact ⟨0,Nat.zero_le _,fun i h=>absurd h (Nat.not_lt_zero _),rfl⟩
    case round=>
     obtain ⟨pos,hpl,hok,rfl⟩:=hrel
     have HOK:=Ω hok
     clear hok
     have hnok:Hid ((∀h:pos<s.size,letterB (s[pos]'h)=false)→(0<pos→∀h:pos<s.size,digitB (s[pos]'h)=false)→pos<s.size→nameB s=false):=Ω (fun h1 h2 hp=>HNO.out fun h=>by
      rcases h.2.2.2 pos hp hp with h3|⟨h3,h4⟩
      ·rw [h1 hp] at h3;cases h3
      ·rw [h2 h3 hp] at h4;cases h4)
     by_cases hp:pos<s.size
     ·by_cases ha:(s[pos]'hp).toNat<128
      ·have hnx:∀ty,(Instr.next (.pointer (some ⟨w.heap.size,0,none⟩)) true ty).run Tryz.prog (w.iter s pos)=_:=fun ty=>run_next_ascii w s pos ty hp ha
       have HLE:=Ω (fun w=>letter_any ((s[pos]'hp).toNat:Int) w)
       have HDI:=Ω (fun w=>digit_any ((s[pos]'hp).toNat:Int) w)
       rw [letterR_of] at HLE
       rw [digitR_of] at HDI
       cases hl:letterB (s[pos]'hp) with
       |true=>
        rw [hl] at HLE
        have HL:=Ω hl
        clear hl
        go_wp2_with (go_at_call 84;refine (HLE.out _).mono ?_;rintro e w' ⟨rfl,rfl⟩)
        go_roundw
        case rel=>
         refine ⟨pos+1,hp,fun i hi=>?_,rfl⟩
         by_cases e:i=pos
         ·subst e;exact fun _=>.inl HL.out
         ·exact HOK.out i (by omega)
        case measure=>simp;omega
       |false=>
        rw [hl] at HLE
        have HL:=Ω hl
        clear hl
        by_cases hz:pos=0
        ·have HF:Hid (nameB s=false):=Ω (hnok.out (fun _=>HL.out) (fun h=>absurd hz (by omega)) hp)
         have z0:((pos:Int) == 0)=true:=by rw [beq_dec];exact dT (by omega)
         have z1:decide ((pos:Int)=0)=true:=dT (by omega)
         clear hz
         go_wp2_with (go_at_call 84;refine (HLE.out _).mono ?_;rintro e w' ⟨rfl,rfl⟩)
         go_ret
         exact ⟨by rw [HF.out];rfl,below1 _ _⟩
        ·have z0:((pos:Int) == 0)=false:=by rw [beq_dec];exact dF (by omega)
         have z1:decide ((pos:Int)=0)=false:=dF (by omega)
         cases hd:digitB (s[pos]'hp) with
         |true=>
          rw [hd] at HDI
          have HD:=Ω hd
          clear hd
          go_wp2_with (first|(go_at_call 84;refine (HLE.out _).mono ?_;rintro e w' ⟨rfl,rfl⟩)|(go_at_call 85;refine (HDI.out _).mono ?_;rintro e w' ⟨rfl,rfl⟩))
          go_roundw
          case rel=>
           refine ⟨pos+1,hp,fun i hi=>?_,rfl⟩
           by_cases e:i=pos
           ·subst e;exact fun _=>.inr ⟨by omega,HD.out⟩
           ·exact HOK.out i (by omega)
          case measure=>simp;omega
         |false=>
          rw [hd] at HDI
          have HF:Hid (nameB s=false):=Ω (hnok.out (fun _=>HL.out) (fun _ _=>hd) hp)
          clear hd
          go_wp2_with (first|(go_at_call 84;refine (HLE.out _).mono ?_;rintro e w' ⟨rfl,rfl⟩)|(go_at_call 85;refine (HDI.out _).mono ?_;rintro e w' ⟨rfl,rfl⟩))
          go_ret
          exact ⟨by rw [HF.out];rfl,below1 _ _⟩
      ·have hdh:=decode_high s pos hp (by omega)
       have hnx:∀ty,(Instr.next (.pointer (some ⟨w.heap.size,0,none⟩)) true ty).run Tryz.prog (w.iter s pos)=_:=fun ty=>run_next_any w s pos ty hp
       have HLE:=Ω (fun w=>letter_any ((Utf8.decode s pos).1:Int) w)
       have HDI:=Ω (fun w=>digit_any ((Utf8.decode s pos).1:Int) w)
       have hlb:letterB (s[pos]'hp)=false:=by rw [←letterR_of];exact letterR_high (by omega)
       have hdb:digitB (s[pos]'hp)=false:=by rw [←digitR_of];exact digitR_high (by omega)
       have HF:Hid (nameB s=false):=Ω (hnok.out (fun _=>hlb) (fun _ _=>hdb) hp)
       rw [letterR_high (by omega)] at HLE
       rw [digitR_high (by omega)] at HDI
       clear hlb hdb hdh
       generalize Utf8.decode s pos=rd at hnx HLE HDI
       obtain ⟨rr,rn⟩:=rd
       by_cases hz:pos=0
       ·have z0:((pos:Int) == 0)=true:=by rw [beq_dec];exact dT (by omega)
        have z1:decide ((pos:Int)=0)=true:=dT (by omega)
        clear hz
        go_wp2_with (go_at_call 84;refine (HLE.out _).mono ?_;rintro e w' ⟨rfl,rfl⟩)
        go_ret
        exact ⟨by rw [HF.out];rfl,below1 _ _⟩
       ·have z0:((pos:Int) == 0)=false:=by rw [beq_dec];exact dF (by omega)
        have z1:decide ((pos:Int)=0)=false:=dF (by omega)
        go_wp2_with (first|(go_at_call 84;refine (HLE.out _).mono ?_;rintro e w' ⟨rfl,rfl⟩)|(go_at_call 85;refine (HDI.out _).mono ?_;rintro e w' ⟨rfl,rfl⟩))
        go_ret
        exact ⟨by rw [HF.out];rfl,below1 _ _⟩
     ·have hnx:∀ty,(Instr.next (.pointer (some ⟨w.heap.size,0,none⟩)) true ty).run Tryz.prog (w.iter s pos)=_:=fun ty=>run_next_end w s pos ty hp
      have HT:Hid (nameB s=true):=Ω (HNI.out.2 ⟨by omega,h20,HWF.out,fun i hi=>HOK.out i (by omega)⟩)
      go_wp2
      go_ret
      exact ⟨by rw [HT.out];rfl,below1 _ _⟩
  ·have d1:decide ((s.size:Int) > 20)=true:=dT (by omega)
   have d2:decide (20<(s.size:Int))=true:=dT (by omega)
   have HF:Hid (nameB s=false):=Ω (HNO.out fun h=>h20 h.2.1)
   go_enter Tryz.func62,Tryz.ntmps62
   go_wp2
   go_ret
   exact ⟨by rw [HF.out];rfl,Below.refl _ _⟩
end Go.Proofs.YtmignlclfbaifaaGreat
