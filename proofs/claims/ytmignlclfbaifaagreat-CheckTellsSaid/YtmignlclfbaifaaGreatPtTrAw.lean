/- Chapter 5's example: its first calls, whose answers are fixed. Printed by wip/gen_traw.py. -/
import Derived.Test.YtmignlclfbaifaaGreatPtTrCheck
import Derived.Test.YtmignlclfbaifaaGreatPtTrBase
import Derived.ChangeKeysEq
namespace Go.Proofs.YtmignlclfbaifaaGreat
open Go.RowKit Go.Shelf
theorem eqt_d (d:Nat) (a b:Int) (w:World):Sem.run Tryz.prog (Op.equalIn (d+2) 33 (Value.agg #[Value.int IntKind.i64 a,Value.int IntKind.i64 b]) (Value.agg #[Value.int IntKind.i64 a,Value.int IntKind.i64 b])) w=.ok true w:=by
 have hu:Tryz.prog.underlying 33=some (.array 2 3):=by kernel_rfl
 have hv:Tryz.prog.underlying 3=some (.int .i64):=by kernel_rfl
 have hc:Tryz.prog.cellsOf 3=1:=by kernel_rfl
 have hp:Tryz.prog.plainKey 3=true:=by kernel_rfl
 have hs:(Tryz.prog.info? 3).isSome=true:=by kernel_rfl
 obtain ⟨i,hi⟩:=Option.isSome_iff_exists.1 hs
 have heq:∀(x:Int),(Op.equalIn (d+1) 3 (.int .i64 x) (.int .i64 x)).run Tryz.prog w=.ok true w:=fun x=>by
  simp [Op.equalIn,run_underlying hv]
 rw [run_equalIn_array w (d+1) _ _ hu hi,hc,show List.range 2=[0,1] from rfl]
 simp only [Op.eqItems,Sem.run_bind,run_part_plain w hp (xs:=#[Value.int IntKind.i64 a,Value.int IntKind.i64 b]) (off:=0*1) (v:=.int .i64 a) rfl,Result.andThen_ok,heq]
 simp [run_part_plain w hp (xs:=#[Value.int IntKind.i64 a,Value.int IntKind.i64 b]) (off:=1) (v:=.int .i64 b) rfl,heq]
theorem eqt (a b:Int) (w:World):Sem.run Tryz.prog (Op.equalIn 10000 33 (Value.agg #[Value.int IntKind.i64 a,Value.int IntKind.i64 b]) (Value.agg #[Value.int IntKind.i64 a,Value.int IntKind.i64 b])) w=.ok true w:=eqt_d 9998 a b w
def aw05:LProg:=⟨[(⟨#[97]⟩,1)],[⟨⟨#[109,97,105,110]⟩,[],[],[⟨8,⟨#[]⟩,[⟨2,0,0,⟨#[120]⟩,[]⟩],[],[]⟩]⟩]⟩
theorem aw05_check:checkE 8 aw05=(51,0,0):=by decide +kernel
theorem aw05_none:checkE 8 ⟨[],[]⟩=(54,0,0):=by decide +kernel
theorem aw05_few:FewP 8 aw05:=⟨by decide,by decide,fun f hf=>by obtain rfl:=List.mem_singleton.1 hf;decide,fun f hf=>by obtain rfl:=List.mem_singleton.1 hf;decide,fun f hf=>by obtain rfl:=List.mem_singleton.1 hf;decide⟩
theorem aw05_few0:FewP 8 ⟨[],[]⟩:=⟨by decide,by decide,(fun _ h=>by cases h),(fun _ h=>by cases h),(fun _ h=>by cases h)⟩
theorem aw05_funs {W:World} {a:Nat} (hx:Blk W (a+1+1) 42 #[.int .i64 2,.int .i64 0,.int .i64 0,.string ⟨#[120]⟩,.slice none 0 0]) (hs:Blk W (a+1+1+1) 45 #[.int .i64 8,.string ⟨#[]⟩,.slice (some ⟨a+1+1,0,none⟩) 1 1,.slice none 0 0,.slice none 0 0]) (hf:Blk W (a+1+1+1+1) 49 #[.string ⟨#[109,97,105,110]⟩,.slice none 0 0,.slice none 0 0,.slice (some ⟨a+1+1+1,0,none⟩) 1 1]) :
  SlR W (· < W.heap.size) 4 (RFunc 8 W (· < W.heap.size)) (.slice (some ⟨a+1+1+1+1,0,none⟩) 1 1) aw05.funcs:=by
 refine SlR.lit [[.string ⟨#[109,97,105,110]⟩,.slice none 0 0,.slice none 0 0,.slice (some ⟨a+1+1+1,0,none⟩) 1 1]] hf rfl ⟨⟨rfl,⟨_,_,_,rfl,SlR.nil_ _ _ _ _,SlR.nil_ _ _ _ _,?_⟩⟩,trivial⟩ rfl hf.lt (by omega)
 refine SlR.lit [[.int .i64 8,.string ⟨#[]⟩,.slice (some ⟨a+1+1,0,none⟩) 1 1,.slice none 0 0,.slice none 0 0]] hs rfl ⟨⟨rfl,⟨_,_,_,rfl,?_,SlR.nil_ _ _ _ _,SlR.nil_ _ _ _ _⟩⟩,trivial⟩ rfl hs.lt (by omega)
 exact SlR.lit [[.int .i64 2,.int .i64 0,.int .i64 0,.string ⟨#[120]⟩,.slice none 0 0]] hx rfl ⟨⟨rfl,⟨_,rfl,SlR.nil_ _ _ _ _⟩⟩,trivial⟩ rfl hx.lt (by omega)
theorem hb_funs {w X:World} {d:Nat} {v:Value} {l:List LFunc} (h:SlR w (· < w.heap.size) 4 (RFunc d w (· < w.heap.size)) v l) (hb:Below w.heap.size w X):SlR X (· < X.heap.size) 4 (RFunc d X (· < X.heap.size)) v l:=
 h.imp (fun _ h=>ltle h hb.size) (Keeps.of_below hb) fun _ _ _ r=>r.imp (fun _ h=>ltle h hb.size) (Keeps.of_below hb)
set_option maxRecDepth 100000 in
set_option maxHeartbeats 8000000 in
theorem awake5_any (w:World):Calls Tryz.prog 9 #[] w fun e w'=>e=.returned (.bool true)∧Below w.heap.size w w':=by
 go_enter Tryz.func9,Tryz.ntmps9
 go_upto_region 3 with fail
 refine wp_world ?_
 intro W hW
 have h1:Blk W (w.heap.size+1) 53 #[.string ⟨#[97]⟩,.int .i64 1]:=by rw [←hW];exact ((((Blk.new_at _ _ _ (by simp)).alloc _).alloc _).alloc _).alloc _
 have h2:Blk W (w.heap.size+1+1) 42 #[.int .i64 2,.int .i64 0,.int .i64 0,.string ⟨#[120]⟩,.slice none 0 0]:=by rw [←hW];exact (((Blk.new_at _ _ _ (by simp)).alloc _).alloc _).alloc _
 have h3:Blk W (w.heap.size+1+1+1) 45 #[.int .i64 8,.string ⟨#[]⟩,.slice (some ⟨w.heap.size+1+1,0,none⟩) 1 1,.slice none 0 0,.slice none 0 0]:=by rw [←hW];exact ((Blk.new_at _ _ _ (by simp)).alloc _).alloc _
 have h4:Blk W (w.heap.size+1+1+1+1) 49 #[.string ⟨#[109,97,105,110]⟩,.slice none 0 0,.slice none 0 0,.slice (some ⟨w.heap.size+1+1+1,0,none⟩) 1 1]:=by rw [←hW];exact (Blk.new_at _ _ _ (by simp)).alloc _
 have h5:Blk W (w.heap.size+1+1+1+1+1) 27 #[.slice (some ⟨w.heap.size+1,0,none⟩) 1 1,.slice (some ⟨w.heap.size+1+1+1+1,0,none⟩) 1 1]:=by rw [←hW];exact Blk.new_at _ _ _ (by simp)
 have hB:Below w.heap.size w W:=by rw [←hW];exact ((((((Below.refl _ _).alloc (Nat.le_refl _) _).alloc (by simp) _).alloc (by simp <;> omega) _).alloc (by simp <;> omega) _).alloc (by simp <;> omega) _).alloc (by simp <;> omega) _
 clear hW
 have hF:=aw05_funs h2 h3 h4
 have hA:SlR W (· < W.heap.size) 2 RArr (.slice (some ⟨w.heap.size+1,0,none⟩) 1 1) aw05.arrays:=SlR.lit [[.string ⟨#[97]⟩,.int .i64 1]] h1 rfl ⟨⟨rfl,rfl⟩,trivial⟩ rfl h1.lt (by omega)
 have HA:Hid (∀X,Below W.heap.size W X→SlR X (· < X.heap.size) 2 RArr (.slice (some ⟨w.heap.size+1,0,none⟩) 1 1) aw05.arrays):=Ω (fun X hb=>hb_slr hA hb)
 have HF:Hid (∀X,Below W.heap.size W X→SlR X (· < X.heap.size) 4 (RFunc 8 X (· < X.heap.size)) (.slice (some ⟨w.heap.size+1+1+1+1,0,none⟩) 1 1) aw05.funcs):=Ω (fun X hb=>hb_funs hF hb)
 have HC1:Hid (Calls Tryz.prog 13 #[.agg #[.slice (some ⟨w.heap.size+1,0,none⟩) 1 1,.slice (some ⟨w.heap.size+1+1+1+1,0,none⟩) 1 1]] W fun r w'=>r=.returned (.tuple #[.int .i64 51,.agg #[.int .i64 0,.int .i64 0]])∧Below W.heap.size W w'):=Ω (by
  have h:=check_any 7 aw05 (some ⟨w.heap.size+1,0,none⟩) (some ⟨w.heap.size+1+1+1+1,0,none⟩) 1 1 W hA hF aw05_few
  rw [aw05_check] at h
  exact h)
 have HC0:Hid (∀X,Calls Tryz.prog 13 #[.agg #[.slice none 0 0,.slice none 0 0]] X fun r w'=>r=.returned (.tuple #[.int .i64 54,.agg #[.int .i64 0,.int .i64 0]])∧Below X.heap.size X w'):=Ω (fun X=>by
  have h:=check_any 7 ⟨[],[]⟩ none none 0 0 X (SlR.nil_ _ _ _ _) (SlR.nil_ _ _ _ _) aw05_few0
  rw [aw05_none] at h
  exact h)
 have HP1:Hid (∀X,Below W.heap.size W X→Calls Tryz.prog 15 #[.agg #[.slice (some ⟨w.heap.size+1,0,none⟩) 1 1,.slice (some ⟨w.heap.size+1+1+1+1,0,none⟩) 1 1],.string ⟨#[109,97,105,110]⟩] X fun e w'=>e=.returned (.int .i64 (0))∧Below X.heap.size X w'):=Ω (fun X hb=>by
  have h:=place_any 8 aw05 (some ⟨w.heap.size+1,0,none⟩) (some ⟨w.heap.size+1+1+1+1,0,none⟩) 1 1 1 ⟨#[109,97,105,110]⟩ X (HF.out X hb)
  rw [show placeL aw05 ⟨#[109,97,105,110]⟩=0 by decide +kernel] at h
  exact h)
 have HP2:Hid (∀X,Below W.heap.size W X→Calls Tryz.prog 15 #[.agg #[.slice (some ⟨w.heap.size+1,0,none⟩) 1 1,.slice (some ⟨w.heap.size+1+1+1+1,0,none⟩) 1 1],.string ⟨#[102]⟩] X fun e w'=>e=.returned (.int .i64 (-1))∧Below X.heap.size X w'):=Ω (fun X hb=>by
  have h:=place_any 8 aw05 (some ⟨w.heap.size+1,0,none⟩) (some ⟨w.heap.size+1+1+1+1,0,none⟩) 1 1 1 ⟨#[102]⟩ X (HF.out X hb)
  rw [show placeL aw05 ⟨#[102]⟩=-1 by decide +kernel] at h
  exact h)
 have HQ1:Hid (∀X,Below W.heap.size W X→Calls Tryz.prog 17 #[.agg #[.slice (some ⟨w.heap.size+1,0,none⟩) 1 1,.slice (some ⟨w.heap.size+1+1+1+1,0,none⟩) 1 1],.string ⟨#[97]⟩] X fun e w'=>e=.returned (.int .i64 (0))∧Below X.heap.size X w'):=Ω (fun X hb=>by
  have h:=arrayL_any aw05 (some ⟨w.heap.size+1,0,none⟩) (some ⟨w.heap.size+1+1+1+1,0,none⟩) 1 1 1 ⟨#[97]⟩ X (HA.out X hb)
  rw [show arrayL aw05 ⟨#[97]⟩=0 by decide +kernel] at h
  exact h)
 have HQ2:Hid (∀X,Below W.heap.size W X→Calls Tryz.prog 17 #[.agg #[.slice (some ⟨w.heap.size+1,0,none⟩) 1 1,.slice (some ⟨w.heap.size+1+1+1+1,0,none⟩) 1 1],.string ⟨#[109,97,105,110]⟩] X fun e w'=>e=.returned (.int .i64 (-1))∧Below X.heap.size X w'):=Ω (fun X hb=>by
  have h:=arrayL_any aw05 (some ⟨w.heap.size+1,0,none⟩) (some ⟨w.heap.size+1+1+1+1,0,none⟩) 1 1 1 ⟨#[109,97,105,110]⟩ X (HA.out X hb)
  rw [show arrayL aw05 ⟨#[109,97,105,110]⟩=-1 by decide +kernel] at h
  exact h)
 have u0:=h5.cell 0
 have u1:=h5.cell 1
 have HB:=Ω hB
 have HU:=Ω h5
 have hul:=h5.lt
 clear h1 h2 h3 h4 h5 hB hF hA HA HF
 go_upto_region 4 with (go_at_call 13;refine HC1.out.mono ?_;rintro e w2 ⟨rfl,hb2⟩)
 refine wp_world ?_
 intro W3 hW3
 have hb3:Below W.heap.size W W3:=by rw [←hW3];exact hb2.alloc hb2.size _
 have hT3:Blk W3 w2.heap.size 33 #[.int .i64 0,.int .i64 0]:=by rw [←hW3];exact Blk.new w2 _ _
 have HB3:=Ω hb3;have HT:=Ω hT3;have htl:=hT3.lt
 clear hW3 hb3 hb2 hT3 u0 u1
 go_upto_region 5 with (go_at_call 13;refine (HC0.out _).mono ?_;rintro e w4 ⟨rfl,hb4⟩)
 refine wp_world ?_
 intro W5 hW5
 have hb5:Below W3.heap.size W3 W5:=by rw [←hW5];exact hb4.alloc hb4.size _
 have t0:W5.cell? ⟨w2.heap.size,0,none⟩=some (.int .i64 0):=(HT.out.below hb5 htl).cell 0
 have t1:W5.cell? ⟨w2.heap.size,1,none⟩=some (.int .i64 0):=(HT.out.below hb5 htl).cell 1
 have hbx:Below W.heap.size W W5:=HB3.out.trans (hb5.mono HB3.out.size)
 have v0:W5.cell? ⟨w.heap.size+1+1+1+1+1,0,none⟩=some (.slice (some ⟨w.heap.size+1,0,none⟩) 1 1):=(HU.out.below hbx hul).cell 0
 have v1:W5.cell? ⟨w.heap.size+1+1+1+1+1,1,none⟩=some (.slice (some ⟨w.heap.size+1+1+1+1,0,none⟩) 1 1):=(HU.out.below hbx hul).cell 1
 have HBX:=Ω hbx
 clear hW5 hb5 hb4 hbx
 refine wp_region_lit ?_
 refine takeP 27 (.int .i64 51) rfl (by kernel_rfl) (by go_simp) ?_
 simp only [sA,sB,sC]
 refine takeP 28 (.bool true) rfl (by kernel_rfl) (by go_simp) ?_
 simp only [sA,sB,sC]
 refine takeP 29 (.bool true) rfl (by kernel_rfl) (by go_simp) ?_
 simp only [sA,sB,sC]
 refine takeP 30 (.agg #[.int .i64 0,.int .i64 0]) rfl (by kernel_rfl) (by go_simp) ?_
 simp only [sA,sB,sC]
 refine takeP 31 (.agg #[.int .i64 0,.int .i64 0]) rfl (by kernel_rfl) (by go_simp) ?_
 simp only [sA,sB,sC]
 refine takeP 32 (.bool true) rfl (by kernel_rfl) (by have heq:=eqt 0 0 W5;go_simp) ?_
 simp only [sA,sB,sC]
 refine takeP 33 (.bool true) rfl (by kernel_rfl) (by go_simp) ?_
 simp only [sA,sB,sC]
 refine takeP 34 (.bool true) rfl (by kernel_rfl) (by go_simp) ?_
 simp only [sA,sB,sC]
 refine takeP 35 (.int .i64 54) rfl (by kernel_rfl) (by go_simp) ?_
 simp only [sA,sB,sC]
 refine takeP 36 (.bool true) rfl (by kernel_rfl) (by go_simp) ?_
 simp only [sA,sB,sC]
 refine takeP 37 (.bool true) rfl (by kernel_rfl) (by go_simp) ?_
 simp only [sA,sB,sC]
 refine takeP 38 (.bool true) rfl (by kernel_rfl) (by go_simp) ?_
 simp only [sA,sB,sC]
 refine takeP 39 (.agg #[.slice (some ⟨w.heap.size+1,0,none⟩) 1 1,.slice (some ⟨w.heap.size+1+1+1+1,0,none⟩) 1 1]) rfl (by kernel_rfl) (by go_simp) ?_
 simp only [sA,sB,sC]
 refine stepP (by kernel_rfl) (fun K hK=>?_)
 go_simp
 refine (HP1.out W5 HBX.out).mono ?_
 rintro e X1 ⟨rfl,hb⟩
 have HX1:=Ω ((HBX.out).trans (hb.mono (HBX.out).size))
 have a0:X1.cell? ⟨w.heap.size+1+1+1+1+1,0,none⟩=some (.slice (some ⟨w.heap.size+1,0,none⟩) 1 1):=(HU.out.below HX1.out hul).cell 0
 have a1:X1.cell? ⟨w.heap.size+1+1+1+1+1,1,none⟩=some (.slice (some ⟨w.heap.size+1+1+1+1,0,none⟩) 1 1):=(HU.out.below HX1.out hul).cell 1
 clear hb
 refine hK.out _ _ ?_
 clear hK K
 try simp only [sG]
 refine takeP 41 (.bool true) rfl (by kernel_rfl) (by go_simp) ?_
 simp only [sA,sB,sC]
 refine takeP 42 (.bool true) rfl (by kernel_rfl) (by go_simp) ?_
 simp only [sA,sB,sC]
 refine takeP 43 (.bool true) rfl (by kernel_rfl) (by go_simp) ?_
 simp only [sA,sB,sC]
 refine takeP 44 (.agg #[.slice (some ⟨w.heap.size+1,0,none⟩) 1 1,.slice (some ⟨w.heap.size+1+1+1+1,0,none⟩) 1 1]) rfl (by kernel_rfl) (by go_simp) ?_
 simp only [sA,sB,sC]
 refine stepP (by kernel_rfl) (fun K hK=>?_)
 go_simp
 refine (HP2.out X1 HX1.out).mono ?_
 rintro e X2 ⟨rfl,hb⟩
 have HX2:=Ω ((HX1.out).trans (hb.mono (HX1.out).size))
 have b0:X2.cell? ⟨w.heap.size+1+1+1+1+1,0,none⟩=some (.slice (some ⟨w.heap.size+1,0,none⟩) 1 1):=(HU.out.below HX2.out hul).cell 0
 have b1:X2.cell? ⟨w.heap.size+1+1+1+1+1,1,none⟩=some (.slice (some ⟨w.heap.size+1+1+1+1,0,none⟩) 1 1):=(HU.out.below HX2.out hul).cell 1
 clear hb
 refine hK.out _ _ ?_
 clear hK K
 try simp only [sG]
 refine takeP 46 (.bool true) rfl (by kernel_rfl) (by go_simp) ?_
 simp only [sA,sB,sC]
 refine takeP 47 (.bool true) rfl (by kernel_rfl) (by go_simp) ?_
 simp only [sA,sB,sC]
 refine takeP 48 (.bool true) rfl (by kernel_rfl) (by go_simp) ?_
 simp only [sA,sB,sC]
 refine takeP 49 (.agg #[.slice (some ⟨w.heap.size+1,0,none⟩) 1 1,.slice (some ⟨w.heap.size+1+1+1+1,0,none⟩) 1 1]) rfl (by kernel_rfl) (by go_simp) ?_
 simp only [sA,sB,sC]
 refine stepP (by kernel_rfl) (fun K hK=>?_)
 go_simp
 refine (HQ1.out X2 HX2.out).mono ?_
 rintro e X3 ⟨rfl,hb⟩
 have HX3:=Ω ((HX2.out).trans (hb.mono (HX2.out).size))
 have c0:X3.cell? ⟨w.heap.size+1+1+1+1+1,0,none⟩=some (.slice (some ⟨w.heap.size+1,0,none⟩) 1 1):=(HU.out.below HX3.out hul).cell 0
 have c1:X3.cell? ⟨w.heap.size+1+1+1+1+1,1,none⟩=some (.slice (some ⟨w.heap.size+1+1+1+1,0,none⟩) 1 1):=(HU.out.below HX3.out hul).cell 1
 clear hb
 refine hK.out _ _ ?_
 clear hK K
 try simp only [sG]
 refine takeP 51 (.bool true) rfl (by kernel_rfl) (by go_simp) ?_
 simp only [sA,sB,sC]
 refine takeP 52 (.bool true) rfl (by kernel_rfl) (by go_simp) ?_
 simp only [sA,sB,sC]
 refine takeP 53 (.bool true) rfl (by kernel_rfl) (by go_simp) ?_
 simp only [sA,sB,sC]
 refine takeP 54 (.agg #[.slice (some ⟨w.heap.size+1,0,none⟩) 1 1,.slice (some ⟨w.heap.size+1+1+1+1,0,none⟩) 1 1]) rfl (by kernel_rfl) (by go_simp) ?_
 simp only [sA,sB,sC]
 refine stepP (by kernel_rfl) (fun K hK=>?_)
 go_simp
 refine (HQ2.out X3 HX3.out).mono ?_
 rintro e X4 ⟨rfl,hb⟩
 have HX4:=Ω ((HX3.out).trans (hb.mono (HX3.out).size))
 have d0:X4.cell? ⟨w.heap.size+1+1+1+1+1,0,none⟩=some (.slice (some ⟨w.heap.size+1,0,none⟩) 1 1):=(HU.out.below HX4.out hul).cell 0
 have d1:X4.cell? ⟨w.heap.size+1+1+1+1+1,1,none⟩=some (.slice (some ⟨w.heap.size+1+1+1+1,0,none⟩) 1 1):=(HU.out.below HX4.out hul).cell 1
 clear hb
 refine hK.out _ _ ?_
 clear hK K
 try simp only [sG]
 refine takeP 56 (.bool true) rfl (by kernel_rfl) (by go_simp) ?_
 simp only [sA,sB,sC]
 refine takeP 57 (.bool true) rfl (by kernel_rfl) (by go_simp) ?_
 simp only [sA,sB,sC]
 refine takeP 0 (.bool true) rfl (by kernel_rfl) (by go_simp) ?_
 simp only [sA,sB]
 refine wpList_nil ?_
 go_wp2
 go_ret
 exact ⟨rfl,HB.out.trans (HX4.out.mono HB.out.size)⟩
end Go.Proofs.YtmignlclfbaifaaGreat
