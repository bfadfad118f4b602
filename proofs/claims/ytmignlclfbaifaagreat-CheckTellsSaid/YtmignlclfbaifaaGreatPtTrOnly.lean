/- What tree.only tells: an expression with what its kind has alone, how many parts that has, and whether it is so. Printed by wip/gen_tronly.py. -/
import Derived.Test.YtmignlclfbaifaaGreatPtTrForm
import Derived.Test.YtmignlclfbaifaaGreatPtTrName
import Derived.Test.YtmignlclfbaifaaGreatPtRegion
import Derived.Test.YtmignlclfbaifaaGreatPtArX
set_option maxRecDepth 100000
namespace Go.Proofs.YtmignlclfbaifaaGreat
open Go.RowKit
theorem results_cell_tmp2 {fn:Func} {p u v:Tmp} {ty:TypeId} (h:fn.results=#[.cell p ty,.tmp u,.tmp v]) (tmps:Array Value) (P:Program) (w:World) :
  (results fn tmps).run P w =
   ((asAddr (tmps.getD p undef)).run P w).andThen fun a w₁=>((loadVar ty a).run P w₁).andThen fun x w₂=>.ok (.tuple #[x,tmps.getD u undef,tmps.getD v undef]) w₂:=by
 simp only [results,h]
 simp [Sem.run_bind,Result.andThen]
theorem results_cellT2 {P:Program} {fn:Func} {p q r:Tmp} {ty:TypeId} (h:fn.results=#[.cell p ty,.tmp q,.tmp r]) (tmps:Array Value) (w:World) (g:Nat) (t:TypeId) (cs:Array Value) (fr:Nat × Nat) (d:TypeDesc) (x y:Value)
  (hp:tmps.getD p undef=.pointer (some ⟨g,0,none⟩)) (hq:tmps.getD q undef=x) (hr:tmps.getD r undef=y) (hg:w.heap[g]?=some (.cells cs t fr))
  (hu:P.underlying ty=some d) (hd:(match d with|.struct _|.array _ _=>true|_=>false)=true) (hi:(P.info? ty).map (·.size)=some cs.size) :
  (results fn tmps).run P w=.ok (.tuple #[.agg cs,x,y]) w:=by
 rw [results_cell_tmp2 h,hp,hq,hr]
 have ha:(asAddr (.pointer (some ⟨g,0,none⟩))).run P w=.ok ⟨g,0,none⟩ w:=rfl
 rw [ha]
 show ((loadVar ty ⟨g,0,none⟩).run P w).andThen _=_
 rw [run_loadVar_row w g t ty cs fr d hg hu hd hi];rfl
set_option maxHeartbeats 4000000 in
theorem only1 (op n:Int) (s:ByteArray) (m c:Nat) (A:Option Addr) (w:World):Calls Tryz.prog 113 #[.agg #[.int .i64 1,.int .i64 op,.int .i64 n,.string s,.slice A m c]] w fun e w'=>e=.returned (.tuple #[.agg #[.int .i64 1,.int .i64 0,.int .i64 n,.string ⟨#[]⟩,.slice none 0 0],.int .i64 0,.bool (decide (0≤n))])∧Below w.heap.size w w':=by
 go_enter Tryz.func113,Tryz.ntmps113
 go_upto_region 5 with fail
 refine wp_world ?_
 intro W hW
 have hX:Blk W (w.heap.size+1) 42 #[.int .i64 1,.int .i64 0,.int .i64 n,.string ⟨#[]⟩,.slice none 0 0]:=by rw [←hW];exact Blk.new_at _ _ _ (by simp)
 have hG:Blk W w.heap.size 42 #[.int .i64 1,.int .i64 op,.int .i64 n,.string s,.slice A m c]:=by rw [←hW];exact (Blk.new _ _ _).alloc _
 have hB:Below w.heap.size w W:=by rw [←hW];exact below2 _ _ _
 have hs1:w.heap.size+1<W.heap.size:=by rw [←hW];simp
 have SO:Hid (∀X,(fun X=>Blk X (w.heap.size+1) 42 #[.int .i64 1,.int .i64 0,.int .i64 n,.string ⟨#[]⟩,.slice none 0 0]∧Blk X w.heap.size 42 #[.int .i64 1,.int .i64 op,.int .i64 n,.string s,.slice A m c]∧Below w.heap.size w X∧w.heap.size+1<X.heap.size) X→(fun w2=>w2.cell? ⟨w.heap.size+1,0,none⟩=some (.int .i64 1)∧w2.cell? ⟨w.heap.size+1,1,none⟩=some (.int .i64 0)∧w2.cell? ⟨w.heap.size+1,2,none⟩=some (.int .i64 n)∧w2.cell? ⟨w.heap.size+1,3,none⟩=some (.string ⟨#[]⟩)∧w2.cell? ⟨w.heap.size+1,4,none⟩=some (.slice none 0 0)∧w2.cell? ⟨w.heap.size,2,none⟩=some (.int .i64 n)) X):=Ω (fun X hb=>⟨hb.1.cell 0,hb.1.cell 1,hb.1.cell 2,hb.1.cell 3,hb.1.cell 4,hb.2.1.cell 2⟩)
 have TB:Hid (∀X Y,(fun X=>Blk X (w.heap.size+1) 42 #[.int .i64 1,.int .i64 0,.int .i64 n,.string ⟨#[]⟩,.slice none 0 0]∧Blk X w.heap.size 42 #[.int .i64 1,.int .i64 op,.int .i64 n,.string s,.slice A m c]∧Below w.heap.size w X∧w.heap.size+1<X.heap.size) X→Below X.heap.size X Y→(fun X=>Blk X (w.heap.size+1) 42 #[.int .i64 1,.int .i64 0,.int .i64 n,.string ⟨#[]⟩,.slice none 0 0]∧Blk X w.heap.size 42 #[.int .i64 1,.int .i64 op,.int .i64 n,.string s,.slice A m c]∧Below w.heap.size w X∧w.heap.size+1<X.heap.size) Y):=Ω (fun X Y h hb=>⟨h.1.below hb h.1.lt,h.2.1.below hb h.2.1.lt,h.2.2.1.trans (hb.mono h.2.2.1.size),ltle h.2.2.2 hb.size⟩)
 have TS:Hid (∀X,(fun X=>Blk X (w.heap.size+1) 42 #[.int .i64 1,.int .i64 0,.int .i64 n,.string ⟨#[]⟩,.slice none 0 0]∧Blk X w.heap.size 42 #[.int .i64 1,.int .i64 op,.int .i64 n,.string s,.slice A m c]∧Below w.heap.size w X∧w.heap.size+1<X.heap.size) X→(fun X=>Blk X (w.heap.size+1) 42 #[.int .i64 1,.int .i64 0,.int .i64 n,.string ⟨#[]⟩,.slice none 0 0]∧Blk X w.heap.size 42 #[.int .i64 1,.int .i64 op,.int .i64 n,.string s,.slice A m c]∧Below w.heap.size w X∧w.heap.size+1<X.heap.size) (((((X.setCell ⟨w.heap.size+1,0,none⟩ (.int .i64 1)).setCell ⟨w.heap.size+1,1,none⟩ (.int .i64 0)).setCell ⟨w.heap.size+1,2,none⟩ (.int .i64 n)).setCell ⟨w.heap.size+1,3,none⟩ (.string ⟨#[]⟩)).setCell ⟨w.heap.size+1,4,none⟩ (.slice none 0 0))):=Ω (fun X h=>⟨(((((h.1.set_ 0 _).set_ 1 _).set_ 2 _).set_ 3 _).set_ 4 _),(((((h.2.1.far (by simp) _).far (by simp) _).far (by simp) _).far (by simp) _).far (by simp) _),(((((h.2.2.1.setCell (p:=⟨w.heap.size+1,0,none⟩) (Nat.le_succ _) _).setCell (p:=⟨w.heap.size+1,1,none⟩) (Nat.le_succ _) _).setCell (p:=⟨w.heap.size+1,2,none⟩) (Nat.le_succ _) _).setCell (p:=⟨w.heap.size+1,3,none⟩) (Nat.le_succ _) _).setCell (p:=⟨w.heap.size+1,4,none⟩) (Nat.le_succ _) _),by simpa using h.2.2.2⟩)
 have HT0:Hid ((fun X=>Blk X (w.heap.size+1) 42 #[.int .i64 1,.int .i64 0,.int .i64 n,.string ⟨#[]⟩,.slice none 0 0]∧Blk X w.heap.size 42 #[.int .i64 1,.int .i64 op,.int .i64 n,.string s,.slice A m c]∧Below w.heap.size w X∧w.heap.size+1<X.heap.size) W.drew):=Ω ⟨hX.drew,hG.drew,hB.drew,hs1⟩
 clear hW hX hG hB hs1
 refine wp_region_G 6 (fun w2=>w2.cell? ⟨w.heap.size+1,0,none⟩=some (.int .i64 1)∧w2.cell? ⟨w.heap.size+1,1,none⟩=some (.int .i64 0)∧w2.cell? ⟨w.heap.size+1,2,none⟩=some (.int .i64 n)∧w2.cell? ⟨w.heap.size+1,3,none⟩=some (.string ⟨#[]⟩)∧w2.cell? ⟨w.heap.size+1,4,none⟩=some (.slice none 0 0)∧w2.cell? ⟨w.heap.size,2,none⟩=some (.int .i64 n)) (SO.out _ HT0.out) ?_
 change GL _ _ _ _ _ 6 7 (Array.replicate 7 false) _ _
 obtain ⟨X0,hX0⟩:∃X0,W.drew=X0:=⟨_,rfl⟩
 rw [hX0] at HT0 ⊢
 clear hX0 W
 refine gS 0 (.agg #[.int .i64 1,.int .i64 0,.int .i64 n,.string ⟨#[]⟩,.slice none 0 0]) [6] ?_ ?_
 ·intro w2 hSw;obtain ⟨g0,g1,g2,g3,g4,g5⟩:=hSw;go_simp
 refine gj 1 (.pointer (some ⟨w.heap.size,2,none⟩)) ?_
 refine gS 2 (.int .i64 n) [6] ?_ ?_
 ·intro w2 hSw;obtain ⟨g0,g1,g2,g3,g4,g5⟩:=hSw;go_simp
 refine gj 3 (.bool (decide (0≤n))) ?_
 refine gO 4 (fun K hK=>?_)
 have hY:=HT0.out.1
 obtain ⟨y0,y1,y2,y3,y4⟩:=hY.c5
 obtain ⟨z0,z1,z2,z3,z4⟩:=hY.z5
 clear hY
 go_simp
 have HT2:=Ω (TS.out _ HT0.out)
 refine hK.out _ _ (SO.out _ HT2.out) ?_
 clear hK K
 try simp only [sG]
 refine gj 5 (.int .i64 0) ?_
 refine gL (fun K hK=>?_)
 go_simp
 refine hK.out _ _ ?_
 clear hK K
 try simp only [sG]
 go_wp2
 refine bodyPost_ret (results_cellT2 (p:=2) (q:=3) (r:=4) (ty:=42) (by kernel_rfl) _ _ (w.heap.size+1) 42 _ (0,0) _ (.int .i64 0) (.bool (decide (0≤n))) rfl rfl rfl HT2.out.1 Tryz.underlying42 rfl (by kernel_rfl)) rfl ?_
 exact ⟨rfl,HT2.out.2.2.1⟩
set_option maxHeartbeats 4000000 in
theorem only2 (op n:Int) (s:ByteArray) (m c:Nat) (A:Option Addr) (w:World):Calls Tryz.prog 113 #[.agg #[.int .i64 2,.int .i64 op,.int .i64 n,.string s,.slice A m c]] w fun e w'=>e=.returned (.tuple #[.agg #[.int .i64 2,.int .i64 0,.int .i64 0,.string s,.slice none 0 0],.int .i64 0,.bool (nameB s)])∧Below w.heap.size w w':=by
 go_enter Tryz.func113,Tryz.ntmps113
 go_upto_region 8 with fail
 refine wp_world ?_
 intro W hW
 have hX:Blk W (w.heap.size+1) 42 #[.int .i64 2,.int .i64 0,.int .i64 0,.string s,.slice none 0 0]:=by rw [←hW];exact Blk.new_at _ _ _ (by simp)
 have hG:Blk W w.heap.size 42 #[.int .i64 2,.int .i64 op,.int .i64 n,.string s,.slice A m c]:=by rw [←hW];exact (Blk.new _ _ _).alloc _
 have hB:Below w.heap.size w W:=by rw [←hW];exact below2 _ _ _
 have hs1:w.heap.size+1<W.heap.size:=by rw [←hW];simp
 have SO:Hid (∀X,(fun X=>Blk X (w.heap.size+1) 42 #[.int .i64 2,.int .i64 0,.int .i64 0,.string s,.slice none 0 0]∧Blk X w.heap.size 42 #[.int .i64 2,.int .i64 op,.int .i64 n,.string s,.slice A m c]∧Below w.heap.size w X∧w.heap.size+1<X.heap.size) X→(fun w2=>w2.cell? ⟨w.heap.size+1,0,none⟩=some (.int .i64 2)∧w2.cell? ⟨w.heap.size+1,1,none⟩=some (.int .i64 0)∧w2.cell? ⟨w.heap.size+1,2,none⟩=some (.int .i64 0)∧w2.cell? ⟨w.heap.size+1,3,none⟩=some (.string s)∧w2.cell? ⟨w.heap.size+1,4,none⟩=some (.slice none 0 0)∧w2.cell? ⟨w.heap.size,3,none⟩=some (.string s)) X):=Ω (fun X hb=>⟨hb.1.cell 0,hb.1.cell 1,hb.1.cell 2,hb.1.cell 3,hb.1.cell 4,hb.2.1.cell 3⟩)
 have TB:Hid (∀X Y,(fun X=>Blk X (w.heap.size+1) 42 #[.int .i64 2,.int .i64 0,.int .i64 0,.string s,.slice none 0 0]∧Blk X w.heap.size 42 #[.int .i64 2,.int .i64 op,.int .i64 n,.string s,.slice A m c]∧Below w.heap.size w X∧w.heap.size+1<X.heap.size) X→Below X.heap.size X Y→(fun X=>Blk X (w.heap.size+1) 42 #[.int .i64 2,.int .i64 0,.int .i64 0,.string s,.slice none 0 0]∧Blk X w.heap.size 42 #[.int .i64 2,.int .i64 op,.int .i64 n,.string s,.slice A m c]∧Below w.heap.size w X∧w.heap.size+1<X.heap.size) Y):=Ω (fun X Y h hb=>⟨h.1.below hb h.1.lt,h.2.1.below hb h.2.1.lt,h.2.2.1.trans (hb.mono h.2.2.1.size),ltle h.2.2.2 hb.size⟩)
 have TS:Hid (∀X,(fun X=>Blk X (w.heap.size+1) 42 #[.int .i64 2,.int .i64 0,.int .i64 0,.string s,.slice none 0 0]∧Blk X w.heap.size 42 #[.int .i64 2,.int .i64 op,.int .i64 n,.string s,.slice A m c]∧Below w.heap.size w X∧w.heap.size+1<X.heap.size) X→(fun X=>Blk X (w.heap.size+1) 42 #[.int .i64 2,.int .i64 0,.int .i64 0,.string s,.slice none 0 0]∧Blk X w.heap.size 42 #[.int .i64 2,.int .i64 op,.int .i64 n,.string s,.slice A m c]∧Below w.heap.size w X∧w.heap.size+1<X.heap.size) (((((X.setCell ⟨w.heap.size+1,0,none⟩ (.int .i64 2)).setCell ⟨w.heap.size+1,1,none⟩ (.int .i64 0)).setCell ⟨w.heap.size+1,2,none⟩ (.int .i64 0)).setCell ⟨w.heap.size+1,3,none⟩ (.string s)).setCell ⟨w.heap.size+1,4,none⟩ (.slice none 0 0))):=Ω (fun X h=>⟨(((((h.1.set_ 0 _).set_ 1 _).set_ 2 _).set_ 3 _).set_ 4 _),(((((h.2.1.far (by simp) _).far (by simp) _).far (by simp) _).far (by simp) _).far (by simp) _),(((((h.2.2.1.setCell (p:=⟨w.heap.size+1,0,none⟩) (Nat.le_succ _) _).setCell (p:=⟨w.heap.size+1,1,none⟩) (Nat.le_succ _) _).setCell (p:=⟨w.heap.size+1,2,none⟩) (Nat.le_succ _) _).setCell (p:=⟨w.heap.size+1,3,none⟩) (Nat.le_succ _) _).setCell (p:=⟨w.heap.size+1,4,none⟩) (Nat.le_succ _) _),by simpa using h.2.2.2⟩)
 have HT0:Hid ((fun X=>Blk X (w.heap.size+1) 42 #[.int .i64 2,.int .i64 0,.int .i64 0,.string s,.slice none 0 0]∧Blk X w.heap.size 42 #[.int .i64 2,.int .i64 op,.int .i64 n,.string s,.slice A m c]∧Below w.heap.size w X∧w.heap.size+1<X.heap.size) W.drew):=Ω ⟨hX.drew,hG.drew,hB.drew,hs1⟩
 clear hW hX hG hB hs1
 refine wp_region_G 6 (fun w2=>w2.cell? ⟨w.heap.size+1,0,none⟩=some (.int .i64 2)∧w2.cell? ⟨w.heap.size+1,1,none⟩=some (.int .i64 0)∧w2.cell? ⟨w.heap.size+1,2,none⟩=some (.int .i64 0)∧w2.cell? ⟨w.heap.size+1,3,none⟩=some (.string s)∧w2.cell? ⟨w.heap.size+1,4,none⟩=some (.slice none 0 0)∧w2.cell? ⟨w.heap.size,3,none⟩=some (.string s)) (SO.out _ HT0.out) ?_
 change GL _ _ _ _ _ 6 7 (Array.replicate 7 false) _ _
 obtain ⟨X0,hX0⟩:∃X0,W.drew=X0:=⟨_,rfl⟩
 rw [hX0] at HT0 ⊢
 clear hX0 W
 refine gS 0 (.agg #[.int .i64 2,.int .i64 0,.int .i64 0,.string s,.slice none 0 0]) [6] ?_ ?_
 ·intro w2 hSw;obtain ⟨g0,g1,g2,g3,g4,g5⟩:=hSw;go_simp
 refine gj 1 (.pointer (some ⟨w.heap.size,3,none⟩)) ?_
 refine gS 2 (.string s) [6] ?_ ?_
 ·intro w2 hSw;obtain ⟨g0,g1,g2,g3,g4,g5⟩:=hSw;go_simp
 refine gO 3 (fun K hK=>?_)
 go_simp
 refine (name_any s X0).mono ?_
 rintro e X1 ⟨rfl,hx1⟩
 have HT1:=Ω (TB.out _ X1 HT0.out hx1)
 clear hx1
 refine hK.out _ _ (SO.out _ HT1.out) ?_
 clear hK K
 try simp only [sG]
 refine gO 4 (fun K hK=>?_)
 have hY:=HT1.out.1
 obtain ⟨y0,y1,y2,y3,y4⟩:=hY.c5
 obtain ⟨z0,z1,z2,z3,z4⟩:=hY.z5
 clear hY
 go_simp
 have HT2:=Ω (TS.out _ HT1.out)
 refine hK.out _ _ (SO.out _ HT2.out) ?_
 clear hK K
 try simp only [sG]
 refine gj 5 (.int .i64 0) ?_
 refine gL (fun K hK=>?_)
 go_simp
 refine hK.out _ _ ?_
 clear hK K
 try simp only [sG]
 go_wp2
 refine bodyPost_ret (results_cellT2 (p:=2) (q:=3) (r:=4) (ty:=42) (by kernel_rfl) _ _ (w.heap.size+1) 42 _ (0,0) _ (.int .i64 0) (.bool (nameB s)) rfl rfl rfl HT2.out.1 Tryz.underlying42 rfl (by kernel_rfl)) rfl ?_
 exact ⟨rfl,HT2.out.2.2.1⟩
set_option maxHeartbeats 4000000 in
theorem only6 (op n:Int) (s:ByteArray) (m c:Nat) (A:Option Addr) (w:World):Calls Tryz.prog 113 #[.agg #[.int .i64 6,.int .i64 op,.int .i64 n,.string s,.slice A m c]] w fun e w'=>e=.returned (.tuple #[.agg #[.int .i64 6,.int .i64 0,.int .i64 0,.string s,.slice none 0 0],.int .i64 1,.bool (nameB s)])∧Below w.heap.size w w':=by
 go_enter Tryz.func113,Tryz.ntmps113
 go_upto_region 20 with fail
 refine wp_world ?_
 intro W hW
 have hX:Blk W (w.heap.size+1) 42 #[.int .i64 6,.int .i64 0,.int .i64 0,.string s,.slice none 0 0]:=by rw [←hW];exact Blk.new_at _ _ _ (by simp)
 have hG:Blk W w.heap.size 42 #[.int .i64 6,.int .i64 op,.int .i64 n,.string s,.slice A m c]:=by rw [←hW];exact (Blk.new _ _ _).alloc _
 have hB:Below w.heap.size w W:=by rw [←hW];exact below2 _ _ _
 have hs1:w.heap.size+1<W.heap.size:=by rw [←hW];simp
 have SO:Hid (∀X,(fun X=>Blk X (w.heap.size+1) 42 #[.int .i64 6,.int .i64 0,.int .i64 0,.string s,.slice none 0 0]∧Blk X w.heap.size 42 #[.int .i64 6,.int .i64 op,.int .i64 n,.string s,.slice A m c]∧Below w.heap.size w X∧w.heap.size+1<X.heap.size) X→(fun w2=>w2.cell? ⟨w.heap.size+1,0,none⟩=some (.int .i64 6)∧w2.cell? ⟨w.heap.size+1,1,none⟩=some (.int .i64 0)∧w2.cell? ⟨w.heap.size+1,2,none⟩=some (.int .i64 0)∧w2.cell? ⟨w.heap.size+1,3,none⟩=some (.string s)∧w2.cell? ⟨w.heap.size+1,4,none⟩=some (.slice none 0 0)∧w2.cell? ⟨w.heap.size,3,none⟩=some (.string s)) X):=Ω (fun X hb=>⟨hb.1.cell 0,hb.1.cell 1,hb.1.cell 2,hb.1.cell 3,hb.1.cell 4,hb.2.1.cell 3⟩)
 have TB:Hid (∀X Y,(fun X=>Blk X (w.heap.size+1) 42 #[.int .i64 6,.int .i64 0,.int .i64 0,.string s,.slice none 0 0]∧Blk X w.heap.size 42 #[.int .i64 6,.int .i64 op,.int .i64 n,.string s,.slice A m c]∧Below w.heap.size w X∧w.heap.size+1<X.heap.size) X→Below X.heap.size X Y→(fun X=>Blk X (w.heap.size+1) 42 #[.int .i64 6,.int .i64 0,.int .i64 0,.string s,.slice none 0 0]∧Blk X w.heap.size 42 #[.int .i64 6,.int .i64 op,.int .i64 n,.string s,.slice A m c]∧Below w.heap.size w X∧w.heap.size+1<X.heap.size) Y):=Ω (fun X Y h hb=>⟨h.1.below hb h.1.lt,h.2.1.below hb h.2.1.lt,h.2.2.1.trans (hb.mono h.2.2.1.size),ltle h.2.2.2 hb.size⟩)
 have TS:Hid (∀X,(fun X=>Blk X (w.heap.size+1) 42 #[.int .i64 6,.int .i64 0,.int .i64 0,.string s,.slice none 0 0]∧Blk X w.heap.size 42 #[.int .i64 6,.int .i64 op,.int .i64 n,.string s,.slice A m c]∧Below w.heap.size w X∧w.heap.size+1<X.heap.size) X→(fun X=>Blk X (w.heap.size+1) 42 #[.int .i64 6,.int .i64 0,.int .i64 0,.string s,.slice none 0 0]∧Blk X w.heap.size 42 #[.int .i64 6,.int .i64 op,.int .i64 n,.string s,.slice A m c]∧Below w.heap.size w X∧w.heap.size+1<X.heap.size) (((((X.setCell ⟨w.heap.size+1,0,none⟩ (.int .i64 6)).setCell ⟨w.heap.size+1,1,none⟩ (.int .i64 0)).setCell ⟨w.heap.size+1,2,none⟩ (.int .i64 0)).setCell ⟨w.heap.size+1,3,none⟩ (.string s)).setCell ⟨w.heap.size+1,4,none⟩ (.slice none 0 0))):=Ω (fun X h=>⟨(((((h.1.set_ 0 _).set_ 1 _).set_ 2 _).set_ 3 _).set_ 4 _),(((((h.2.1.far (by simp) _).far (by simp) _).far (by simp) _).far (by simp) _).far (by simp) _),(((((h.2.2.1.setCell (p:=⟨w.heap.size+1,0,none⟩) (Nat.le_succ _) _).setCell (p:=⟨w.heap.size+1,1,none⟩) (Nat.le_succ _) _).setCell (p:=⟨w.heap.size+1,2,none⟩) (Nat.le_succ _) _).setCell (p:=⟨w.heap.size+1,3,none⟩) (Nat.le_succ _) _).setCell (p:=⟨w.heap.size+1,4,none⟩) (Nat.le_succ _) _),by simpa using h.2.2.2⟩)
 have HT0:Hid ((fun X=>Blk X (w.heap.size+1) 42 #[.int .i64 6,.int .i64 0,.int .i64 0,.string s,.slice none 0 0]∧Blk X w.heap.size 42 #[.int .i64 6,.int .i64 op,.int .i64 n,.string s,.slice A m c]∧Below w.heap.size w X∧w.heap.size+1<X.heap.size) W.drew):=Ω ⟨hX.drew,hG.drew,hB.drew,hs1⟩
 clear hW hX hG hB hs1
 refine wp_region_G 6 (fun w2=>w2.cell? ⟨w.heap.size+1,0,none⟩=some (.int .i64 6)∧w2.cell? ⟨w.heap.size+1,1,none⟩=some (.int .i64 0)∧w2.cell? ⟨w.heap.size+1,2,none⟩=some (.int .i64 0)∧w2.cell? ⟨w.heap.size+1,3,none⟩=some (.string s)∧w2.cell? ⟨w.heap.size+1,4,none⟩=some (.slice none 0 0)∧w2.cell? ⟨w.heap.size,3,none⟩=some (.string s)) (SO.out _ HT0.out) ?_
 change GL _ _ _ _ _ 6 7 (Array.replicate 7 false) _ _
 obtain ⟨X0,hX0⟩:∃X0,W.drew=X0:=⟨_,rfl⟩
 rw [hX0] at HT0 ⊢
 clear hX0 W
 refine gS 0 (.agg #[.int .i64 6,.int .i64 0,.int .i64 0,.string s,.slice none 0 0]) [6] ?_ ?_
 ·intro w2 hSw;obtain ⟨g0,g1,g2,g3,g4,g5⟩:=hSw;go_simp
 refine gj 1 (.pointer (some ⟨w.heap.size,3,none⟩)) ?_
 refine gS 2 (.string s) [6] ?_ ?_
 ·intro w2 hSw;obtain ⟨g0,g1,g2,g3,g4,g5⟩:=hSw;go_simp
 refine gO 3 (fun K hK=>?_)
 go_simp
 refine (name_any s X0).mono ?_
 rintro e X1 ⟨rfl,hx1⟩
 have HT1:=Ω (TB.out _ X1 HT0.out hx1)
 clear hx1
 refine hK.out _ _ (SO.out _ HT1.out) ?_
 clear hK K
 try simp only [sG]
 refine gO 4 (fun K hK=>?_)
 have hY:=HT1.out.1
 obtain ⟨y0,y1,y2,y3,y4⟩:=hY.c5
 obtain ⟨z0,z1,z2,z3,z4⟩:=hY.z5
 clear hY
 go_simp
 have HT2:=Ω (TS.out _ HT1.out)
 refine hK.out _ _ (SO.out _ HT2.out) ?_
 clear hK K
 try simp only [sG]
 refine gj 5 (.int .i64 1) ?_
 refine gL (fun K hK=>?_)
 go_simp
 refine hK.out _ _ ?_
 clear hK K
 try simp only [sG]
 go_wp2
 refine bodyPost_ret (results_cellT2 (p:=2) (q:=3) (r:=4) (ty:=42) (by kernel_rfl) _ _ (w.heap.size+1) 42 _ (0,0) _ (.int .i64 1) (.bool (nameB s)) rfl rfl rfl HT2.out.1 Tryz.underlying42 rfl (by kernel_rfl)) rfl ?_
 exact ⟨rfl,HT2.out.2.2.1⟩
set_option maxHeartbeats 4000000 in
theorem only3a (n:Int) (s:ByteArray) (m c:Nat) (A:Option Addr) (w:World):Calls Tryz.prog 113 #[.agg #[.int .i64 3,.int .i64 17,.int .i64 n,.string s,.slice A m c]] w fun e w'=>e=.returned (.tuple #[.agg #[.int .i64 3,.int .i64 17,.int .i64 0,.string ⟨#[]⟩,.slice none 0 0],.int .i64 1,.bool true])∧Below w.heap.size w w':=by
 go_enter Tryz.func113,Tryz.ntmps113
 go_upto_region 11 with fail
 refine wp_world ?_
 intro W hW
 have hX:Blk W (w.heap.size+1) 42 #[.int .i64 3,.int .i64 17,.int .i64 0,.string ⟨#[]⟩,.slice none 0 0]:=by rw [←hW];exact Blk.new_at _ _ _ (by simp)
 have hG:Blk W w.heap.size 42 #[.int .i64 3,.int .i64 17,.int .i64 n,.string s,.slice A m c]:=by rw [←hW];exact (Blk.new _ _ _).alloc _
 have hB:Below w.heap.size w W:=by rw [←hW];exact below2 _ _ _
 have hs1:w.heap.size+1<W.heap.size:=by rw [←hW];simp
 have SO:Hid (∀X,(fun X=>Blk X (w.heap.size+1) 42 #[.int .i64 3,.int .i64 17,.int .i64 0,.string ⟨#[]⟩,.slice none 0 0]∧Blk X w.heap.size 42 #[.int .i64 3,.int .i64 17,.int .i64 n,.string s,.slice A m c]∧Below w.heap.size w X∧w.heap.size+1<X.heap.size) X→(fun w2=>w2.cell? ⟨w.heap.size+1,0,none⟩=some (.int .i64 3)∧w2.cell? ⟨w.heap.size+1,1,none⟩=some (.int .i64 17)∧w2.cell? ⟨w.heap.size+1,2,none⟩=some (.int .i64 0)∧w2.cell? ⟨w.heap.size+1,3,none⟩=some (.string ⟨#[]⟩)∧w2.cell? ⟨w.heap.size+1,4,none⟩=some (.slice none 0 0)∧w2.cell? ⟨w.heap.size,1,none⟩=some (.int .i64 17)) X):=Ω (fun X hb=>⟨hb.1.cell 0,hb.1.cell 1,hb.1.cell 2,hb.1.cell 3,hb.1.cell 4,hb.2.1.cell 1⟩)
 have TB:Hid (∀X Y,(fun X=>Blk X (w.heap.size+1) 42 #[.int .i64 3,.int .i64 17,.int .i64 0,.string ⟨#[]⟩,.slice none 0 0]∧Blk X w.heap.size 42 #[.int .i64 3,.int .i64 17,.int .i64 n,.string s,.slice A m c]∧Below w.heap.size w X∧w.heap.size+1<X.heap.size) X→Below X.heap.size X Y→(fun X=>Blk X (w.heap.size+1) 42 #[.int .i64 3,.int .i64 17,.int .i64 0,.string ⟨#[]⟩,.slice none 0 0]∧Blk X w.heap.size 42 #[.int .i64 3,.int .i64 17,.int .i64 n,.string s,.slice A m c]∧Below w.heap.size w X∧w.heap.size+1<X.heap.size) Y):=Ω (fun X Y h hb=>⟨h.1.below hb h.1.lt,h.2.1.below hb h.2.1.lt,h.2.2.1.trans (hb.mono h.2.2.1.size),ltle h.2.2.2 hb.size⟩)
 have TS:Hid (∀X,(fun X=>Blk X (w.heap.size+1) 42 #[.int .i64 3,.int .i64 17,.int .i64 0,.string ⟨#[]⟩,.slice none 0 0]∧Blk X w.heap.size 42 #[.int .i64 3,.int .i64 17,.int .i64 n,.string s,.slice A m c]∧Below w.heap.size w X∧w.heap.size+1<X.heap.size) X→(fun X=>Blk X (w.heap.size+1) 42 #[.int .i64 3,.int .i64 17,.int .i64 0,.string ⟨#[]⟩,.slice none 0 0]∧Blk X w.heap.size 42 #[.int .i64 3,.int .i64 17,.int .i64 n,.string s,.slice A m c]∧Below w.heap.size w X∧w.heap.size+1<X.heap.size) (((((X.setCell ⟨w.heap.size+1,0,none⟩ (.int .i64 3)).setCell ⟨w.heap.size+1,1,none⟩ (.int .i64 17)).setCell ⟨w.heap.size+1,2,none⟩ (.int .i64 0)).setCell ⟨w.heap.size+1,3,none⟩ (.string ⟨#[]⟩)).setCell ⟨w.heap.size+1,4,none⟩ (.slice none 0 0))):=Ω (fun X h=>⟨(((((h.1.set_ 0 _).set_ 1 _).set_ 2 _).set_ 3 _).set_ 4 _),(((((h.2.1.far (by simp) _).far (by simp) _).far (by simp) _).far (by simp) _).far (by simp) _),(((((h.2.2.1.setCell (p:=⟨w.heap.size+1,0,none⟩) (Nat.le_succ _) _).setCell (p:=⟨w.heap.size+1,1,none⟩) (Nat.le_succ _) _).setCell (p:=⟨w.heap.size+1,2,none⟩) (Nat.le_succ _) _).setCell (p:=⟨w.heap.size+1,3,none⟩) (Nat.le_succ _) _).setCell (p:=⟨w.heap.size+1,4,none⟩) (Nat.le_succ _) _),by simpa using h.2.2.2⟩)
 have HT0:Hid ((fun X=>Blk X (w.heap.size+1) 42 #[.int .i64 3,.int .i64 17,.int .i64 0,.string ⟨#[]⟩,.slice none 0 0]∧Blk X w.heap.size 42 #[.int .i64 3,.int .i64 17,.int .i64 n,.string s,.slice A m c]∧Below w.heap.size w X∧w.heap.size+1<X.heap.size) W.drew):=Ω ⟨hX.drew,hG.drew,hB.drew,hs1⟩
 clear hW hX hG hB hs1
 refine wp_region_G 16 (fun w2=>w2.cell? ⟨w.heap.size+1,0,none⟩=some (.int .i64 3)∧w2.cell? ⟨w.heap.size+1,1,none⟩=some (.int .i64 17)∧w2.cell? ⟨w.heap.size+1,2,none⟩=some (.int .i64 0)∧w2.cell? ⟨w.heap.size+1,3,none⟩=some (.string ⟨#[]⟩)∧w2.cell? ⟨w.heap.size+1,4,none⟩=some (.slice none 0 0)∧w2.cell? ⟨w.heap.size,1,none⟩=some (.int .i64 17)) (SO.out _ HT0.out) ?_
 change GL _ _ _ _ _ 16 17 (Array.replicate 17 false) _ _
 obtain ⟨X0,hX0⟩:∃X0,W.drew=X0:=⟨_,rfl⟩
 rw [hX0] at HT0 ⊢
 clear hX0 W
 refine gS 0 (.agg #[.int .i64 3,.int .i64 17,.int .i64 0,.string ⟨#[]⟩,.slice none 0 0]) [16] ?_ ?_
 ·intro w2 hSw;obtain ⟨g0,g1,g2,g3,g4,g5⟩:=hSw;go_simp
 refine gj 1 (.pointer (some ⟨w.heap.size,1,none⟩)) ?_
 refine gS 2 (.int .i64 17) [16] ?_ ?_
 ·intro w2 hSw;obtain ⟨g0,g1,g2,g3,g4,g5⟩:=hSw;go_simp
 refine gj 3 (.bool true) ?_
 refine gj 4 (.bool true) ?_
 refine gN 5 ?_
 refine gN 6 ?_
 refine gN 7 ?_
 refine gj 8 (.bool true) ?_
 refine gj 9 (.bool true) ?_
 refine gN 10 ?_
 refine gN 11 ?_
 refine gN 12 ?_
 refine gj 13 (.bool true) ?_
 refine gO 14 (fun K hK=>?_)
 have hY:=HT0.out.1
 obtain ⟨y0,y1,y2,y3,y4⟩:=hY.c5
 obtain ⟨z0,z1,z2,z3,z4⟩:=hY.z5
 clear hY
 go_simp
 have HT2:=Ω (TS.out _ HT0.out)
 refine hK.out _ _ (SO.out _ HT2.out) ?_
 clear hK K
 try simp only [sG]
 refine gj 15 (.int .i64 1) ?_
 refine gL (fun K hK=>?_)
 go_simp
 refine hK.out _ _ ?_
 clear hK K
 try simp only [sG]
 go_wp2
 refine bodyPost_ret (results_cellT2 (p:=2) (q:=3) (r:=4) (ty:=42) (by kernel_rfl) _ _ (w.heap.size+1) 42 _ (0,0) _ (.int .i64 1) (.bool true) rfl rfl rfl HT2.out.1 Tryz.underlying42 rfl (by kernel_rfl)) rfl ?_
 exact ⟨rfl,HT2.out.2.2.1⟩
set_option maxHeartbeats 4000000 in
theorem only3b (n:Int) (s:ByteArray) (m c:Nat) (A:Option Addr) (w:World):Calls Tryz.prog 113 #[.agg #[.int .i64 3,.int .i64 18,.int .i64 n,.string s,.slice A m c]] w fun e w'=>e=.returned (.tuple #[.agg #[.int .i64 3,.int .i64 18,.int .i64 0,.string ⟨#[]⟩,.slice none 0 0],.int .i64 1,.bool true])∧Below w.heap.size w w':=by
 go_enter Tryz.func113,Tryz.ntmps113
 go_upto_region 11 with fail
 refine wp_world ?_
 intro W hW
 have hX:Blk W (w.heap.size+1) 42 #[.int .i64 3,.int .i64 18,.int .i64 0,.string ⟨#[]⟩,.slice none 0 0]:=by rw [←hW];exact Blk.new_at _ _ _ (by simp)
 have hG:Blk W w.heap.size 42 #[.int .i64 3,.int .i64 18,.int .i64 n,.string s,.slice A m c]:=by rw [←hW];exact (Blk.new _ _ _).alloc _
 have hB:Below w.heap.size w W:=by rw [←hW];exact below2 _ _ _
 have hs1:w.heap.size+1<W.heap.size:=by rw [←hW];simp
 have SO:Hid (∀X,(fun X=>Blk X (w.heap.size+1) 42 #[.int .i64 3,.int .i64 18,.int .i64 0,.string ⟨#[]⟩,.slice none 0 0]∧Blk X w.heap.size 42 #[.int .i64 3,.int .i64 18,.int .i64 n,.string s,.slice A m c]∧Below w.heap.size w X∧w.heap.size+1<X.heap.size) X→(fun w2=>w2.cell? ⟨w.heap.size+1,0,none⟩=some (.int .i64 3)∧w2.cell? ⟨w.heap.size+1,1,none⟩=some (.int .i64 18)∧w2.cell? ⟨w.heap.size+1,2,none⟩=some (.int .i64 0)∧w2.cell? ⟨w.heap.size+1,3,none⟩=some (.string ⟨#[]⟩)∧w2.cell? ⟨w.heap.size+1,4,none⟩=some (.slice none 0 0)∧w2.cell? ⟨w.heap.size,1,none⟩=some (.int .i64 18)) X):=Ω (fun X hb=>⟨hb.1.cell 0,hb.1.cell 1,hb.1.cell 2,hb.1.cell 3,hb.1.cell 4,hb.2.1.cell 1⟩)
 have TB:Hid (∀X Y,(fun X=>Blk X (w.heap.size+1) 42 #[.int .i64 3,.int .i64 18,.int .i64 0,.string ⟨#[]⟩,.slice none 0 0]∧Blk X w.heap.size 42 #[.int .i64 3,.int .i64 18,.int .i64 n,.string s,.slice A m c]∧Below w.heap.size w X∧w.heap.size+1<X.heap.size) X→Below X.heap.size X Y→(fun X=>Blk X (w.heap.size+1) 42 #[.int .i64 3,.int .i64 18,.int .i64 0,.string ⟨#[]⟩,.slice none 0 0]∧Blk X w.heap.size 42 #[.int .i64 3,.int .i64 18,.int .i64 n,.string s,.slice A m c]∧Below w.heap.size w X∧w.heap.size+1<X.heap.size) Y):=Ω (fun X Y h hb=>⟨h.1.below hb h.1.lt,h.2.1.below hb h.2.1.lt,h.2.2.1.trans (hb.mono h.2.2.1.size),ltle h.2.2.2 hb.size⟩)
 have TS:Hid (∀X,(fun X=>Blk X (w.heap.size+1) 42 #[.int .i64 3,.int .i64 18,.int .i64 0,.string ⟨#[]⟩,.slice none 0 0]∧Blk X w.heap.size 42 #[.int .i64 3,.int .i64 18,.int .i64 n,.string s,.slice A m c]∧Below w.heap.size w X∧w.heap.size+1<X.heap.size) X→(fun X=>Blk X (w.heap.size+1) 42 #[.int .i64 3,.int .i64 18,.int .i64 0,.string ⟨#[]⟩,.slice none 0 0]∧Blk X w.heap.size 42 #[.int .i64 3,.int .i64 18,.int .i64 n,.string s,.slice A m c]∧Below w.heap.size w X∧w.heap.size+1<X.heap.size) (((((X.setCell ⟨w.heap.size+1,0,none⟩ (.int .i64 3)).setCell ⟨w.heap.size+1,1,none⟩ (.int .i64 18)).setCell ⟨w.heap.size+1,2,none⟩ (.int .i64 0)).setCell ⟨w.heap.size+1,3,none⟩ (.string ⟨#[]⟩)).setCell ⟨w.heap.size+1,4,none⟩ (.slice none 0 0))):=Ω (fun X h=>⟨(((((h.1.set_ 0 _).set_ 1 _).set_ 2 _).set_ 3 _).set_ 4 _),(((((h.2.1.far (by simp) _).far (by simp) _).far (by simp) _).far (by simp) _).far (by simp) _),(((((h.2.2.1.setCell (p:=⟨w.heap.size+1,0,none⟩) (Nat.le_succ _) _).setCell (p:=⟨w.heap.size+1,1,none⟩) (Nat.le_succ _) _).setCell (p:=⟨w.heap.size+1,2,none⟩) (Nat.le_succ _) _).setCell (p:=⟨w.heap.size+1,3,none⟩) (Nat.le_succ _) _).setCell (p:=⟨w.heap.size+1,4,none⟩) (Nat.le_succ _) _),by simpa using h.2.2.2⟩)
 have HT0:Hid ((fun X=>Blk X (w.heap.size+1) 42 #[.int .i64 3,.int .i64 18,.int .i64 0,.string ⟨#[]⟩,.slice none 0 0]∧Blk X w.heap.size 42 #[.int .i64 3,.int .i64 18,.int .i64 n,.string s,.slice A m c]∧Below w.heap.size w X∧w.heap.size+1<X.heap.size) W.drew):=Ω ⟨hX.drew,hG.drew,hB.drew,hs1⟩
 clear hW hX hG hB hs1
 refine wp_region_G 16 (fun w2=>w2.cell? ⟨w.heap.size+1,0,none⟩=some (.int .i64 3)∧w2.cell? ⟨w.heap.size+1,1,none⟩=some (.int .i64 18)∧w2.cell? ⟨w.heap.size+1,2,none⟩=some (.int .i64 0)∧w2.cell? ⟨w.heap.size+1,3,none⟩=some (.string ⟨#[]⟩)∧w2.cell? ⟨w.heap.size+1,4,none⟩=some (.slice none 0 0)∧w2.cell? ⟨w.heap.size,1,none⟩=some (.int .i64 18)) (SO.out _ HT0.out) ?_
 change GL _ _ _ _ _ 16 17 (Array.replicate 17 false) _ _
 obtain ⟨X0,hX0⟩:∃X0,W.drew=X0:=⟨_,rfl⟩
 rw [hX0] at HT0 ⊢
 clear hX0 W
 refine gS 0 (.agg #[.int .i64 3,.int .i64 18,.int .i64 0,.string ⟨#[]⟩,.slice none 0 0]) [16] ?_ ?_
 ·intro w2 hSw;obtain ⟨g0,g1,g2,g3,g4,g5⟩:=hSw;go_simp
 refine gj 1 (.pointer (some ⟨w.heap.size,1,none⟩)) ?_
 refine gS 2 (.int .i64 18) [16] ?_ ?_
 ·intro w2 hSw;obtain ⟨g0,g1,g2,g3,g4,g5⟩:=hSw;go_simp
 refine gj 3 (.bool false) ?_
 refine gj 4 (.bool false) ?_
 refine gj 5 (.pointer (some ⟨w.heap.size,1,none⟩)) ?_
 refine gS 6 (.int .i64 18) [16] ?_ ?_
 ·intro w2 hSw;obtain ⟨g0,g1,g2,g3,g4,g5⟩:=hSw;go_simp
 refine gj 7 (.bool true) ?_
 refine gj 8 (.bool true) ?_
 refine gj 9 (.bool true) ?_
 refine gN 10 ?_
 refine gN 11 ?_
 refine gN 12 ?_
 refine gj 13 (.bool true) ?_
 refine gO 14 (fun K hK=>?_)
 have hY:=HT0.out.1
 obtain ⟨y0,y1,y2,y3,y4⟩:=hY.c5
 obtain ⟨z0,z1,z2,z3,z4⟩:=hY.z5
 clear hY
 go_simp
 have HT2:=Ω (TS.out _ HT0.out)
 refine hK.out _ _ (SO.out _ HT2.out) ?_
 clear hK K
 try simp only [sG]
 refine gj 15 (.int .i64 1) ?_
 refine gL (fun K hK=>?_)
 go_simp
 refine hK.out _ _ ?_
 clear hK K
 try simp only [sG]
 go_wp2
 refine bodyPost_ret (results_cellT2 (p:=2) (q:=3) (r:=4) (ty:=42) (by kernel_rfl) _ _ (w.heap.size+1) 42 _ (0,0) _ (.int .i64 1) (.bool true) rfl rfl rfl HT2.out.1 Tryz.underlying42 rfl (by kernel_rfl)) rfl ?_
 exact ⟨rfl,HT2.out.2.2.1⟩
set_option maxHeartbeats 4000000 in
theorem only3c (n:Int) (s:ByteArray) (m c:Nat) (A:Option Addr) (w:World):Calls Tryz.prog 113 #[.agg #[.int .i64 3,.int .i64 19,.int .i64 n,.string s,.slice A m c]] w fun e w'=>e=.returned (.tuple #[.agg #[.int .i64 3,.int .i64 19,.int .i64 0,.string ⟨#[]⟩,.slice none 0 0],.int .i64 1,.bool true])∧Below w.heap.size w w':=by
 go_enter Tryz.func113,Tryz.ntmps113
 go_upto_region 11 with fail
 refine wp_world ?_
 intro W hW
 have hX:Blk W (w.heap.size+1) 42 #[.int .i64 3,.int .i64 19,.int .i64 0,.string ⟨#[]⟩,.slice none 0 0]:=by rw [←hW];exact Blk.new_at _ _ _ (by simp)
 have hG:Blk W w.heap.size 42 #[.int .i64 3,.int .i64 19,.int .i64 n,.string s,.slice A m c]:=by rw [←hW];exact (Blk.new _ _ _).alloc _
 have hB:Below w.heap.size w W:=by rw [←hW];exact below2 _ _ _
 have hs1:w.heap.size+1<W.heap.size:=by rw [←hW];simp
 have SO:Hid (∀X,(fun X=>Blk X (w.heap.size+1) 42 #[.int .i64 3,.int .i64 19,.int .i64 0,.string ⟨#[]⟩,.slice none 0 0]∧Blk X w.heap.size 42 #[.int .i64 3,.int .i64 19,.int .i64 n,.string s,.slice A m c]∧Below w.heap.size w X∧w.heap.size+1<X.heap.size) X→(fun w2=>w2.cell? ⟨w.heap.size+1,0,none⟩=some (.int .i64 3)∧w2.cell? ⟨w.heap.size+1,1,none⟩=some (.int .i64 19)∧w2.cell? ⟨w.heap.size+1,2,none⟩=some (.int .i64 0)∧w2.cell? ⟨w.heap.size+1,3,none⟩=some (.string ⟨#[]⟩)∧w2.cell? ⟨w.heap.size+1,4,none⟩=some (.slice none 0 0)∧w2.cell? ⟨w.heap.size,1,none⟩=some (.int .i64 19)) X):=Ω (fun X hb=>⟨hb.1.cell 0,hb.1.cell 1,hb.1.cell 2,hb.1.cell 3,hb.1.cell 4,hb.2.1.cell 1⟩)
 have TB:Hid (∀X Y,(fun X=>Blk X (w.heap.size+1) 42 #[.int .i64 3,.int .i64 19,.int .i64 0,.string ⟨#[]⟩,.slice none 0 0]∧Blk X w.heap.size 42 #[.int .i64 3,.int .i64 19,.int .i64 n,.string s,.slice A m c]∧Below w.heap.size w X∧w.heap.size+1<X.heap.size) X→Below X.heap.size X Y→(fun X=>Blk X (w.heap.size+1) 42 #[.int .i64 3,.int .i64 19,.int .i64 0,.string ⟨#[]⟩,.slice none 0 0]∧Blk X w.heap.size 42 #[.int .i64 3,.int .i64 19,.int .i64 n,.string s,.slice A m c]∧Below w.heap.size w X∧w.heap.size+1<X.heap.size) Y):=Ω (fun X Y h hb=>⟨h.1.below hb h.1.lt,h.2.1.below hb h.2.1.lt,h.2.2.1.trans (hb.mono h.2.2.1.size),ltle h.2.2.2 hb.size⟩)
 have TS:Hid (∀X,(fun X=>Blk X (w.heap.size+1) 42 #[.int .i64 3,.int .i64 19,.int .i64 0,.string ⟨#[]⟩,.slice none 0 0]∧Blk X w.heap.size 42 #[.int .i64 3,.int .i64 19,.int .i64 n,.string s,.slice A m c]∧Below w.heap.size w X∧w.heap.size+1<X.heap.size) X→(fun X=>Blk X (w.heap.size+1) 42 #[.int .i64 3,.int .i64 19,.int .i64 0,.string ⟨#[]⟩,.slice none 0 0]∧Blk X w.heap.size 42 #[.int .i64 3,.int .i64 19,.int .i64 n,.string s,.slice A m c]∧Below w.heap.size w X∧w.heap.size+1<X.heap.size) (((((X.setCell ⟨w.heap.size+1,0,none⟩ (.int .i64 3)).setCell ⟨w.heap.size+1,1,none⟩ (.int .i64 19)).setCell ⟨w.heap.size+1,2,none⟩ (.int .i64 0)).setCell ⟨w.heap.size+1,3,none⟩ (.string ⟨#[]⟩)).setCell ⟨w.heap.size+1,4,none⟩ (.slice none 0 0))):=Ω (fun X h=>⟨(((((h.1.set_ 0 _).set_ 1 _).set_ 2 _).set_ 3 _).set_ 4 _),(((((h.2.1.far (by simp) _).far (by simp) _).far (by simp) _).far (by simp) _).far (by simp) _),(((((h.2.2.1.setCell (p:=⟨w.heap.size+1,0,none⟩) (Nat.le_succ _) _).setCell (p:=⟨w.heap.size+1,1,none⟩) (Nat.le_succ _) _).setCell (p:=⟨w.heap.size+1,2,none⟩) (Nat.le_succ _) _).setCell (p:=⟨w.heap.size+1,3,none⟩) (Nat.le_succ _) _).setCell (p:=⟨w.heap.size+1,4,none⟩) (Nat.le_succ _) _),by simpa using h.2.2.2⟩)
 have HT0:Hid ((fun X=>Blk X (w.heap.size+1) 42 #[.int .i64 3,.int .i64 19,.int .i64 0,.string ⟨#[]⟩,.slice none 0 0]∧Blk X w.heap.size 42 #[.int .i64 3,.int .i64 19,.int .i64 n,.string s,.slice A m c]∧Below w.heap.size w X∧w.heap.size+1<X.heap.size) W.drew):=Ω ⟨hX.drew,hG.drew,hB.drew,hs1⟩
 clear hW hX hG hB hs1
 refine wp_region_G 16 (fun w2=>w2.cell? ⟨w.heap.size+1,0,none⟩=some (.int .i64 3)∧w2.cell? ⟨w.heap.size+1,1,none⟩=some (.int .i64 19)∧w2.cell? ⟨w.heap.size+1,2,none⟩=some (.int .i64 0)∧w2.cell? ⟨w.heap.size+1,3,none⟩=some (.string ⟨#[]⟩)∧w2.cell? ⟨w.heap.size+1,4,none⟩=some (.slice none 0 0)∧w2.cell? ⟨w.heap.size,1,none⟩=some (.int .i64 19)) (SO.out _ HT0.out) ?_
 change GL _ _ _ _ _ 16 17 (Array.replicate 17 false) _ _
 obtain ⟨X0,hX0⟩:∃X0,W.drew=X0:=⟨_,rfl⟩
 rw [hX0] at HT0 ⊢
 clear hX0 W
 refine gS 0 (.agg #[.int .i64 3,.int .i64 19,.int .i64 0,.string ⟨#[]⟩,.slice none 0 0]) [16] ?_ ?_
 ·intro w2 hSw;obtain ⟨g0,g1,g2,g3,g4,g5⟩:=hSw;go_simp
 refine gj 1 (.pointer (some ⟨w.heap.size,1,none⟩)) ?_
 refine gS 2 (.int .i64 19) [16] ?_ ?_
 ·intro w2 hSw;obtain ⟨g0,g1,g2,g3,g4,g5⟩:=hSw;go_simp
 refine gj 3 (.bool false) ?_
 refine gj 4 (.bool false) ?_
 refine gj 5 (.pointer (some ⟨w.heap.size,1,none⟩)) ?_
 refine gS 6 (.int .i64 19) [16] ?_ ?_
 ·intro w2 hSw;obtain ⟨g0,g1,g2,g3,g4,g5⟩:=hSw;go_simp
 refine gj 7 (.bool false) ?_
 refine gj 8 (.bool false) ?_
 refine gj 9 (.bool false) ?_
 refine gj 10 (.pointer (some ⟨w.heap.size,1,none⟩)) ?_
 refine gS 11 (.int .i64 19) [16] ?_ ?_
 ·intro w2 hSw;obtain ⟨g0,g1,g2,g3,g4,g5⟩:=hSw;go_simp
 refine gj 12 (.bool true) ?_
 refine gj 13 (.bool true) ?_
 refine gO 14 (fun K hK=>?_)
 have hY:=HT0.out.1
 obtain ⟨y0,y1,y2,y3,y4⟩:=hY.c5
 obtain ⟨z0,z1,z2,z3,z4⟩:=hY.z5
 clear hY
 go_simp
 have HT2:=Ω (TS.out _ HT0.out)
 refine hK.out _ _ (SO.out _ HT2.out) ?_
 clear hK K
 try simp only [sG]
 refine gj 15 (.int .i64 1) ?_
 refine gL (fun K hK=>?_)
 go_simp
 refine hK.out _ _ ?_
 clear hK K
 try simp only [sG]
 go_wp2
 refine bodyPost_ret (results_cellT2 (p:=2) (q:=3) (r:=4) (ty:=42) (by kernel_rfl) _ _ (w.heap.size+1) 42 _ (0,0) _ (.int .i64 1) (.bool true) rfl rfl rfl HT2.out.1 Tryz.underlying42 rfl (by kernel_rfl)) rfl ?_
 exact ⟨rfl,HT2.out.2.2.1⟩
set_option maxHeartbeats 4000000 in
theorem only3d (op n:Int) (s:ByteArray) (m c:Nat) (A:Option Addr) (w:World) (h1:(op == 17)=false) (h2:(op == 18)=false) (h3:(op == 19)=false):Calls Tryz.prog 113 #[.agg #[.int .i64 3,.int .i64 op,.int .i64 n,.string s,.slice A m c]] w fun e w'=>e=.returned (.tuple #[.agg #[.int .i64 3,.int .i64 op,.int .i64 0,.string ⟨#[]⟩,.slice none 0 0],.int .i64 1,.bool false])∧Below w.heap.size w w':=by
 go_enter Tryz.func113,Tryz.ntmps113
 go_upto_region 11 with fail
 refine wp_world ?_
 intro W hW
 have hX:Blk W (w.heap.size+1) 42 #[.int .i64 3,.int .i64 op,.int .i64 0,.string ⟨#[]⟩,.slice none 0 0]:=by rw [←hW];exact Blk.new_at _ _ _ (by simp)
 have hG:Blk W w.heap.size 42 #[.int .i64 3,.int .i64 op,.int .i64 n,.string s,.slice A m c]:=by rw [←hW];exact (Blk.new _ _ _).alloc _
 have hB:Below w.heap.size w W:=by rw [←hW];exact below2 _ _ _
 have hs1:w.heap.size+1<W.heap.size:=by rw [←hW];simp
 have SO:Hid (∀X,(fun X=>Blk X (w.heap.size+1) 42 #[.int .i64 3,.int .i64 op,.int .i64 0,.string ⟨#[]⟩,.slice none 0 0]∧Blk X w.heap.size 42 #[.int .i64 3,.int .i64 op,.int .i64 n,.string s,.slice A m c]∧Below w.heap.size w X∧w.heap.size+1<X.heap.size) X→(fun w2=>w2.cell? ⟨w.heap.size+1,0,none⟩=some (.int .i64 3)∧w2.cell? ⟨w.heap.size+1,1,none⟩=some (.int .i64 op)∧w2.cell? ⟨w.heap.size+1,2,none⟩=some (.int .i64 0)∧w2.cell? ⟨w.heap.size+1,3,none⟩=some (.string ⟨#[]⟩)∧w2.cell? ⟨w.heap.size+1,4,none⟩=some (.slice none 0 0)∧w2.cell? ⟨w.heap.size,1,none⟩=some (.int .i64 op)) X):=Ω (fun X hb=>⟨hb.1.cell 0,hb.1.cell 1,hb.1.cell 2,hb.1.cell 3,hb.1.cell 4,hb.2.1.cell 1⟩)
 have TB:Hid (∀X Y,(fun X=>Blk X (w.heap.size+1) 42 #[.int .i64 3,.int .i64 op,.int .i64 0,.string ⟨#[]⟩,.slice none 0 0]∧Blk X w.heap.size 42 #[.int .i64 3,.int .i64 op,.int .i64 n,.string s,.slice A m c]∧Below w.heap.size w X∧w.heap.size+1<X.heap.size) X→Below X.heap.size X Y→(fun X=>Blk X (w.heap.size+1) 42 #[.int .i64 3,.int .i64 op,.int .i64 0,.string ⟨#[]⟩,.slice none 0 0]∧Blk X w.heap.size 42 #[.int .i64 3,.int .i64 op,.int .i64 n,.string s,.slice A m c]∧Below w.heap.size w X∧w.heap.size+1<X.heap.size) Y):=Ω (fun X Y h hb=>⟨h.1.below hb h.1.lt,h.2.1.below hb h.2.1.lt,h.2.2.1.trans (hb.mono h.2.2.1.size),ltle h.2.2.2 hb.size⟩)
 have TS:Hid (∀X,(fun X=>Blk X (w.heap.size+1) 42 #[.int .i64 3,.int .i64 op,.int .i64 0,.string ⟨#[]⟩,.slice none 0 0]∧Blk X w.heap.size 42 #[.int .i64 3,.int .i64 op,.int .i64 n,.string s,.slice A m c]∧Below w.heap.size w X∧w.heap.size+1<X.heap.size) X→(fun X=>Blk X (w.heap.size+1) 42 #[.int .i64 3,.int .i64 op,.int .i64 0,.string ⟨#[]⟩,.slice none 0 0]∧Blk X w.heap.size 42 #[.int .i64 3,.int .i64 op,.int .i64 n,.string s,.slice A m c]∧Below w.heap.size w X∧w.heap.size+1<X.heap.size) (((((X.setCell ⟨w.heap.size+1,0,none⟩ (.int .i64 3)).setCell ⟨w.heap.size+1,1,none⟩ (.int .i64 op)).setCell ⟨w.heap.size+1,2,none⟩ (.int .i64 0)).setCell ⟨w.heap.size+1,3,none⟩ (.string ⟨#[]⟩)).setCell ⟨w.heap.size+1,4,none⟩ (.slice none 0 0))):=Ω (fun X h=>⟨(((((h.1.set_ 0 _).set_ 1 _).set_ 2 _).set_ 3 _).set_ 4 _),(((((h.2.1.far (by simp) _).far (by simp) _).far (by simp) _).far (by simp) _).far (by simp) _),(((((h.2.2.1.setCell (p:=⟨w.heap.size+1,0,none⟩) (Nat.le_succ _) _).setCell (p:=⟨w.heap.size+1,1,none⟩) (Nat.le_succ _) _).setCell (p:=⟨w.heap.size+1,2,none⟩) (Nat.le_succ _) _).setCell (p:=⟨w.heap.size+1,3,none⟩) (Nat.le_succ _) _).setCell (p:=⟨w.heap.size+1,4,none⟩) (Nat.le_succ _) _),by simpa using h.2.2.2⟩)
 have HT0:Hid ((fun X=>Blk X (w.heap.size+1) 42 #[.int .i64 3,.int .i64 op,.int .i64 0,.string ⟨#[]⟩,.slice none 0 0]∧Blk X w.heap.size 42 #[.int .i64 3,.int .i64 op,.int .i64 n,.string s,.slice A m c]∧Below w.heap.size w X∧w.heap.size+1<X.heap.size) W.drew):=Ω ⟨hX.drew,hG.drew,hB.drew,hs1⟩
 clear hW hX hG hB hs1
 refine wp_region_G 16 (fun w2=>w2.cell? ⟨w.heap.size+1,0,none⟩=some (.int .i64 3)∧w2.cell? ⟨w.heap.size+1,1,none⟩=some (.int .i64 op)∧w2.cell? ⟨w.heap.size+1,2,none⟩=some (.int .i64 0)∧w2.cell? ⟨w.heap.size+1,3,none⟩=some (.string ⟨#[]⟩)∧w2.cell? ⟨w.heap.size+1,4,none⟩=some (.slice none 0 0)∧w2.cell? ⟨w.heap.size,1,none⟩=some (.int .i64 op)) (SO.out _ HT0.out) ?_
 change GL _ _ _ _ _ 16 17 (Array.replicate 17 false) _ _
 obtain ⟨X0,hX0⟩:∃X0,W.drew=X0:=⟨_,rfl⟩
 rw [hX0] at HT0 ⊢
 clear hX0 W
 refine gS 0 (.agg #[.int .i64 3,.int .i64 op,.int .i64 0,.string ⟨#[]⟩,.slice none 0 0]) [16] ?_ ?_
 ·intro w2 hSw;obtain ⟨g0,g1,g2,g3,g4,g5⟩:=hSw;go_simp
 refine gj 1 (.pointer (some ⟨w.heap.size,1,none⟩)) ?_
 refine gS 2 (.int .i64 op) [16] ?_ ?_
 ·intro w2 hSw;obtain ⟨g0,g1,g2,g3,g4,g5⟩:=hSw;go_simp
 refine gj 3 (.bool false) ?_
 refine gj 4 (.bool false) ?_
 refine gj 5 (.pointer (some ⟨w.heap.size,1,none⟩)) ?_
 refine gS 6 (.int .i64 op) [16] ?_ ?_
 ·intro w2 hSw;obtain ⟨g0,g1,g2,g3,g4,g5⟩:=hSw;go_simp
 refine gj 7 (.bool false) ?_
 refine gj 8 (.bool false) ?_
 refine gj 9 (.bool false) ?_
 refine gj 10 (.pointer (some ⟨w.heap.size,1,none⟩)) ?_
 refine gS 11 (.int .i64 op) [16] ?_ ?_
 ·intro w2 hSw;obtain ⟨g0,g1,g2,g3,g4,g5⟩:=hSw;go_simp
 refine gj 12 (.bool false) ?_
 refine gj 13 (.bool false) ?_
 refine gO 14 (fun K hK=>?_)
 have hY:=HT0.out.1
 obtain ⟨y0,y1,y2,y3,y4⟩:=hY.c5
 obtain ⟨z0,z1,z2,z3,z4⟩:=hY.z5
 clear hY
 go_simp
 have HT2:=Ω (TS.out _ HT0.out)
 refine hK.out _ _ (SO.out _ HT2.out) ?_
 clear hK K
 try simp only [sG]
 refine gj 15 (.int .i64 1) ?_
 refine gL (fun K hK=>?_)
 go_simp
 refine hK.out _ _ ?_
 clear hK K
 try simp only [sG]
 go_wp2
 refine bodyPost_ret (results_cellT2 (p:=2) (q:=3) (r:=4) (ty:=42) (by kernel_rfl) _ _ (w.heap.size+1) 42 _ (0,0) _ (.int .i64 1) (.bool false) rfl rfl rfl HT2.out.1 Tryz.underlying42 rfl (by kernel_rfl)) rfl ?_
 exact ⟨rfl,HT2.out.2.2.1⟩
set_option maxHeartbeats 4000000 in
theorem only4 (op n:Int) (s:ByteArray) (m c:Nat) (A:Option Addr) (w:World):Calls Tryz.prog 113 #[.agg #[.int .i64 4,.int .i64 op,.int .i64 n,.string s,.slice A m c]] w fun e w'=>e=.returned (.tuple #[.agg #[.int .i64 4,.int .i64 op,.int .i64 0,.string ⟨#[]⟩,.slice none 0 0],.int .i64 2,.bool (decide (0<Ar.lvl op))])∧Below w.heap.size w w':=by
 go_enter Tryz.func113,Tryz.ntmps113
 go_upto_region 14 with fail
 refine wp_world ?_
 intro W hW
 have hX:Blk W (w.heap.size+1) 42 #[.int .i64 4,.int .i64 op,.int .i64 0,.string ⟨#[]⟩,.slice none 0 0]:=by rw [←hW];exact Blk.new_at _ _ _ (by simp)
 have hG:Blk W w.heap.size 42 #[.int .i64 4,.int .i64 op,.int .i64 n,.string s,.slice A m c]:=by rw [←hW];exact (Blk.new _ _ _).alloc _
 have hB:Below w.heap.size w W:=by rw [←hW];exact below2 _ _ _
 have hs1:w.heap.size+1<W.heap.size:=by rw [←hW];simp
 have SO:Hid (∀X,(fun X=>Blk X (w.heap.size+1) 42 #[.int .i64 4,.int .i64 op,.int .i64 0,.string ⟨#[]⟩,.slice none 0 0]∧Blk X w.heap.size 42 #[.int .i64 4,.int .i64 op,.int .i64 n,.string s,.slice A m c]∧Below w.heap.size w X∧w.heap.size+1<X.heap.size) X→(fun w2=>w2.cell? ⟨w.heap.size+1,0,none⟩=some (.int .i64 4)∧w2.cell? ⟨w.heap.size+1,1,none⟩=some (.int .i64 op)∧w2.cell? ⟨w.heap.size+1,2,none⟩=some (.int .i64 0)∧w2.cell? ⟨w.heap.size+1,3,none⟩=some (.string ⟨#[]⟩)∧w2.cell? ⟨w.heap.size+1,4,none⟩=some (.slice none 0 0)∧w2.cell? ⟨w.heap.size,1,none⟩=some (.int .i64 op)) X):=Ω (fun X hb=>⟨hb.1.cell 0,hb.1.cell 1,hb.1.cell 2,hb.1.cell 3,hb.1.cell 4,hb.2.1.cell 1⟩)
 have TB:Hid (∀X Y,(fun X=>Blk X (w.heap.size+1) 42 #[.int .i64 4,.int .i64 op,.int .i64 0,.string ⟨#[]⟩,.slice none 0 0]∧Blk X w.heap.size 42 #[.int .i64 4,.int .i64 op,.int .i64 n,.string s,.slice A m c]∧Below w.heap.size w X∧w.heap.size+1<X.heap.size) X→Below X.heap.size X Y→(fun X=>Blk X (w.heap.size+1) 42 #[.int .i64 4,.int .i64 op,.int .i64 0,.string ⟨#[]⟩,.slice none 0 0]∧Blk X w.heap.size 42 #[.int .i64 4,.int .i64 op,.int .i64 n,.string s,.slice A m c]∧Below w.heap.size w X∧w.heap.size+1<X.heap.size) Y):=Ω (fun X Y h hb=>⟨h.1.below hb h.1.lt,h.2.1.below hb h.2.1.lt,h.2.2.1.trans (hb.mono h.2.2.1.size),ltle h.2.2.2 hb.size⟩)
 have TS:Hid (∀X,(fun X=>Blk X (w.heap.size+1) 42 #[.int .i64 4,.int .i64 op,.int .i64 0,.string ⟨#[]⟩,.slice none 0 0]∧Blk X w.heap.size 42 #[.int .i64 4,.int .i64 op,.int .i64 n,.string s,.slice A m c]∧Below w.heap.size w X∧w.heap.size+1<X.heap.size) X→(fun X=>Blk X (w.heap.size+1) 42 #[.int .i64 4,.int .i64 op,.int .i64 0,.string ⟨#[]⟩,.slice none 0 0]∧Blk X w.heap.size 42 #[.int .i64 4,.int .i64 op,.int .i64 n,.string s,.slice A m c]∧Below w.heap.size w X∧w.heap.size+1<X.heap.size) (((((X.setCell ⟨w.heap.size+1,0,none⟩ (.int .i64 4)).setCell ⟨w.heap.size+1,1,none⟩ (.int .i64 op)).setCell ⟨w.heap.size+1,2,none⟩ (.int .i64 0)).setCell ⟨w.heap.size+1,3,none⟩ (.string ⟨#[]⟩)).setCell ⟨w.heap.size+1,4,none⟩ (.slice none 0 0))):=Ω (fun X h=>⟨(((((h.1.set_ 0 _).set_ 1 _).set_ 2 _).set_ 3 _).set_ 4 _),(((((h.2.1.far (by simp) _).far (by simp) _).far (by simp) _).far (by simp) _).far (by simp) _),(((((h.2.2.1.setCell (p:=⟨w.heap.size+1,0,none⟩) (Nat.le_succ _) _).setCell (p:=⟨w.heap.size+1,1,none⟩) (Nat.le_succ _) _).setCell (p:=⟨w.heap.size+1,2,none⟩) (Nat.le_succ _) _).setCell (p:=⟨w.heap.size+1,3,none⟩) (Nat.le_succ _) _).setCell (p:=⟨w.heap.size+1,4,none⟩) (Nat.le_succ _) _),by simpa using h.2.2.2⟩)
 have HT0:Hid ((fun X=>Blk X (w.heap.size+1) 42 #[.int .i64 4,.int .i64 op,.int .i64 0,.string ⟨#[]⟩,.slice none 0 0]∧Blk X w.heap.size 42 #[.int .i64 4,.int .i64 op,.int .i64 n,.string s,.slice A m c]∧Below w.heap.size w X∧w.heap.size+1<X.heap.size) W.drew):=Ω ⟨hX.drew,hG.drew,hB.drew,hs1⟩
 clear hW hX hG hB hs1
 refine wp_region_G 7 (fun w2=>w2.cell? ⟨w.heap.size+1,0,none⟩=some (.int .i64 4)∧w2.cell? ⟨w.heap.size+1,1,none⟩=some (.int .i64 op)∧w2.cell? ⟨w.heap.size+1,2,none⟩=some (.int .i64 0)∧w2.cell? ⟨w.heap.size+1,3,none⟩=some (.string ⟨#[]⟩)∧w2.cell? ⟨w.heap.size+1,4,none⟩=some (.slice none 0 0)∧w2.cell? ⟨w.heap.size,1,none⟩=some (.int .i64 op)) (SO.out _ HT0.out) ?_
 change GL _ _ _ _ _ 7 8 (Array.replicate 8 false) _ _
 obtain ⟨X0,hX0⟩:∃X0,W.drew=X0:=⟨_,rfl⟩
 rw [hX0] at HT0 ⊢
 clear hX0 W
 refine gS 0 (.agg #[.int .i64 4,.int .i64 op,.int .i64 0,.string ⟨#[]⟩,.slice none 0 0]) [7] ?_ ?_
 ·intro w2 hSw;obtain ⟨g0,g1,g2,g3,g4,g5⟩:=hSw;go_simp
 refine gj 1 (.pointer (some ⟨w.heap.size,1,none⟩)) ?_
 refine gS 2 (.int .i64 op) [7] ?_ ?_
 ·intro w2 hSw;obtain ⟨g0,g1,g2,g3,g4,g5⟩:=hSw;go_simp
 refine gO 3 (fun K hK=>?_)
 go_simp
 refine (Ar.level_any op X0).mono ?_
 rintro e X1 ⟨rfl,hx1⟩
 have HT1:=Ω (TB.out _ X1 HT0.out hx1)
 clear hx1
 refine hK.out _ _ (SO.out _ HT1.out) ?_
 clear hK K
 try simp only [sG]
 refine gj 4 (.bool (decide (0<Ar.lvl op))) ?_
 refine gO 5 (fun K hK=>?_)
 have hY:=HT1.out.1
 obtain ⟨y0,y1,y2,y3,y4⟩:=hY.c5
 obtain ⟨z0,z1,z2,z3,z4⟩:=hY.z5
 clear hY
 go_simp
 have HT2:=Ω (TS.out _ HT1.out)
 refine hK.out _ _ (SO.out _ HT2.out) ?_
 clear hK K
 try simp only [sG]
 refine gj 6 (.int .i64 2) ?_
 refine gL (fun K hK=>?_)
 go_simp
 refine hK.out _ _ ?_
 clear hK K
 try simp only [sG]
 go_wp2
 refine bodyPost_ret (results_cellT2 (p:=2) (q:=3) (r:=4) (ty:=42) (by kernel_rfl) _ _ (w.heap.size+1) 42 _ (0,0) _ (.int .i64 2) (.bool (decide (0<Ar.lvl op))) rfl rfl rfl HT2.out.1 Tryz.underlying42 rfl (by kernel_rfl)) rfl ?_
 exact ⟨rfl,HT2.out.2.2.1⟩
set_option maxHeartbeats 4000000 in
theorem only5y (op n:Int) (s:ByteArray) (m c:Nat) (A:Option Addr) (w:World) (hn:nameB s=true):Calls Tryz.prog 113 #[.agg #[.int .i64 5,.int .i64 op,.int .i64 n,.string s,.slice A m c]] w fun e w'=>e=.returned (.tuple #[.agg #[.int .i64 5,.int .i64 0,.int .i64 0,.string s,.slice none 0 0],.int .i64 (m:Int),.bool (decide ((m:Int)≤6))])∧Below w.heap.size w w':=by
 have HN:Hid (∀X,Calls Tryz.prog 62 #[.string s] X fun e w'=>e=.returned (.bool true)∧Below X.heap.size X w'):=Ω (fun X=>by have:=name_any s X;rw [hn] at this;exact this)
 clear hn
 go_enter Tryz.func113,Tryz.ntmps113
 go_upto_region 17 with fail
 refine wp_world ?_
 intro W hW
 have hX:Blk W (w.heap.size+1) 42 #[.int .i64 5,.int .i64 0,.int .i64 0,.string s,.slice none 0 0]:=by rw [←hW];exact Blk.new_at _ _ _ (by simp)
 have hG:Blk W w.heap.size 42 #[.int .i64 5,.int .i64 op,.int .i64 n,.string s,.slice A m c]:=by rw [←hW];exact (Blk.new _ _ _).alloc _
 have hB:Below w.heap.size w W:=by rw [←hW];exact below2 _ _ _
 have hs1:w.heap.size+1<W.heap.size:=by rw [←hW];simp
 have SO:Hid (∀X,(fun X=>Blk X (w.heap.size+1) 42 #[.int .i64 5,.int .i64 0,.int .i64 0,.string s,.slice none 0 0]∧Blk X w.heap.size 42 #[.int .i64 5,.int .i64 op,.int .i64 n,.string s,.slice A m c]∧Below w.heap.size w X∧w.heap.size+1<X.heap.size) X→(fun w2=>w2.cell? ⟨w.heap.size+1,0,none⟩=some (.int .i64 5)∧w2.cell? ⟨w.heap.size+1,1,none⟩=some (.int .i64 0)∧w2.cell? ⟨w.heap.size+1,2,none⟩=some (.int .i64 0)∧w2.cell? ⟨w.heap.size+1,3,none⟩=some (.string s)∧w2.cell? ⟨w.heap.size+1,4,none⟩=some (.slice none 0 0)∧w2.cell? ⟨w.heap.size,3,none⟩=some (.string s)∧w2.cell? ⟨w.heap.size,4,none⟩=some (.slice A m c)) X):=Ω (fun X hb=>⟨hb.1.cell 0,hb.1.cell 1,hb.1.cell 2,hb.1.cell 3,hb.1.cell 4,hb.2.1.cell 3,hb.2.1.cell 4⟩)
 have TB:Hid (∀X Y,(fun X=>Blk X (w.heap.size+1) 42 #[.int .i64 5,.int .i64 0,.int .i64 0,.string s,.slice none 0 0]∧Blk X w.heap.size 42 #[.int .i64 5,.int .i64 op,.int .i64 n,.string s,.slice A m c]∧Below w.heap.size w X∧w.heap.size+1<X.heap.size) X→Below X.heap.size X Y→(fun X=>Blk X (w.heap.size+1) 42 #[.int .i64 5,.int .i64 0,.int .i64 0,.string s,.slice none 0 0]∧Blk X w.heap.size 42 #[.int .i64 5,.int .i64 op,.int .i64 n,.string s,.slice A m c]∧Below w.heap.size w X∧w.heap.size+1<X.heap.size) Y):=Ω (fun X Y h hb=>⟨h.1.below hb h.1.lt,h.2.1.below hb h.2.1.lt,h.2.2.1.trans (hb.mono h.2.2.1.size),ltle h.2.2.2 hb.size⟩)
 have TS:Hid (∀X,(fun X=>Blk X (w.heap.size+1) 42 #[.int .i64 5,.int .i64 0,.int .i64 0,.string s,.slice none 0 0]∧Blk X w.heap.size 42 #[.int .i64 5,.int .i64 op,.int .i64 n,.string s,.slice A m c]∧Below w.heap.size w X∧w.heap.size+1<X.heap.size) X→(fun X=>Blk X (w.heap.size+1) 42 #[.int .i64 5,.int .i64 0,.int .i64 0,.string s,.slice none 0 0]∧Blk X w.heap.size 42 #[.int .i64 5,.int .i64 op,.int .i64 n,.string s,.slice A m c]∧Below w.heap.size w X∧w.heap.size+1<X.heap.size) (((((X.setCell ⟨w.heap.size+1,0,none⟩ (.int .i64 5)).setCell ⟨w.heap.size+1,1,none⟩ (.int .i64 0)).setCell ⟨w.heap.size+1,2,none⟩ (.int .i64 0)).setCell ⟨w.heap.size+1,3,none⟩ (.string s)).setCell ⟨w.heap.size+1,4,none⟩ (.slice none 0 0))):=Ω (fun X h=>⟨(((((h.1.set_ 0 _).set_ 1 _).set_ 2 _).set_ 3 _).set_ 4 _),(((((h.2.1.far (by simp) _).far (by simp) _).far (by simp) _).far (by simp) _).far (by simp) _),(((((h.2.2.1.setCell (p:=⟨w.heap.size+1,0,none⟩) (Nat.le_succ _) _).setCell (p:=⟨w.heap.size+1,1,none⟩) (Nat.le_succ _) _).setCell (p:=⟨w.heap.size+1,2,none⟩) (Nat.le_succ _) _).setCell (p:=⟨w.heap.size+1,3,none⟩) (Nat.le_succ _) _).setCell (p:=⟨w.heap.size+1,4,none⟩) (Nat.le_succ _) _),by simpa using h.2.2.2⟩)
 have HT0:Hid ((fun X=>Blk X (w.heap.size+1) 42 #[.int .i64 5,.int .i64 0,.int .i64 0,.string s,.slice none 0 0]∧Blk X w.heap.size 42 #[.int .i64 5,.int .i64 op,.int .i64 n,.string s,.slice A m c]∧Below w.heap.size w X∧w.heap.size+1<X.heap.size) W.drew):=Ω ⟨hX.drew,hG.drew,hB.drew,hs1⟩
 clear hW hX hG hB hs1
 refine wp_region_G 15 (fun w2=>w2.cell? ⟨w.heap.size+1,0,none⟩=some (.int .i64 5)∧w2.cell? ⟨w.heap.size+1,1,none⟩=some (.int .i64 0)∧w2.cell? ⟨w.heap.size+1,2,none⟩=some (.int .i64 0)∧w2.cell? ⟨w.heap.size+1,3,none⟩=some (.string s)∧w2.cell? ⟨w.heap.size+1,4,none⟩=some (.slice none 0 0)∧w2.cell? ⟨w.heap.size,3,none⟩=some (.string s)∧w2.cell? ⟨w.heap.size,4,none⟩=some (.slice A m c)) (SO.out _ HT0.out) ?_
 change GL _ _ _ _ _ 15 16 (Array.replicate 16 false) _ _
 obtain ⟨X0,hX0⟩:∃X0,W.drew=X0:=⟨_,rfl⟩
 rw [hX0] at HT0 ⊢
 clear hX0 W
 refine gS 0 (.agg #[.int .i64 5,.int .i64 0,.int .i64 0,.string s,.slice none 0 0]) [15] ?_ ?_
 ·intro w2 hSw;obtain ⟨g0,g1,g2,g3,g4,g5,g6⟩:=hSw;go_simp
 refine gj 1 (.pointer (some ⟨w.heap.size,4,none⟩)) ?_
 refine gS 2 (.slice A m c) [15] ?_ ?_
 ·intro w2 hSw;obtain ⟨g0,g1,g2,g3,g4,g5,g6⟩:=hSw;go_simp
 refine gj 3 (.int .i64 (m:Int)) ?_
 refine gj 4 (.pointer (some ⟨w.heap.size,3,none⟩)) ?_
 refine gS 5 (.string s) [15] ?_ ?_
 ·intro w2 hSw;obtain ⟨g0,g1,g2,g3,g4,g5,g6⟩:=hSw;go_simp
 refine gO 6 (fun K hK=>?_)
 go_simp
 refine (HN.out X0).mono ?_
 rintro e X1 ⟨rfl,hx1⟩
 have HT1:=Ω (TB.out _ X1 HT0.out hx1)
 clear hx1
 refine hK.out _ _ (SO.out _ HT1.out) ?_
 clear hK K
 try simp only [sG]
 refine gj 7 (.bool true) ?_
 refine gj 8 (.pointer (some ⟨w.heap.size,4,none⟩)) ?_
 refine gS 9 (.slice A m c) [15] ?_ ?_
 ·intro w2 hSw;obtain ⟨g0,g1,g2,g3,g4,g5,g6⟩:=hSw;go_simp
 refine gj 10 (.int .i64 (m:Int)) ?_
 refine gj 11 (.bool (decide ((m:Int)≤6))) ?_
 refine gj 12 (.bool (decide ((m:Int)≤6))) ?_
 refine gO 13 (fun K hK=>?_)
 have hY:=HT1.out.1
 obtain ⟨y0,y1,y2,y3,y4⟩:=hY.c5
 obtain ⟨z0,z1,z2,z3,z4⟩:=hY.z5
 clear hY
 go_simp
 have HT2:=Ω (TS.out _ HT1.out)
 refine hK.out _ _ (SO.out _ HT2.out) ?_
 clear hK K
 try simp only [sG]
 refine gj 14 (.int .i64 (m:Int)) ?_
 refine gL (fun K hK=>?_)
 go_simp
 refine hK.out _ _ ?_
 clear hK K
 try simp only [sG]
 go_wp2
 refine bodyPost_ret (results_cellT2 (p:=2) (q:=3) (r:=4) (ty:=42) (by kernel_rfl) _ _ (w.heap.size+1) 42 _ (0,0) _ (.int .i64 (m:Int)) (.bool (decide ((m:Int)≤6))) rfl rfl rfl HT2.out.1 Tryz.underlying42 rfl (by kernel_rfl)) rfl ?_
 exact ⟨rfl,HT2.out.2.2.1⟩
set_option maxHeartbeats 4000000 in
theorem only5n (op n:Int) (s:ByteArray) (m c:Nat) (A:Option Addr) (w:World) (hn:nameB s=false):Calls Tryz.prog 113 #[.agg #[.int .i64 5,.int .i64 op,.int .i64 n,.string s,.slice A m c]] w fun e w'=>e=.returned (.tuple #[.agg #[.int .i64 5,.int .i64 0,.int .i64 0,.string s,.slice none 0 0],.int .i64 (m:Int),.bool false])∧Below w.heap.size w w':=by
 have HN:Hid (∀X,Calls Tryz.prog 62 #[.string s] X fun e w'=>e=.returned (.bool false)∧Below X.heap.size X w'):=Ω (fun X=>by have:=name_any s X;rw [hn] at this;exact this)
 clear hn
 go_enter Tryz.func113,Tryz.ntmps113
 go_upto_region 17 with fail
 refine wp_world ?_
 intro W hW
 have hX:Blk W (w.heap.size+1) 42 #[.int .i64 5,.int .i64 0,.int .i64 0,.string s,.slice none 0 0]:=by rw [←hW];exact Blk.new_at _ _ _ (by simp)
 have hG:Blk W w.heap.size 42 #[.int .i64 5,.int .i64 op,.int .i64 n,.string s,.slice A m c]:=by rw [←hW];exact (Blk.new _ _ _).alloc _
 have hB:Below w.heap.size w W:=by rw [←hW];exact below2 _ _ _
 have hs1:w.heap.size+1<W.heap.size:=by rw [←hW];simp
 have SO:Hid (∀X,(fun X=>Blk X (w.heap.size+1) 42 #[.int .i64 5,.int .i64 0,.int .i64 0,.string s,.slice none 0 0]∧Blk X w.heap.size 42 #[.int .i64 5,.int .i64 op,.int .i64 n,.string s,.slice A m c]∧Below w.heap.size w X∧w.heap.size+1<X.heap.size) X→(fun w2=>w2.cell? ⟨w.heap.size+1,0,none⟩=some (.int .i64 5)∧w2.cell? ⟨w.heap.size+1,1,none⟩=some (.int .i64 0)∧w2.cell? ⟨w.heap.size+1,2,none⟩=some (.int .i64 0)∧w2.cell? ⟨w.heap.size+1,3,none⟩=some (.string s)∧w2.cell? ⟨w.heap.size+1,4,none⟩=some (.slice none 0 0)∧w2.cell? ⟨w.heap.size,3,none⟩=some (.string s)∧w2.cell? ⟨w.heap.size,4,none⟩=some (.slice A m c)) X):=Ω (fun X hb=>⟨hb.1.cell 0,hb.1.cell 1,hb.1.cell 2,hb.1.cell 3,hb.1.cell 4,hb.2.1.cell 3,hb.2.1.cell 4⟩)
 have TB:Hid (∀X Y,(fun X=>Blk X (w.heap.size+1) 42 #[.int .i64 5,.int .i64 0,.int .i64 0,.string s,.slice none 0 0]∧Blk X w.heap.size 42 #[.int .i64 5,.int .i64 op,.int .i64 n,.string s,.slice A m c]∧Below w.heap.size w X∧w.heap.size+1<X.heap.size) X→Below X.heap.size X Y→(fun X=>Blk X (w.heap.size+1) 42 #[.int .i64 5,.int .i64 0,.int .i64 0,.string s,.slice none 0 0]∧Blk X w.heap.size 42 #[.int .i64 5,.int .i64 op,.int .i64 n,.string s,.slice A m c]∧Below w.heap.size w X∧w.heap.size+1<X.heap.size) Y):=Ω (fun X Y h hb=>⟨h.1.below hb h.1.lt,h.2.1.below hb h.2.1.lt,h.2.2.1.trans (hb.mono h.2.2.1.size),ltle h.2.2.2 hb.size⟩)
 have TS:Hid (∀X,(fun X=>Blk X (w.heap.size+1) 42 #[.int .i64 5,.int .i64 0,.int .i64 0,.string s,.slice none 0 0]∧Blk X w.heap.size 42 #[.int .i64 5,.int .i64 op,.int .i64 n,.string s,.slice A m c]∧Below w.heap.size w X∧w.heap.size+1<X.heap.size) X→(fun X=>Blk X (w.heap.size+1) 42 #[.int .i64 5,.int .i64 0,.int .i64 0,.string s,.slice none 0 0]∧Blk X w.heap.size 42 #[.int .i64 5,.int .i64 op,.int .i64 n,.string s,.slice A m c]∧Below w.heap.size w X∧w.heap.size+1<X.heap.size) (((((X.setCell ⟨w.heap.size+1,0,none⟩ (.int .i64 5)).setCell ⟨w.heap.size+1,1,none⟩ (.int .i64 0)).setCell ⟨w.heap.size+1,2,none⟩ (.int .i64 0)).setCell ⟨w.heap.size+1,3,none⟩ (.string s)).setCell ⟨w.heap.size+1,4,none⟩ (.slice none 0 0))):=Ω (fun X h=>⟨(((((h.1.set_ 0 _).set_ 1 _).set_ 2 _).set_ 3 _).set_ 4 _),(((((h.2.1.far (by simp) _).far (by simp) _).far (by simp) _).far (by simp) _).far (by simp) _),(((((h.2.2.1.setCell (p:=⟨w.heap.size+1,0,none⟩) (Nat.le_succ _) _).setCell (p:=⟨w.heap.size+1,1,none⟩) (Nat.le_succ _) _).setCell (p:=⟨w.heap.size+1,2,none⟩) (Nat.le_succ _) _).setCell (p:=⟨w.heap.size+1,3,none⟩) (Nat.le_succ _) _).setCell (p:=⟨w.heap.size+1,4,none⟩) (Nat.le_succ _) _),by simpa using h.2.2.2⟩)
 have HT0:Hid ((fun X=>Blk X (w.heap.size+1) 42 #[.int .i64 5,.int .i64 0,.int .i64 0,.string s,.slice none 0 0]∧Blk X w.heap.size 42 #[.int .i64 5,.int .i64 op,.int .i64 n,.string s,.slice A m c]∧Below w.heap.size w X∧w.heap.size+1<X.heap.size) W.drew):=Ω ⟨hX.drew,hG.drew,hB.drew,hs1⟩
 clear hW hX hG hB hs1
 refine wp_region_G 15 (fun w2=>w2.cell? ⟨w.heap.size+1,0,none⟩=some (.int .i64 5)∧w2.cell? ⟨w.heap.size+1,1,none⟩=some (.int .i64 0)∧w2.cell? ⟨w.heap.size+1,2,none⟩=some (.int .i64 0)∧w2.cell? ⟨w.heap.size+1,3,none⟩=some (.string s)∧w2.cell? ⟨w.heap.size+1,4,none⟩=some (.slice none 0 0)∧w2.cell? ⟨w.heap.size,3,none⟩=some (.string s)∧w2.cell? ⟨w.heap.size,4,none⟩=some (.slice A m c)) (SO.out _ HT0.out) ?_
 change GL _ _ _ _ _ 15 16 (Array.replicate 16 false) _ _
 obtain ⟨X0,hX0⟩:∃X0,W.drew=X0:=⟨_,rfl⟩
 rw [hX0] at HT0 ⊢
 clear hX0 W
 refine gS 0 (.agg #[.int .i64 5,.int .i64 0,.int .i64 0,.string s,.slice none 0 0]) [15] ?_ ?_
 ·intro w2 hSw;obtain ⟨g0,g1,g2,g3,g4,g5,g6⟩:=hSw;go_simp
 refine gj 1 (.pointer (some ⟨w.heap.size,4,none⟩)) ?_
 refine gS 2 (.slice A m c) [15] ?_ ?_
 ·intro w2 hSw;obtain ⟨g0,g1,g2,g3,g4,g5,g6⟩:=hSw;go_simp
 refine gj 3 (.int .i64 (m:Int)) ?_
 refine gj 4 (.pointer (some ⟨w.heap.size,3,none⟩)) ?_
 refine gS 5 (.string s) [15] ?_ ?_
 ·intro w2 hSw;obtain ⟨g0,g1,g2,g3,g4,g5,g6⟩:=hSw;go_simp
 refine gO 6 (fun K hK=>?_)
 go_simp
 refine (HN.out X0).mono ?_
 rintro e X1 ⟨rfl,hx1⟩
 have HT1:=Ω (TB.out _ X1 HT0.out hx1)
 clear hx1
 refine hK.out _ _ (SO.out _ HT1.out) ?_
 clear hK K
 try simp only [sG]
 refine gj 7 (.bool false) ?_
 refine gN 8 ?_
 refine gN 9 ?_
 refine gN 10 ?_
 refine gN 11 ?_
 refine gj 12 (.bool false) ?_
 refine gO 13 (fun K hK=>?_)
 have hY:=HT1.out.1
 obtain ⟨y0,y1,y2,y3,y4⟩:=hY.c5
 obtain ⟨z0,z1,z2,z3,z4⟩:=hY.z5
 clear hY
 go_simp
 have HT2:=Ω (TS.out _ HT1.out)
 refine hK.out _ _ (SO.out _ HT2.out) ?_
 clear hK K
 try simp only [sG]
 refine gj 14 (.int .i64 (m:Int)) ?_
 refine gL (fun K hK=>?_)
 go_simp
 refine hK.out _ _ ?_
 clear hK K
 try simp only [sG]
 go_wp2
 refine bodyPost_ret (results_cellT2 (p:=2) (q:=3) (r:=4) (ty:=42) (by kernel_rfl) _ _ (w.heap.size+1) 42 _ (0,0) _ (.int .i64 (m:Int)) (.bool false) rfl rfl rfl HT2.out.1 Tryz.underlying42 rfl (by kernel_rfl)) rfl ?_
 exact ⟨rfl,HT2.out.2.2.1⟩
set_option maxHeartbeats 4000000 in
theorem only7 (op n:Int) (s:ByteArray) (m c:Nat) (A:Option Addr) (w:World):Calls Tryz.prog 113 #[.agg #[.int .i64 7,.int .i64 op,.int .i64 n,.string s,.slice A m c]] w fun e w'=>e=.returned (.tuple #[.agg #[.int .i64 7,.int .i64 0,.int .i64 0,.string ⟨#[]⟩,.slice none 0 0],.int .i64 0,.bool true])∧Below w.heap.size w w':=by
 go_enter Tryz.func113,Tryz.ntmps113
 go_upto_region 22 with fail
 refine wp_world ?_
 intro W hW
 have hX:Blk W (w.heap.size+1) 42 #[.int .i64 7,.int .i64 0,.int .i64 0,.string ⟨#[]⟩,.slice none 0 0]:=by rw [←hW];exact Blk.new_at _ _ _ (by simp)
 have hB:Below w.heap.size w W:=by rw [←hW];exact below2 _ _ _
 obtain ⟨y0,y1,y2,y3,y4⟩:=hX.c5
 obtain ⟨z0,z1,z2,z3,z4⟩:=hX.z5
 have HY:=Ω hX
 have HB:=Ω hB
 have HX0:Hid (Below W.heap.size W W):=Ω (Below.refl _ _)
 clear hW hX hB
 go_wp2
 refine bodyPost_ret (results_cellT2 (p:=2) (q:=3) (r:=4) (ty:=42) (by kernel_rfl) _ _ (w.heap.size+1) 42 _ (0,0) _ (.int .i64 0) (.bool true) rfl rfl rfl (((((HY.out.set_ 0 _).set_ 1 _).set_ 2 _).set_ 3 _).set_ 4 _) Tryz.underlying42 rfl (by kernel_rfl)) rfl ?_
 exact ⟨rfl,((((((HB.out.trans (HX0.out.mono HB.out.size)).setCell (p:=⟨w.heap.size+1,0,none⟩) (Nat.le_succ _) _).setCell (p:=⟨w.heap.size+1,1,none⟩) (Nat.le_succ _) _).setCell (p:=⟨w.heap.size+1,2,none⟩) (Nat.le_succ _) _).setCell (p:=⟨w.heap.size+1,3,none⟩) (Nat.le_succ _) _).setCell (p:=⟨w.heap.size+1,4,none⟩) (Nat.le_succ _) _)⟩
set_option maxHeartbeats 4000000 in
theorem only0 (k op n:Int) (s:ByteArray) (m c:Nat) (A:Option Addr) (w:World) (e1:(k == 1)=false) (e2:(k == 2)=false) (e3:(k == 3)=false) (e4:(k == 4)=false) (e5:(k == 5)=false) (e6:(k == 6)=false) (e7:(k == 7)=false):Calls Tryz.prog 113 #[.agg #[.int .i64 k,.int .i64 op,.int .i64 n,.string s,.slice A m c]] w fun e w'=>e=.returned (.tuple #[.agg #[.int .i64 k,.int .i64 0,.int .i64 0,.string ⟨#[]⟩,.slice none 0 0],.int .i64 0,.bool false])∧Below w.heap.size w w':=by
 go_enter Tryz.func113,Tryz.ntmps113
 go_upto_region 23 with fail
 refine wp_world ?_
 intro W hW
 have hX:Blk W (w.heap.size+1) 42 #[.int .i64 k,.int .i64 0,.int .i64 0,.string ⟨#[]⟩,.slice none 0 0]:=by rw [←hW];exact Blk.new_at _ _ _ (by simp)
 have hB:Below w.heap.size w W:=by rw [←hW];exact below2 _ _ _
 obtain ⟨y0,y1,y2,y3,y4⟩:=hX.c5
 obtain ⟨z0,z1,z2,z3,z4⟩:=hX.z5
 have HY:=Ω hX
 have HB:=Ω hB
 have HX0:Hid (Below W.heap.size W W):=Ω (Below.refl _ _)
 clear hW hX hB
 go_wp2
 refine bodyPost_ret (results_cellT2 (p:=2) (q:=3) (r:=4) (ty:=42) (by kernel_rfl) _ _ (w.heap.size+1) 42 _ (0,0) _ (.int .i64 0) (.bool false) rfl rfl rfl (((((HY.out.set_ 0 _).set_ 1 _).set_ 2 _).set_ 3 _).set_ 4 _) Tryz.underlying42 rfl (by kernel_rfl)) rfl ?_
 exact ⟨rfl,((((((HB.out.trans (HX0.out.mono HB.out.size)).setCell (p:=⟨w.heap.size+1,0,none⟩) (Nat.le_succ _) _).setCell (p:=⟨w.heap.size+1,1,none⟩) (Nat.le_succ _) _).setCell (p:=⟨w.heap.size+1,2,none⟩) (Nat.le_succ _) _).setCell (p:=⟨w.heap.size+1,3,none⟩) (Nat.le_succ _) _).setCell (p:=⟨w.heap.size+1,4,none⟩) (Nat.le_succ _) _)⟩
end Go.Proofs.YtmignlclfbaifaaGreat
