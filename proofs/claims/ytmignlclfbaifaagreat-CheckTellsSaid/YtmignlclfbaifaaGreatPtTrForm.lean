/- What tree.formOf tells: what a kind of statements has. -/
import Derived.Test.YtmignlclfbaifaaGreatPtTrSmall
namespace Go.Proofs.YtmignlclfbaifaaGreat
open Go.RowKit
def formL (k:Int):Bool × Int × Bool × Bool × Bool:=
 if k=1 then (true,1,false,false,true) else if k=2 then (true,2,false,false,true) else if k=3 then (false,1,true,true,true) else if k=4 then (false,1,true,false,true)
 else if k=5∨k=6 then (false,0,false,false,true) else if k=7∨k=8∨k=9∨k=10 then (false,1,false,false,true) else (false,0,false,false,false)
def formV (k:Int):Array Value:=#[.bool (formL k).1,.int .i64 (formL k).2.1,.bool (formL k).2.2.1,.bool (formL k).2.2.2.1]
theorem form_any (k:Int) (w:World):Calls Tryz.prog 87 #[.int .i64 k] w fun e w'=>e=.returned (.tuple #[.agg (formV k),.bool (formL k).2.2.2.2])∧Below w.heap.size w w':=by
 rcases (by omega:k=1∨k=2∨k=3∨k=4∨k=5∨k=6∨k=7∨k=8∨k=9∨k=10∨(k<1∨10<k)) with rfl|rfl|rfl|rfl|rfl|rfl|rfl|rfl|rfl|rfl|hk
 case inr.inr.inr.inr.inr.inr.inr.inr.inr.inr=>
  have e1:(k == 1)=false:=by rw [beq_dec];exact dF (by omega)
  have e2:(k == 2)=false:=by rw [beq_dec];exact dF (by omega)
  have e3:(k == 3)=false:=by rw [beq_dec];exact dF (by omega)
  have e4:(k == 4)=false:=by rw [beq_dec];exact dF (by omega)
  have e5:(k == 5)=false:=by rw [beq_dec];exact dF (by omega)
  have e6:(k == 6)=false:=by rw [beq_dec];exact dF (by omega)
  have e7:(k == 7)=false:=by rw [beq_dec];exact dF (by omega)
  have e8:(k == 8)=false:=by rw [beq_dec];exact dF (by omega)
  have e9:(k == 9)=false:=by rw [beq_dec];exact dF (by omega)
  have e10:(k == 10)=false:=by rw [beq_dec];exact dF (by omega)
  have hf:formL k=(false,0,false,false,false):=by
   unfold formL
   rw [if_neg (by omega),if_neg (by omega),if_neg (by omega),if_neg (by omega),if_neg (by omega),if_neg (by omega)]
  have HF:=Ω hf
  clear hf hk
  go_enter Tryz.func87,Tryz.ntmps87
  go_upto_region 1 with fail
  refine wp_world ?_
  intro W hW
  have hX:Blk W w.heap.size 119 #[.bool false,.int .i64 0,.bool false,.bool false]:=by rw [←hW];exact Blk.new_at _ _ _ rfl
  have hB:Below w.heap.size w W:=by rw [←hW];exact below1 _ _
  have b0:W.cell? ⟨w.heap.size,0,none⟩=some (.bool false):=hX.cell 0
  have b1:W.cell? ⟨w.heap.size,1,none⟩=some (.int .i64 0):=hX.cell 1
  have b2:W.cell? ⟨w.heap.size,2,none⟩=some (.bool false):=hX.cell 2
  have b3:W.cell? ⟨w.heap.size,3,none⟩=some (.bool false):=hX.cell 3
  have f0:=hX.frozen 0
  have f1:=hX.frozen 1
  have f2:=hX.frozen 2
  have f3:=hX.frozen 3
  have HX:=Ω hX
  have HB:=Ω hB
  clear hW hX hB
  go_wp2
  refine bodyPost_ret (results_cellT (p:=2) (q:=3) (ty:=119) (by kernel_rfl) _ _ w.heap.size 119 _ (0,0) _ (.bool false) rfl rfl ((((HX.out.set_ 0 _).set_ 1 _).set_ 2 _).set_ 3 _) Tryz.underlying119 rfl (by kernel_rfl)) rfl ?_
  exact ⟨by unfold formV;rw [HF.out];rfl,(((HB.out.setCell (Nat.le_refl _) _).setCell (Nat.le_refl _) _).setCell (Nat.le_refl _) _).setCell (Nat.le_refl _) _⟩
 all_goals
  go_enter Tryz.func87,Tryz.ntmps87
  go_upto_region 1 with fail
  refine wp_world ?_
  intro W hW
  have hX:Blk W w.heap.size 119 #[.bool false,.int .i64 0,.bool false,.bool false]:=by rw [←hW];exact Blk.new_at _ _ _ rfl
  have hB:Below w.heap.size w W:=by rw [←hW];exact below1 _ _
  have b0:W.cell? ⟨w.heap.size,0,none⟩=some (.bool false):=hX.cell 0
  have b1:W.cell? ⟨w.heap.size,1,none⟩=some (.int .i64 0):=hX.cell 1
  have b2:W.cell? ⟨w.heap.size,2,none⟩=some (.bool false):=hX.cell 2
  have b3:W.cell? ⟨w.heap.size,3,none⟩=some (.bool false):=hX.cell 3
  have f0:=hX.frozen 0
  have f1:=hX.frozen 1
  have f2:=hX.frozen 2
  have f3:=hX.frozen 3
  have HX:=Ω hX
  have HB:=Ω hB
  clear hW hX hB
  go_wp2
  refine bodyPost_ret (results_cellT (p:=2) (q:=3) (ty:=119) (by kernel_rfl) _ _ w.heap.size 119 _ (0,0) _ (.bool true) rfl rfl ((((HX.out.set_ 0 _).set_ 1 _).set_ 2 _).set_ 3 _) Tryz.underlying119 rfl (by kernel_rfl)) rfl ?_
  exact ⟨rfl,(((HB.out.setCell (Nat.le_refl _) _).setCell (Nat.le_refl _) _).setCell (Nat.le_refl _) _).setCell (Nat.le_refl _) _⟩
end Go.Proofs.YtmignlclfbaifaaGreat
