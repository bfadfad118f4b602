/- What tree.named tells: whether all are names. -/
import Derived.Test.YtmignlclfbaifaaGreatPtTrName
import Derived.Test.YtmignlclfbaifaaGreatPtTrIdx
namespace Go.Proofs.YtmignlclfbaifaaGreat
open Go.RowKit
theorem named1_pred (l:List ByteArray) (w:World):Pred_str 61 #[] (fun x=>!nameB x) l w:=by
 intro W cs x hx hr hb
 obtain rfl:cs=[.string x]:=hr
 have HB:=Ω hb
 have HN:=Ω (name_any x W)
 clear hb
 show Calls Tryz.prog 61 #[.string x] W _
 go_enter Tryz.func61,Tryz.ntmps61
 go_wp2_with (go_at_call 62;refine HN.out.mono ?_;rintro e w' ⟨rfl,hb2⟩)
 go_ret
 exact ⟨rfl,HB.out.trans (hb2.mono HB.out.size)⟩
theorem named_any (l:List ByteArray) (v:Value) (w:World) (hv:SlR w (· < w.heap.size) 1 RStr v l):Calls Tryz.prog 43 #[v] w fun e w'=>e=.returned (.bool (l.all nameB))∧Below w.heap.size w w':=by
 have HC:=Ω (con_named1 l v (fun x=>!nameB x) w hv (named1_pred l w))
 have hall:(!l.any fun x=>!nameB x)=l.all nameB:=by
  rw [List.not_any_eq_all_not]
  simp
 have HALL:=Ω hall
 obtain ⟨A,c,rfl,_,_⟩:=hv.val
 clear hv hall
 go_enter Tryz.func43,Tryz.ntmps43
 go_wp2_with (go_at_call 50;refine HC.out.mono ?_;rintro e w' ⟨rfl,hb⟩)
 go_ret
 exact ⟨by rw [←HALL.out];rfl,hb⟩
end Go.Proofs.YtmignlclfbaifaaGreat
