/- The law CellsPtr, walked: it returns true at every input. -/
import Derived.Test.YtamcbkelfgbkoaaGreatProg
import Derived.Test.YtamcbkelfgbkoaaGreatS5
namespace Go.Proofs.YtamcbkelfgbkoaaGreat.cellsPtr
open Go Go.Ax Go.Proofs.Tryz.S Go.Proofs.Tryz.K
set_option maxRecDepth 100000
set_option linter.unusedSimpArgs false
set_option linter.unusedVariables false
set_option maxHeartbeats 1000000
theorem call (W:World)(cs:List Value)(h:Rd (fzOf W) shAsk16 cs) :
 CallsA Tryz.prog 9 [.agg cs.toArray] (fzOf W) noHp fun r _ _=>r=.bool true:=by
 obtain ⟨q,rfl,hq⟩:=rd_ask16 h
 refine qZ hm Tryz.func9 e9 (Nat.le_of_ble_eq_true rfl) ?_
 generalize hFW:fzOf W=F at *
 have hold:Old F noHp:=Old.start F
 simp only [c9,go_sem]
 intro r1 hF1 hM1
 have old1:Old F (noHp.upd r1 ⟨q.cs,33,10⟩):=hold.upd hF1
 have f1:(noHp.upd r1 ⟨q.cs,33,10⟩) r1=some ⟨q.cs,33,10⟩:=Hp.qJ _ _ _
 generalize noHp.upd r1 ⟨q.cs,33,10⟩=M1 at *
 have b1:=qG (F:=F) f1
 have kk:=k10 F M1 q 7 old1 (by decide) hq.many.1 hq.many.2.1 hq.many.2.2
 simp only [go_sem,b1]
 with_reducible refine qQ kk ?_
 simp only [go_sem]
 exact qW rfl
end Go.Proofs.YtamcbkelfgbkoaaGreat.cellsPtr
