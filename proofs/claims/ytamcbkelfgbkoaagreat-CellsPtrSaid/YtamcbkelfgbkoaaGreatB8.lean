/- Parts B8: the machine's runs of small codes, contracts of functions, plain facts. -/
import Derived.Shelf.SlSortCmp.WholeK
import Derived.Test.YtamcbkelfgbkoaaGreatB7
set_option maxRecDepth 100000
set_option linter.unusedSimpArgs false
set_option linter.unusedVariables false
set_option maxHeartbeats 4000000
namespace Go.Proofs.Tryz.K
open Go Go.Ax Go.Proofs.Tryz.S
variable (F:Fz) (M:Hp)
def ixT (L:List Cl)(p:Cl→Bool)(St:Nat→(Nat→Prop)→Hp→Prop)(Z0:Nat→Prop)(F0:Fz)(M0:Hp)(i:Nat)(σ:Env)(F:Fz)(M:Hp):Prop:=
 F0=F∧Old F0 M∧Ax.look σ 8=some (.int .i64 i)∧(L.take i).any p=false∧∃S,St i S M∧Mv Z0 M0 S M
theorem idxS (gu cap n:Nat)(e:TypeId)(L:List Cl)(g:Nat)(ca:List Value)(p:Cl→Bool)(St:Nat→(Nat→Prop)→Hp→Prop)(S:Nat→Prop)(h:DelCl Tryz.prog F g ca Cl.val L p St)(hS:St 0 S M)(hgu:¬S gu)(hM:M gu=some ⟨L.flatMap Cl.cs,e,n⟩)(hold:Old F M)(hl:L.length≤100000) :
  CallsA Tryz.prog 183 [.slice (some ⟨gu,0,none⟩) L.length cap,.func (.func g) #[] ca.toArray] F M fun r F' M'=>F'=F∧Old F M'∧∃S',Mv S M S' M'∧((r=.int .i64 (-1)∧L.any p=false∧St L.length S' M')∨∃i,∃hi:i < L.length,r=.int .i64 i∧p L[i]=true∧(L.take i).any p=false∧St (i+1) S' M'):=by
 refine qZ hm Tryz.func183 e183 (Nat.le_of_ble_eq_true rfl) ?_
 simp only [c183,go_sem]
 refine yX L.length (ixT L p St S F M) ⟨rfl,hold,(by simp only [go_sem, *] <;> rfl),rfl,S,hS,Mv.refl⟩ ?_
 rintro i σ F' M1 hi hs ⟨rfl,old1,h8,ha,S1,hS1,mv⟩
 have s0:=hs 0 rfl
 have s1:=hs 1 rfl
 have s7:=hs 7 rfl
 simp only [go_sem] at s0 s1 s7
 clear hs
 by_cases hil:(i:Int) < L.length
 ·have hi0:(0:Int)≤i:=by omega
  have hil':i < L.length:=by omega
  have ei:IntKind.i64.wrap ((i:Int)+1)=i+1:=w64 (by omega) (by omega)
  have t1:=List.take_succ_eq_append_getElem hil'
  have hb:=qG (F:=F) (mv.stay _ _ hM hgu)
  have d1:i * 10+10≤(L.flatMap Cl.cs).length:=by
   rw [gW Cl.len]
   have:(i+1) * 10≤L.length * 10:=Nat.mul_le_mul_right _ hil'
   omega
  have d2:=flatG_get Cl.len L i hil'
  have hq:=h.call i hil' S1 M1 hS1 old1
  have hfin:p L[i]=true→∀S' M',St (i+1) S' M'→Mv S M S' M'→∃S',Mv S M S' M'∧((Value.int .i64 (i:Int)=.int .i64 (-1)∧L.any p=false∧St L.length S' M')∨∃j,∃hi:j < L.length,Value.int .i64 (i:Int)=.int .i64 j∧p L[j]=true∧(L.take j).any p=false∧St (j+1) S' M'):=fun hv S' M' h1 h2=>⟨S',h2,.inr ⟨i,hil',rfl,hv,ha,h1⟩⟩
  generalize L[i]=v at *
  simp only [go_sem,s0,s1,s7,h8,hil,hi0,Int.toNat_natCast,hb,d1,d2,Nat.zero_add]
  refine qY hq ?_
  rintro r G M2 ⟨hG,rfl,old2,S2,hS2,mv2⟩
  replace hG:=hG.symm
  subst hG
  refine ⟨(fun h=>by cases h),?_⟩
  cases hv:p v
  ·simp only [go_sem,h8,ei]
   exact ⟨hil',rfl,old2,(by simp only [go_sem, *] <;> rfl),by rw [t1,List.any_append,ha]; simp [hv],S2,hS2,mv.trans mv2⟩
  ·simp only [go_sem]
   exact qW ⟨rfl,old2,hfin hv S2 M2 hS2 (mv.trans mv2)⟩
 ·have hie:i=L.length:=by omega
  subst hie
  rw [List.take_length] at ha
  simp only [go_sem,s7,h8,hil]
  exact qW ⟨rfl,old1,S1,mv,.inl ⟨rfl,ha,hS1⟩⟩
def keptL (L:List Cl)(p:Cl→Bool)(j:Nat):List Cl:=(L.take j).filter (fun x=>!p x)
def dlT (L:List Cl)(p:Cl→Bool)(St:Nat→(Nat→Prop)→Hp→Prop)(Z0:Nat→Prop)(gu n:Nat)(e:TypeId)(F0:Fz)(M0:Hp)(m:Nat)(σ:Env)(F:Fz)(M:Hp):Prop:=
 F0=F∧Old F0 M∧∃j S,j+m=L.length∧Ax.look σ 6=some (.int .i64 (j:Int))∧Ax.look σ 5=some (.int .i64 ((keptL L p j).length:Int))∧M gu=some ⟨(keptL L p j++L.drop (keptL L p j).length).flatMap Cl.cs,e,n⟩∧¬S gu∧St j S M∧Mv (fun q=>Z0 q∨q=gu) M0 (fun q=>S q∨q=gu) M
def delR (gu cap n:Nat)(e:TypeId)(L:List Cl)(p:Cl→Bool)(St:Nat→(Nat→Prop)→Hp→Prop)(S:Nat→Prop)(F:Fz)(M:Hp)(r:Value)(F':Fz)(M':Hp):Prop:=
 F'=F∧r=.slice (some ⟨gu,0,none⟩) (L.filter (fun x=>!p x)).length cap∧Old F M'∧M' gu=some ⟨(L.filter (fun x=>!p x)).flatMap Cl.cs,e,n⟩∧∃S',¬S' gu∧St L.length S' M'∧Mv (fun q=>S q∨q=gu) M (fun q=>S' q∨q=gu) M'
theorem k177 (gu cap n:Nat)(e:TypeId)(L:List Cl)(g:Nat)(ca:List Value)(p:Cl→Bool)(St:Nat→(Nat→Prop)→Hp→Prop)(S:Nat→Prop)(h:DelCl Tryz.prog F g ca Cl.val L p St)(hS:St 0 S M)(hgu:¬S gu)(hM:M gu=some ⟨L.flatMap Cl.cs,e,n⟩)(hold:Old F M)(hl:L.length≤100000)(hcap:L.length≤cap∧cap≤maxLen) :
  CallsA Tryz.prog 177 [.slice (some ⟨gu,0,none⟩) L.length cap,.func (.func g) #[] ca.toArray] F M (delR gu cap n e L p St S F M):=by
 refine qZ hm Tryz.func177 e177 (Nat.le_of_ble_eq_true rfl) ?_
 have hFg:=hold.free hM
 have kx:=idxS F M gu cap n e L g ca p St S h hS hgu hM hold hl
 simp only [c177,go_sem]
 refine qY kx ?_
 rintro r G M1 ⟨hG,old1,S1,mv1,hcase⟩
 replace hG:=hG.symm
 subst hG
 refine ⟨(fun h=>by cases h),?_⟩
 have g1:=mv1.stay _ _ hM hgu
 have hgu1:¬S1 gu:=fun hs=>by
  rcases mv1.new gu hs with h1 | h1
  ·exact hgu h1
  ·rw [h1] at hM; cases hM
 rcases hcase with ⟨rfl,ha,hS1⟩ | ⟨i,hi,rfl,hpi,ha,hS1⟩
 ·have ef:L.filter (fun x=>!p x)=L:=by
   have:=filter_take (L:=L) (p:=p) (i:=L.length) (by rw [List.take_length]; exact ha)
   rwa [List.take_length] at this
  simp only [go_sem]
  refine qW ?_
  unfold delR
  rw [ef]
  exact ⟨rfl,rfl,old1,g1,S1,hgu1,hS1,mv1.add⟩
 have hn1:¬(i:Int) = -1:=by omega
 have e1:IntKind.i64.wrap ((i:Int)+1)=((i+1:Nat):Int):=by rw [w64 (by omega) (by omega)]; omega
 simp only [go_sem,hn1,e1]
 have k0:keptL L p (i+1)=L.take i:=by
  unfold keptL
  rw [List.take_succ_eq_append_getElem hi,List.filter_append,filter_take ha]
  simp [hpi]
 have kl:(L.take i).length=i:=by rw [List.length_take]; omega
 refine loop_st (dlT L p St S gu n e F M) (L.length - (i+1)) ⟨rfl,old1,i+1,S1,by omega,(by simp only [go_sem, *] <;> rfl),?_,?_,hgu1,hS1,mv1.add⟩ ?_
 ·rw [k0,kl]; exact (by simp only [go_sem, *] <;> rfl)
 ·rw [k0,kl,List.take_append_drop]; exact g1
 clear k0 kl e1 hn1 hS1 mv1 g1 hgu1 ha hpi old1
 rintro m σ F' M2 hst ⟨rfl,old2,j,S2,hj,q6,q5,g2,hgu2,hS2,mv2⟩
 have q0:=hst 0 rfl
 have q1:=hst 1 rfl
 simp only [go_sem] at q0 q1
 clear hst
 have hkl:(keptL L p j).length≤j:=filter_le j
 by_cases hjl:(j:Int) < L.length
 ·have hjl':j < L.length:=by omega
  have hj0:(0:Int)≤j:=by omega
  have ej:IntKind.i64.wrap ((j:Int)+1)=((j+1:Nat):Int):=by rw [w64 (by omega) (by omega)]; omega
  have t1:keptL L p (j+1)=keptL L p j++(if p L[j]=true then [] else [L[j]]):=by
   unfold keptL
   rw [List.take_succ_eq_append_getElem hjl',List.filter_append]
   by_cases hp:p L[j]=true <;> simp [hp]
  obtain ⟨X,hX⟩:∃X,X=keptL L p j++L.drop (keptL L p j).length:=⟨_,rfl⟩
  have hXl:X.length=L.length:=by rw [hX,List.length_append,List.length_drop]; omega
  have hXj:j < X.length:=by omega
  have hXe:X[j]=L[j]:=by
   simp only [hX]
   rw [List.getElem_append_right (by omega),List.getElem_drop]
   congr 1; omega
  have hbk:=qG (F:=F) g2
  rw [←hX] at hbk
  have d1:j * 10+10≤(X.flatMap Cl.cs).length:=by
   rw [gW Cl.len]
   have:(j+1) * 10≤X.length * 10:=Nat.mul_le_mul_right _ hXj
   omega
  have d2:=flatG_get Cl.len X j hXj
  rw [hXe] at d2
  have hq:=h.call j hjl'
  have hkd:L.drop (keptL L p j).length=L[(keptL L p j).length] :: L.drop ((keptL L p j).length+1):=List.drop_eq_getElem_cons (by omega)
  generalize hv:L[j]=v at *
  simp only [go_sem,q0,q6,hjl,hj0,Int.toNat_natCast,hbk,d1,d2,Nat.zero_add]
  intro r7 hF7 hM7
  simp only [setH,Hp.wG,go_sem]
  have kp7:Keep M2 (M2.upd r7 ⟨v.cs,84,10⟩):=(Keep.refl _).new hM7
  have old7:Old F (M2.upd r7 ⟨v.cs,84,10⟩):=old2.upd hF7
  have f7:(M2.upd r7 ⟨v.cs,84,10⟩) r7=some ⟨v.cs,84,10⟩:=Hp.qJ _ _ _
  have hs7:¬S2 r7:=fun hs=>h.dom j S2 M2 r7 hS2 hs hM7
  have hS7:St j S2 (M2.upd r7 ⟨v.cs,84,10⟩):=h.stab j S2 M2 _ hS2 (fun q x hq _=>kp7 q x hq)
  have mv7:Mv S2 M2 S2 (M2.upd r7 ⟨v.cs,84,10⟩):=Mv.keep kp7
  have g7:=kp7 _ _ g2
  have n7:¬r7=gu:=by rintro rfl; rw [g2] at hM7; cases hM7
  generalize M2.upd r7 ⟨v.cs,84,10⟩=M3 at *
  have b7:=qG (F:=F) f7
  simp only [go_sem,q1,b7]
  refine qY (hq S2 M3 hS7 old7) ?_
  rintro r G M4 ⟨hG,rfl,old4,S3,hS3,mv4⟩
  replace hG:=hG.symm
  subst hG
  refine ⟨(fun h=>by cases h),?_⟩
  have g4:=mv4.stay _ _ g7 hgu2
  have b74:=qG (F:=F) (mv4.stay _ _ f7 hs7)
  have hgu3:¬S3 gu:=fun hs=>by
   rcases mv4.new gu hs with h1 | h1
   ·exact hgu2 h1
   ·rw [h1] at g7; cases g7
  have mvA:=mv2.trans (mv7.trans mv4).add
  by_cases hp:p v=true
  ·rw [hp,if_pos rfl,List.append_nil] at t1
   simp only [go_sem,hp,q6,ej]
   refine ⟨L.length - (j+1),by omega,rfl,old4,j+1,S3,by omega,(by simp only [go_sem, *] <;> rfl),?_,?_,hgu3,hS3,mvA⟩
   ·rw [t1]; exact (by simp only [go_sem, *] <;> rfl)
   ·rw [t1]; exact g4
  ·have hp':p v=false:=by simpa using hp
   rw [hp',if_neg (by decide)] at t1
   have ek:IntKind.i64.wrap (((keptL L p j).length:Int)+1)=(((keptL L p j).length+1:Nat):Int):=by rw [w64 (by omega) (by omega)]; omega
   have hkl1:((keptL L p j).length:Int) < L.length:=by omega
   have hkl0:(0:Int)≤(keptL L p j).length:=by omega
   have hst:=flat_set Cl.len (A:=keptL L p j) (B:=L.drop ((keptL L p j).length+1)) (x:=L[(keptL L p j).length]'(by omega)) (y:=v)
   rw [←hkd] at hst
   have d3:(keptL L p j).length * 10+10≤((keptL L p j++L.drop (keptL L p j).length).flatMap Cl.cs).length:=by
    rw [gW Cl.len,←hX,hXl]
    have:((keptL L p j).length+1) * 10≤L.length * 10:=Nat.mul_le_mul_right _ (by omega)
    omega
   have hFgu:=old4.free g4
   have t2:(keptL L p (j+1)).length=(keptL L p j).length+1:=by rw [t1]; simp
   simp only [setH,go_sem,hp',q0,q5,q6,b74,hkl1,hkl0,Int.toNat_natCast,g4,d3,hst,ek,ej,Nat.zero_add]
   refine ⟨L.length - (j+1),by omega,rfl,old4.upd hFgu,j+1,S3,by omega,(by simp only [go_sem, *] <;> rfl),?_,?_,hgu3,?_,mvA.trans Mv.own⟩
   ·rw [t2]; exact (by simp only [go_sem, *] <;> rfl)
   ·rw [t2,t1]; exact Hp.qJ _ _ _
   ·exact h.stab _ _ _ _ hS3 (fun q x hq hs=>by
     have:¬q=gu:=by rintro rfl; exact hgu3 hs
     rw [Hp.qK this]; exact hq)
 ·have hje:j=L.length:=by omega
  subst hje
  have kf:keptL L p L.length=L.filter (fun x=>!p x):=by unfold keptL; rw [List.take_length]
  rw [kf] at q5 g2 hkl
  have hgu3:=hgu2
  obtain ⟨N,hN⟩:∃N,N=L.filter (fun x=>!p x):=⟨_,rfl⟩
  rw [←hN] at q5 g2 hkl
  have hk0:(0:Int)≤N.length:=by omega
  have hk1:(N.length:Int)≤L.length:=by omega
  have hk2:(N.length:Int)≤cap:=by omega
  simp only [go_sem,q0,q5,q6,hjl,hk0,hk1,Int.toNat_natCast]
  have hz:wZ [Value.int IntKind.i64 0,Value.int IntKind.i64 0,Value.int IntKind.i64 0,Value.int IntKind.i64 0,Value.bool false,Value.int IntKind.i64 0,Value.int IntKind.i64 0,Value.int IntKind.i64 0,Value.int IntKind.i64 0,Value.slice none 0 0]:=fun u hu=>by
   simp only [List.mem_cons,List.not_mem_nil,or_false] at hu
   rcases hu with rfl | rfl | rfl | rfl | rfl | rfl | rfl | rfl | rfl | rfl <;> rfl
  have hNl:=gW Cl.len N
  have hcl:(N++L.drop N.length).flatMap Cl.cs=N.flatMap Cl.cs++(L.drop N.length).flatMap Cl.cs:=by simp
  rw [hcl] at g2
  by_cases hNL:N.length=L.length
  ·refine ⟨_,_,_,rfl,hz,rfl,.inl ⟨by omega,?_⟩⟩
   have e0:(L.drop N.length).flatMap Cl.cs=[]:=by rw [List.drop_eq_nil_of_le (by omega)]; rfl
   rw [e0,List.append_nil] at g2
   simp only [go_sem,q0,q5,hk0,hk1,hcap.1,Int.toNat_natCast]
   refine qW ?_
   unfold delR
   rw [←hN]
   exact ⟨rfl,rfl,old2,g2,S2,hgu2,hS2,mv2⟩
  ·have hcn:¬(cap:Int)=N.length:=by omega
   have hdl:=gW Cl.len (L.drop N.length)
   rw [List.length_drop] at hdl
   refine ⟨_,_,_,rfl,hz,rfl,.inr ⟨by omega,gu,N.length * 10,⟨N.flatMap Cl.cs++(L.drop N.length).flatMap Cl.cs,e,n⟩,by rw [if_neg hcn],g2,?_,?_⟩⟩
   ·show N.length * 10+(L.length - N.length) * 10≤(N.flatMap Cl.cs++(L.drop N.length).flatMap Cl.cs).length
    rw [List.length_append,hNl,hdl]; omega
   have et:List.take (N.length * 10) (N.flatMap Cl.cs++(L.drop N.length).flatMap Cl.cs)=N.flatMap Cl.cs:=List.take_left' hNl
   simp only [go_sem,q0,q5,hk0,hk1,hcap.1,Int.toNat_natCast,et]
   have hFgu:=old2.free g2
   rw [List.append_assoc]
   refine ⟨_,_,Wk.short (r:=gu) (c:=N.flatMap Cl.cs) (Hp.qJ _ _ _) (List.prefix_append _ _),?_⟩
   rw [Hp.wG]
   unfold delR
   rw [←hN]
   refine ⟨rfl,rfl,old2.upd hFgu,Hp.qJ _ _ _,S2,hgu2,h.stab _ _ _ _ hS2 (fun q x hq hs=>?_),mv2.trans Mv.own⟩
   have:¬q=gu:=by rintro rfl; exact hgu2 hs
   rw [Hp.qK this]; exact hq
def exactR (s:Si)(b at_ k:Int)(F:Fz)(M:Hp)(r:Value)(F':Fz)(M':Hp):Prop:=
 F'=F∧M'=M∧((s.e.cells.any (exactC s.p.ptr b at_ k)=false∧r=.int .i64 (-1))∨∃i:Nat,r=.int .i64 i∧∃hi:i < s.e.cells.length,exactC s.p.ptr b at_ k s.e.cells[i]=true)
theorem k138 (s:Si)(b at_ k:Int)(hk:isS k=true)(h:RdG 10 Cl.cs F M (.slice s.e.cellsA s.e.cells.length s.e.cellsC) s.e.cells)(hold:Old F M) :
  CallsA Tryz.prog 138 [s.val,.int .i64 b,.int .i64 at_,.int .i64 k] F M (exactR s b at_ k F M):=by
 refine qZ hm Tryz.func138 e138 (Nat.le_of_ble_eq_true rfl) ?_
 simp only [c138,go_sem]
 intro r4 hF4 hM4
 generalize eQ:M.upd r4 ⟨s.cs,132,10⟩=M1 at *
 obtain ⟨kp4,old4,f4⟩:=nw eQ hold hF4 hM4
 clear eQ
 simp only [go_sem]
 intro r5 hF5 hM5
 generalize eQ:M1.upd r5 ⟨[.int .i64 b],3,1⟩=M2 at *
 obtain ⟨kp5,old5,f5⟩:=nw eQ old4 hF5 hM5
 clear eQ
 simp only [go_sem]
 intro r6 hF6 hM6
 generalize eQ:M2.upd r6 ⟨[.int .i64 at_],3,1⟩=M3 at *
 obtain ⟨kp6,old6,f6⟩:=nw eQ old5 hF6 hM6
 clear eQ
 simp only [go_sem]
 intro r7 hF7 hM7
 generalize eQ:M3.upd r7 ⟨[.int .i64 k],3,1⟩=M4 at *
 obtain ⟨kp7,old7,f7⟩:=nw eQ old6 hF7 hM7
 clear eQ
 have g6:=kp7 _ _ f6
 have g5:=kp7 _ _ (kp6 _ _ f5)
 have g4:=kp7 _ _ (kp6 _ _ (kp5 _ _ f4))
 have kp:=((kp4.trans kp5).trans kp6).trans kp7
 clear hM4 hM5 hM6 hM7 kp4 kp5 kp6 kp7 old4 old5 old6
 have b4:=qG (F:=F) g4
 have kx:=k183 F M4 s.e.cellsA s.e.cellsC s.e.cells 184 [.pointer (some ⟨r5,0,none⟩),.pointer (some ⟨r6,0,none⟩),.pointer (some ⟨r7,0,none⟩),.pointer (some ⟨r4,0,none⟩)] (exactC s.p.ptr b at_ k) (h.keep kp old7) (fun c _=>k184 F M4 s c b at_ k r4 r5 r6 r7 hk g4 g5 g6 f7)
 simp only [go_sem,b4]
 refine qY kx ?_
 rintro r G M' ⟨hG,hM,hz⟩
 rw [hG,hM]
 refine ⟨(fun h=>by cases h),?_⟩
 rcases hz with ⟨h1,rfl⟩ | ⟨i,rfl,hi,h1,_⟩
 ·simp only [go_sem]
  exact qX kp ⟨rfl,rfl,.inl ⟨h1,rfl⟩⟩
 ·simp only [go_sem]
  exact qX kp ⟨rfl,rfl,.inr ⟨i,rfl,hi,h1⟩⟩
structure Look (F:Fz)(s:Si)(m:List Bl):Prop where
 hc:yK s.p=true
 fit:FitM s.p m
 mir:Mir s.p s.e.pe.cells m
 row:∀M,Old F M→RdG 10 Cl.cs F M (.slice s.e.cellsA s.e.cells.length s.e.cellsC) s.e.cells
 rows:∀c∈s.e.cells,∀M,Old F M→c.rd F M
 no:s.e.no=false
theorem Look.inC {F:Fz}{s:Si}{m:List Bl}(h:Look F s m){c:Cl}(hc:c∈s.e.cells):CellIn s.p m c.pc:=h.mir.cells _ (List.mem_map_of_mem hc)
theorem Look.near {F:Fz}{s:Si}{m:List Bl}(h:Look F s m){c:Cl}(hc:c∈s.e.cells):0≤c.p∧c.p≤32:=by
 have ci:=h.inC hc
 have:=jX (jW h.hc).1 ci.can.kind
 have f:=ci.fits
 obtain ⟨i,hi⟩:=Int.eq_ofNat_of_zero_le (by have:=ci.blk; omega:0≤c.pc.b)
 rw [hi,yH (by have:=ci.blk; omega)] at f
 have:=(h.fit.bytes i (by have:=ci.blk; omega)).2.2.2
 have:=ci.pos
 have e:c.pc.p=c.p:=rfl
 omega
def byI (s:Si)(b j:Nat)(r3 r6:Nat)(F0:Fz)(M0:Hp)(i:Nat)(σ:Env)(F:Fz)(M:Hp):Prop:=
 F0=F∧Keep M0 M∧Old F0 M∧Ax.look σ 13=some (.int .i64 i)∧∀c∈s.e.cells.take i,¬OverC s.p.ptr b j c.pc
theorem k139 (s:Si)(m:List Bl)(b j:Nat)(h:Look F s m)(hold:Old F M)(hj:j < (yZ m (b:Int)).l.length) :
  CallsA Tryz.prog 139 [s.val,.int .i64 b,.int .i64 j] F M (guMade (yQ (yZ m (b:Int)).l j) F M):=by
 refine qZ hm Tryz.func139 e139 (Nat.le_of_ble_eq_true rfl) ?_
 have hp:=(jW h.hc).1
 have hj32:j≤32:=by
  rcases Nat.lt_or_ge b m.length with hb | hb
  ·rw [yH hb] at hj; have:=(h.fit.bytes b hb).2.2.2; omega
  ·unfold yZ at hj; rw [Int.toNat_natCast,List.getElem?_eq_none hb] at hj; simp at hj
 have hcl:=(h.row M hold).1
 simp only [c139,go_sem]
 intro r3 hF3 hM3
 generalize eQ:M.upd r3 ⟨s.cs,132,10⟩=M1 at *
 obtain ⟨kp3,old3,f3⟩:=nw eQ hold hF3 hM3
 clear eQ
 simp only [go_sem]
 intro r6 hF6 hM6
 have kp6:Keep M1 (M1.upd r6 ⟨[.bool false,.int .i64 0,.bool false,.int .i64 0,.int .i64 0,.int .i64 0,.int .i64 0,.int .i64 0,.bool false,.int .i64 0,.int .i64 0,.int .i64 0,.int .i64 0,.slice none 0 0],185,14⟩):=(Keep.refl _).new hM6
 have old6:Old F (M1.upd r6 ⟨[.bool false,.int .i64 0,.bool false,.int .i64 0,.int .i64 0,.int .i64 0,.int .i64 0,.int .i64 0,.bool false,.int .i64 0,.int .i64 0,.int .i64 0,.int .i64 0,.slice none 0 0],185,14⟩):=old3.upd hF6
 have f6:(M1.upd r6 ⟨[.bool false,.int .i64 0,.bool false,.int .i64 0,.int .i64 0,.int .i64 0,.int .i64 0,.int .i64 0,.bool false,.int .i64 0,.int .i64 0,.int .i64 0,.int .i64 0,.slice none 0 0],185,14⟩) r6=some ⟨[.bool false,.int .i64 0,.bool false,.int .i64 0,.int .i64 0,.int .i64 0,.int .i64 0,.int .i64 0,.bool false,.int .i64 0,.int .i64 0,.int .i64 0,.int .i64 0,.slice none 0 0],185,14⟩:=Hp.qJ _ _ _
 have n6:M r6=none:=kp3.free hM6
 generalize M1.upd r6 ⟨[.bool false,.int .i64 0,.bool false,.int .i64 0,.int .i64 0,.int .i64 0,.int .i64 0,.int .i64 0,.bool false,.int .i64 0,.int .i64 0,.int .i64 0,.int .i64 0,.slice none 0 0],185,14⟩=M2 at *
 have g3:=kp6 _ _ f3
 have kp:=kp3.trans kp6
 clear hM3 hM6 kp3 kp6 old3
 have b3:=qG (F:=F) g3
 simp only [go_sem,b3]
 refine yX s.e.cells.length (byI s b j r3 r6 F M2) ⟨rfl,Keep.refl _,old6,(by simp only [go_sem, *] <;> rfl),fun c hc=>by simp at hc⟩ ?_
 rintro i σ F' M3 hi hst ⟨rfl,kp3,old3,q13,hno⟩
 have q1:=hst 1 rfl
 have q2:=hst 2 rfl
 have q3:=hst 3 rfl
 have q6:=hst 6 rfl
 have q11:=hst 11 rfl
 have q12:=hst 12 rfl
 simp only [go_sem] at q1 q2 q3 q6 q11 q12
 clear hst
 by_cases hil:(i:Int) < s.e.cells.length
 rotate_left
 ·rw [List.take_of_length_le (by omega)] at hno
  obtain ⟨c,hc,ho⟩:=h.mir.cover b j hj
  obtain ⟨c',hc',rfl⟩:=List.mem_map.1 hc
  exact absurd ho (hno c' hc')
 have hi0:(0:Int)≤i:=by omega
 have hi1:i < s.e.cells.length:=by omega
 have ei:IntKind.i64.wrap ((i:Int)+1)=i+1:=w64 (by omega) (by omega)
 have t1:=List.take_succ_eq_append_getElem hi1
 obtain ⟨bb,o,cs,ea,hb,rows⟩:=(h.row M3 old3).rows (by omega)
 obtain ⟨d1,d2⟩:=rows i hi1
 clear rows
 have hci:=h.inC (List.getElem_mem hi1)
 have hcn:=h.near (List.getElem_mem hi1)
 have hcr:=h.rows _ (List.getElem_mem hi1)
 generalize s.e.cells[i]=c at *
 simp only [go_sem,q11,q12,q13,hil,hi0,ea,Int.toNat_natCast,hb,d1,d2]
 intro r8 hF8 hM8
 simp only [setH,Hp.wG,go_sem]
 generalize eQ:M3.upd r8 ⟨c.cs,84,10⟩=M4 at *
 obtain ⟨kp8,old8,f8⟩:=nw eQ old3 hF8 hM8
 clear eQ
 have kp4:=kp3.trans kp8
 have b34:=qG (F:=F) (kp4 _ _ g3)
 have b8:=qG (F:=F) f8
 simp only [go_sem,q1,q2,q3,b34,b8]
 have hkd:c.k=0∨c.k=11∨isS c.k=true:=hci.can.kind
 have kov:=k179 F M4 s.p.big s.p.ptr c b j 1 hp hkd ⟨hcn.1,by omega⟩ ⟨by omega,by omega⟩ ⟨by omega,by omega⟩
 with_reducible refine qQ kov ?_
 have hov:overV s.p.ptr c.pc b j 1=true↔OverC s.p.ptr b j c.pc:=by
  unfold overV OverC
  simp only [Bool.and_eq_true,decide_eq_true_eq]
  omega
 cases ho:overV s.p.ptr c.pc b j 1
 ·simp only [go_sem,q13,ei]
  refine ⟨hi1,rfl,kp4,old8,(by simp only [go_sem, *] <;> rfl),fun x hx=>?_⟩
  rw [t1] at hx
  rcases List.mem_append.1 hx with hx | hx
  ·exact hno x hx
  ·rw [List.mem_singleton.1 hx]; intro h'; rw [hov.2 h'] at ho; cases ho
 ·have hO:=hov.1 ho
  have hby:=hci.byte hO
  simp only [go_sem,q2,q3,b34,b8]
  have ks:=k181 F M4 s.p.big s.p.ptr c j hp old8 hcr hci.can ⟨hcn.1,by omega⟩ ⟨hO.2.1,hO.2.2⟩
  have et:((j:Int) - c.p).toNat=j - c.pc.p.toNat:=by show ((j:Int) - c.p).toNat=j - c.p.toNat; omega
  rw [et,hby] at ks
  with_reducible refine qY ks ?_
  rintro u G M5 ⟨hG,kp5,old5,g,rfl,hg,hx⟩
  replace hG:=hG.symm
  subst hG
  refine ⟨(fun h=>by cases h),?_⟩
  have f65:=kp5 _ _ (kp4 _ _ f6)
  simp only [setH,go_sem,q6,f65]
  refine qW ⟨rfl,((kp.trans kp4).trans kp5).new n6,old5.upd hF6,g,rfl,hg.step (fun r x hr hne=>?_),hx⟩
  have:¬r=r6:=by rintro rfl; rw [f65] at hr; cases hr; exact absurd (show (185:TypeId)=102 from hne) (by decide)
  rw [Hp.qK this]; exact hr
structure OneC (x:By)(c:Cl):Prop where
 can:CanC c.pc
 span:∀ptr,wX ptr c.k=1
 is:∀big ptr,jZ big ptr c.pc=[x]
 known:∀y∈c.l,x.st=2∧y.b=x.b
theorem byteV_small {n:Int}(h:0≤n∧n≤255):byteV n 0=n:=by
 obtain ⟨m,rfl⟩:=Int.eq_ofNat_of_zero_le h.1
 rw [byteV_nat m 0 (by omega)]
 simp only [Nat.pow_zero,Nat.div_one]
 omega
theorem OneC.none {b p:Int}{a:Option Addr}{c:Nat}:OneC ⟨0,0,0,0,0⟩ ⟨b,p,0,V.zero,a,c,[]⟩:=
 ⟨.inl ⟨rfl,rfl,rfl⟩,fun _=>rfl,fun _ _=>rfl,fun y hy=>by cases hy⟩
theorem OneC.num {b p n:Int}{v:V}{a:Option Addr}{c:Nat}(h:Is1 v 8 n):OneC ⟨1,n,0,0,0⟩ ⟨b,p,1,v,a,c,[]⟩:=by
 have hr:=h.rng
 have hm:wH 8=255:=by decide
 refine ⟨.inr (.inr (.inr ⟨rfl,n,h,rfl⟩)),fun _=>rfl,fun big ptr=>?_,fun y hy=>by cases hy⟩
 have e:jZ big ptr (Cl.pc ⟨b,p,1,v,a,c,[]⟩)=putL big 1 ⟨false,v.wQ 0,0,0⟩:=rfl
 rw [e,h.at_]
 have:putL big 1 ⟨false,n,0,0⟩=[⟨1,byteV n 0,0,0,0⟩]:=by cases big <;> rfl
 rw [this,byteV_small ⟨hr.1,by omega⟩]
theorem OneC.part {b p bb o i:Int}{v vo:V}{a:Option Addr}{c:Nat}(h:Is1 v 8 i)(hi:i≤3)(h4:Is1 vo 8 o)(h5:1≤bb∧bb≤6)(h6:o≤32):OneC ⟨2,0,bb,o,i⟩ ⟨b,p,11,v,a,c,[⟨bb,vo⟩]⟩:=by
 refine ⟨.inr (.inl ⟨rfl,bb,o,i,vo,h,rfl,h4,h5,h6,hi⟩),fun _=>rfl,fun big ptr=>?_,fun y hy=>by rw [List.mem_singleton.1 hy]; exact ⟨rfl,rfl⟩⟩
 have e:jZ big ptr (Cl.pc ⟨b,p,11,v,a,c,[⟨bb,vo⟩]⟩)=[⟨2,0,(onlyB 7 V.zero [⟨bb,vo⟩]).1.b,(onlyB 7 V.zero [⟨bb,vo⟩]).1.o,v.wQ 0⟩]:=rfl
 rw [e,sole_only h4 h6,h.at_]
def CP (F:Fz)(M:Hp)(c:Cl):Prop:=∀M',Old F M'→(∀r x,M r=some x→x.elem=102→M' r=some x)→c.rd F M'
theorem CP.rd {F:Fz}{M:Hp}{c:Cl}(h:CP F M c)(o:Old F M):c.rd F M:=h M o (fun _ _ h _=>h)
theorem CP.step {F:Fz}{M M':Hp}{c:Cl}(h:CP F M c)(hk:∀r x,M r=some x→x.elem=102→M' r=some x):CP F M' c:=fun M2 o k=>h M2 o (fun r x hr hx=>k r x (hk r x hr hx) hx)
def cellR (b at_:Int)(x:By)(F:Fz)(M:Hp)(u:Value)(F':Fz)(M':Hp):Prop:=F'=F∧Keep M M'∧Old F M'∧∃c:Cl,u=.tuple #[c.val,.bool true]∧c.b=b∧c.p=at_∧OneC x c∧CP F M' c
theorem k142 (b at_:Int)(g:Gu)(x:By)(hold:Old F M)(hg:GP F M g)(hx:GuR g x):CallsA Tryz.prog 142 [.int .i64 b,.int .i64 at_,g.val] F M (cellR b at_ x F M):=by
 refine qZ hm Tryz.func142 e142 (Nat.le_of_ble_eq_true rfl) ?_
 simp only [c142,go_sem]
 intro r5 hF5 hM5
 generalize eQ:M.upd r5 ⟨g.cs,185,14⟩=M1 at *
 obtain ⟨kp5,old5,f5⟩:=nw eQ hold hF5 hM5
 clear eQ
 simp only [go_sem]
 intro r6 hF6 hM6
 have kp6:Keep M1 (M1.upd r6 ⟨(⟨0,0,0,V.zero,none,0,[]⟩:Cl).cs,84,10⟩):=(Keep.refl _).new hM6
 have old6:Old F (M1.upd r6 ⟨(⟨0,0,0,V.zero,none,0,[]⟩:Cl).cs,84,10⟩):=old5.upd hF6
 have f6:(M1.upd r6 ⟨(⟨0,0,0,V.zero,none,0,[]⟩:Cl).cs,84,10⟩) r6=some ⟨(⟨0,0,0,V.zero,none,0,[]⟩:Cl).cs,84,10⟩:=Hp.qJ _ _ _
 have n6:M r6=none:=kp5.free hM6
 have e6:M1.upd r6 ⟨[.int .i64 0,.int .i64 0,.int .i64 0,.int .i64 0,.bool false,.int .i64 0,.int .i64 0,.int .i64 0,.int .i64 0,.slice none 0 0],84,10⟩=M1.upd r6 ⟨(⟨0,0,0,V.zero,none,0,[]⟩:Cl).cs,84,10⟩:=rfl
 rw [e6]
 generalize M1.upd r6 ⟨(⟨0,0,0,V.zero,none,0,[]⟩:Cl).cs,84,10⟩=M2 at *
 clear e6
 have eC:[Value.int .i64 b,.int .i64 at_,.int .i64 0,.int .i64 0,.bool false,.int .i64 0,.int .i64 0,.int .i64 0,.int .i64 0,.slice none 0 0]=(⟨b,at_,0,V.zero,none,0,[]⟩:Cl).cs:=rfl
 simp only [go_sem,eC]
 intro r8 hF8 hM8
 simp only [setH,Hp.wG,go_sem]
 have kp8:Keep M2 (M2.upd r8 ⟨(⟨b,at_,0,V.zero,none,0,[]⟩:Cl).cs,84,10⟩):=(Keep.refl _).new hM8
 have old8:Old F (M2.upd r8 ⟨(⟨b,at_,0,V.zero,none,0,[]⟩:Cl).cs,84,10⟩):=old6.upd hF8
 have f8:(M2.upd r8 ⟨(⟨b,at_,0,V.zero,none,0,[]⟩:Cl).cs,84,10⟩) r8=some ⟨(⟨b,at_,0,V.zero,none,0,[]⟩:Cl).cs,84,10⟩:=Hp.qJ _ _ _
 have n8:M r8=none:=(kp5.trans kp6).free hM8
 have n68:¬r6=r8:=by rintro rfl; rw [f6] at hM8; cases hM8
 have n58:¬r5=r8:=by rintro rfl; rw [kp6 _ _ f5] at hM8; cases hM8
 generalize M2.upd r8 ⟨(⟨b,at_,0,V.zero,none,0,[]⟩:Cl).cs,84,10⟩=M3 at *
 have n86:¬r8=r6:=fun e=>n68 e.symm
 have g5:=kp8 _ _ (kp6 _ _ f5)
 have g6:=kp8 _ _ f6
 have kp:=(kp5.trans kp6).trans kp8
 have b5:=qG (F:=F) g5
 have hgr:g.rd F M3:=(hg.step (fun r x hr _=>kp _ _ hr)).rd old8
 have ko:=fun a b c=>k194 F M3 g a b c hgr hx.num.1 hx.isv.1 hx.row
 obtain ⟨o1,o2,o3⟩:=only_st hx
 clear kp5 kp6 kp8 hM5 hM6 hM8 f5 f6 old5 old6 eC
 have k1:=ko true false false
 have k2:=ko false true false
 have k3:=ko false false true
 rw [o1] at k1
 rw [o2] at k2
 rw [o3] at k3
 clear ko o1 o2 o3
 have hbs:∀(d:Cl) r y,M3 r=some y→y.elem=102→((M3.upd r8 ⟨d.cs,84,10⟩).upd r6 ⟨d.cs,84,10⟩) r=some y:=fun d r y hr he=>by
  have m6:¬r=r6:=by rintro rfl; rw [g6] at hr; cases hr; exact absurd (show (84:TypeId)=102 from he) (by decide)
  have m8:¬r=r8:=by rintro rfl; rw [f8] at hr; cases hr; exact absurd (show (84:TypeId)=102 from he) (by decide)
  rw [Hp.qK m6,Hp.qK m8]; exact hr
 simp only [go_sem,b5]
 rcases hx.st with s | s | s
 ·obtain ⟨h1,h2,h3,h4,h5⟩:=hx.st0 s
  rw [s] at k1
  with_reducible refine qQ k1 ?_
  have z:decide ((0:Int)=0)=true:=rfl
  have b8:=qG (F:=F) f8
  simp only [setH,go_sem,b8,g6]
  refine qW ⟨rfl,kp.new n6,old8.upd hF6,⟨b,at_,0,V.zero,none,0,[]⟩,rfl,rfl,rfl,?_,fun _ _ _=>gX⟩
  rw [h1]; exact OneC.none
 ·obtain ⟨h1,h2,h3,h4,h5⟩:=hx.st1 s
  rw [s] at k1 k2
  have z1:decide ((1:Int)=0)=false:=rfl
  have z2:decide ((1:Int)=1)=true:=rfl
  rw [z1] at k1
  rw [z2] at k2
  with_reducible refine qQ k1 ?_
  simp only [go_sem,b5]
  with_reducible refine qQ k2 ?_
  simp only [go_sem,b5]
  with_reducible refine qQ (k143 F M3 g.num) ?_
  have eK:List.take 2 (⟨b,at_,0,V.zero,none,0,[]⟩:Cl).cs++[Value.int .i64 1]++yJ V.zero (Value.slice none 0 0)=(⟨b,at_,1,V.zero,none,0,[]⟩:Cl).cs:=rfl
  have eC:List.take 3 (⟨b,at_,1,V.zero,none,0,[]⟩:Cl).cs++yJ g.num (Value.slice none 0 0)=(⟨b,at_,1,g.num,none,0,[]⟩:Cl).cs:=rfl
  simp only [setH,Hp.wG,go_sem,f8,g6,n68,eK,eC]
  refine qW ⟨rfl,(kp.new n8).new n6,(old8.upd hF8).upd hF6,⟨b,at_,1,g.num,none,0,[]⟩,rfl,rfl,rfl,?_,fun _ _ _=>gX⟩
  rw [h1]; exact OneC.num h3
 ·obtain ⟨h1,h2,h3,h4,h5,h6,h7,vo,h8,h9⟩:=hx.st2 s
  rw [s] at k1 k2 k3
  have z1:decide ((2:Int)=0)=false:=rfl
  have z2:decide ((2:Int)=1)=false:=rfl
  have z3:decide ((2:Int)=2)=true:=rfl
  rw [z1] at k1
  rw [z2] at k2
  rw [z3] at k3
  with_reducible refine qQ k1 ?_
  simp only [go_sem,b5]
  with_reducible refine qQ k2 ?_
  simp only [go_sem,b5]
  with_reducible refine qQ k3 ?_
  simp only [go_sem,b5]
  have n58:¬r5=r8:=n58
  have eK:List.take 2 (⟨b,at_,0,V.zero,none,0,[]⟩:Cl).cs++[Value.int .i64 11]++yJ V.zero (Value.slice none 0 0)=(⟨b,at_,11,V.zero,none,0,[]⟩:Cl).cs:=rfl
  have eC:List.take 3 (⟨b,at_,11,V.zero,none,0,[]⟩:Cl).cs++yJ g.isv (Value.slice g.lA g.l.length g.lC)=(⟨b,at_,11,g.isv,g.lA,g.lC,g.l⟩:Cl).cs:=rfl
  simp only [setH,Hp.wG,go_sem,f8,g6,n68,n58,eK,eC]
  refine qW ⟨rfl,(kp.new n8).new n6,(old8.upd hF8).upd hF6,⟨b,at_,11,g.isv,g.lA,g.lC,g.l⟩,rfl,rfl,rfl,?_,fun M' o k=>(hg.step (fun r y hr _=>kp _ _ hr)).step (hbs ⟨b,at_,11,g.isv,g.lA,g.lC,g.l⟩) M' o k⟩
  rw [h1,h8]; exact OneC.part h4 h7 h9 h5 h6
def NearC (c:Cl):Prop:=(c.k=0∨c.k=11∨isS c.k=true)∧0≤c.p∧c.p≤1000
theorem k233 (t:Nat)(big:Bool)(ptr:Int)(u:Value)(c:Cl)(b k:Int)(r1 r2 r3:Nat)(f1:M r1=some ⟨[.pointer (some ⟨t,0,none⟩)],176,1⟩)(f2:M r2=some ⟨[.int .i64 b],3,1⟩)(f3:M r3=some ⟨[.int .i64 k],3,1⟩)
  (ft:M t=some ⟨[.bool big,.int .i64 ptr,u],180,3⟩)(hp:ptr=2∨ptr=4)(hc:NearC c)(hk:0≤k∧k≤1000) :
  CallsA Tryz.prog 233 [c.val,.pointer (some ⟨r1,0,none⟩),.pointer (some ⟨r2,0,none⟩),.pointer (some ⟨r3,0,none⟩)] F M (Same F M (.bool (overV ptr c.pc b k 1))):=by
 refine qZ hm Tryz.func233 e233 (Nat.le_of_ble_eq_true rfl) ?_
 obtain ⟨hc1,hc2⟩:=hc
 simp only [c233,go_sem]
 intro r4 hF4 hM4
 have kp4:Keep M (M.upd r4 ⟨c.cs,84,10⟩):=(Keep.refl _).new hM4
 have b1:=qG (F:=F) (kp4 _ _ f1)
 have b2:=qG (F:=F) (kp4 _ _ f2)
 have b3:=qG (F:=F) (kp4 _ _ f3)
 have bt:=qG (F:=F) (kp4 _ _ ft)
 have b4:=qG (F:=F) (Hp.qJ M r4 ⟨c.cs,84,10⟩)
 generalize M.upd r4 ⟨c.cs,84,10⟩=M1 at *
 simp only [go_sem,b1,b2,b3,b4,bt]
 with_reducible refine qQ (k179 F M1 big ptr c b k 1 hp hc1 hc2 hk ⟨by decide,by decide⟩) ?_
 simp only [go_sem]
 exact qX kp4 ⟨rfl,rfl,rfl⟩
theorem k180 (t:Nat)(big:Bool)(ptr:Int)(a:Option Addr)(cap:Nat)(T:List Cl)(b k:Int)(hold:Old F M)(ft:M t=some ⟨[.bool big,.int .i64 ptr,.slice a T.length cap],180,3⟩)(hT:RdG 10 Cl.cs F M (.slice a T.length cap) T)(hp:ptr=2∨ptr=4)(hc:∀c∈T,NearC c)(hk:0≤k∧k≤1000) :
  CallsA Tryz.prog 180 [.pointer (some ⟨t,0,none⟩),.int .i64 b,.int .i64 k] F M (Same F M (.bool (T.any fun c=>overV ptr c.pc b k 1))):=by
 refine qZ hm Tryz.func180 e180 (Nat.le_of_ble_eq_true rfl) ?_
 simp only [c180,go_sem]
 intro r3 hF3 hM3
 generalize eQ:M.upd r3 ⟨[.pointer (some ⟨t,0,none⟩)],176,1⟩=M1 at *
 obtain ⟨kp3,old3,f3⟩:=nw eQ hold hF3 hM3
 clear eQ
 simp only [go_sem]
 intro r4 hF4 hM4
 generalize eQ:M1.upd r4 ⟨[.int .i64 b],3,1⟩=M2 at *
 obtain ⟨kp4,old4,f4⟩:=nw eQ old3 hF4 hM4
 clear eQ
 simp only [go_sem]
 intro r5 hF5 hM5
 generalize eQ:M2.upd r5 ⟨[.int .i64 k],3,1⟩=M3 at *
 obtain ⟨kp5,old5,f5⟩:=nw eQ old4 hF5 hM5
 clear eQ
 have g3:=kp5 _ _ (kp4 _ _ f3)
 have g4:=kp5 _ _ f4
 have kp:=(kp3.trans kp4).trans kp5
 have gt:=kp _ _ ft
 clear hM3 hM4 hM5 kp3 kp4 kp5 old3 old4 f3 f4
 have b3:=qG (F:=F) g3
 have bt:=qG (F:=F) gt
 have kc:=k232 F M3 a cap T 233 [.pointer (some ⟨r3,0,none⟩),.pointer (some ⟨r4,0,none⟩),.pointer (some ⟨r5,0,none⟩)] (fun c=>overV ptr c.pc b k 1) (hT.keep kp old5) (fun c hcm=>k233 F M3 t big ptr _ c b k r3 r4 r5 g3 g4 f5 gt hp (hc c hcm) hk)
 simp only [go_sem,b3,bt]
 refine qQ kc ?_
 simp only [go_sem]
 exact qX kp ⟨rfl,rfl,rfl⟩
def clB (r4 r5 r6 r7 r8 t:Nat)(ug:Value)(q:Nat):Prop:=q=r4∨q=r5∨q=r6∨q=r7∨q=r8∨q=t∨∃n c,ug=.slice (some ⟨q,0,none⟩) n c
structure clV (F:Fz)(r4 r5 r6 r7 r8 t:Nat)(big:Bool)(ptr:Int)(ut:Value)(b a n:Int)(ug:Value)(G:List Cl)(M:Hp):Prop where
 f4:M r4=some ⟨[.pointer (some ⟨t,0,none⟩)],176,1⟩
 f5:M r5=some ⟨[.int .i64 b],3,1⟩
 f6:M r6=some ⟨[.int .i64 a],3,1⟩
 f7:M r7=some ⟨[.int .i64 n],3,1⟩
 f8:M r8=some ⟨[ug],44,1⟩
 ft:M t=some ⟨[.bool big,.int .i64 ptr,ut],180,3⟩
 own:jQ 10 Cl.cs 84 F M ug G
theorem clV.dom {F:Fz}{r4 r5 r6 r7 r8 t:Nat}{big:Bool}{ptr:Int}{ut:Value}{b a n:Int}{ug:Value}{G:List Cl}{M:Hp}(h:clV F r4 r5 r6 r7 r8 t big ptr ut b a n ug G M){q:Nat}(hq:clB r4 r5 r6 r7 r8 t ug q):¬M q=none:=by
 rcases hq with rfl | rfl | rfl | rfl | rfl | rfl | ⟨n',c,rfl⟩
 ·rw [h.f4]; simp
 ·rw [h.f5]; simp
 ·rw [h.f6]; simp
 ·rw [h.f7]; simp
 ·rw [h.f8]; simp
 ·rw [h.ft]; simp
 ·rcases h.own with ⟨h1,_⟩ | ⟨g,cap,h1,h2,h3,h4⟩
  ·cases h1
  ·cases h1; rw [h3]; simp
theorem clV.stab {F:Fz}{r4 r5 r6 r7 r8 t:Nat}{big:Bool}{ptr:Int}{ut:Value}{b a n:Int}{ug:Value}{G:List Cl}{M M':Hp}(h:clV F r4 r5 r6 r7 r8 t big ptr ut b a n ug G M)(hk:∀q x,M q=some x→clB r4 r5 r6 r7 r8 t ug q→M' q=some x):clV F r4 r5 r6 r7 r8 t big ptr ut b a n ug G M':=by
 refine ⟨hk _ _ h.f4 (.inl rfl),hk _ _ h.f5 (.inr (.inl rfl)),hk _ _ h.f6 (.inr (.inr (.inl rfl))),hk _ _ h.f7 (.inr (.inr (.inr (.inl rfl)))),hk _ _ h.f8 (.inr (.inr (.inr (.inr (.inl rfl))))),hk _ _ h.ft (.inr (.inr (.inr (.inr (.inr (.inl rfl)))))),?_⟩
 rcases h.own with h1 | ⟨g,cap,h1,h2,h3,h4⟩
 ·exact .inl h1
 ·exact .inr ⟨g,cap,h1,h2,hk _ _ h3 (.inr (.inr (.inr (.inr (.inr (.inr ⟨_,_,h1⟩)))))),h4⟩
theorem k178 (r4 r5 r6 r7 r8 t:Nat)(big:Bool)(ptr:Int)(ut:Value)(b a n:Int)(ug:Value)(G:List Cl)(c:Cl)(hp:ptr=2∨ptr=4)(hc:NearC c)(ha:0≤a∧a≤1000)(hn:0≤n∧n≤1000)(hG:G.length≤100000)(h:clV F r4 r5 r6 r7 r8 t big ptr ut b a n ug G M)(hold:Old F M) :
  CallsA Tryz.prog 178 [c.val,.pointer (some ⟨r4,0,none⟩),.pointer (some ⟨r5,0,none⟩),.pointer (some ⟨r6,0,none⟩),.pointer (some ⟨r7,0,none⟩),.pointer (some ⟨r8,0,none⟩)] F M fun r F' M'=>F'=F∧r=.bool (overV ptr c.pc b a n)∧Old F M'∧∃ug',clV F r4 r5 r6 r7 r8 t big ptr ut b a n ug' (if overV ptr c.pc b a n=true then G++[c] else G) M'∧Mv (clB r4 r5 r6 r7 r8 t ug) M (clB r4 r5 r6 r7 r8 t ug') M':=by
 refine qZ hm Tryz.func178 e178 (Nat.le_of_ble_eq_true rfl) ?_
 obtain ⟨hc1,hc2⟩:=hc
 simp only [c178,go_sem]
 intro rc hFc hMc
 have kpc:Keep M (M.upd rc ⟨c.cs,84,10⟩):=(Keep.refl _).new hMc
 have oldc:Old F (M.upd rc ⟨c.cs,84,10⟩):=hold.upd hFc
 have fc:(M.upd rc ⟨c.cs,84,10⟩) rc=some ⟨c.cs,84,10⟩:=Hp.qJ _ _ _
 have hV:clV F r4 r5 r6 r7 r8 t big ptr ut b a n ug G (M.upd rc ⟨c.cs,84,10⟩):=h.stab (fun q x hq _=>kpc q x hq)
 generalize M.upd rc ⟨c.cs,84,10⟩=M1 at *
 have b4:=qG (F:=F) hV.f4
 have b5:=qG (F:=F) hV.f5
 have b6:=qG (F:=F) hV.f6
 have b7:=qG (F:=F) hV.f7
 have b8:=qG (F:=F) hV.f8
 have bt:=qG (F:=F) hV.ft
 have bc:=qG (F:=F) fc
 simp only [go_sem,b4,b5,b6,b7,bt,bc]
 with_reducible refine qQ (k179 F M1 big ptr c b a n hp hc1 hc2 ha hn) ?_
 cases ho:overV ptr c.pc b a n
 ·simp only [go_sem]
  exact qX kpc ⟨rfl,rfl,hold,ug,h,Mv.refl⟩
 simp only [go_sem,b8,bc]
 intro rb hFb hMb
 have kpb:Keep M1 (M1.upd rb ⟨c.cs,84,10⟩):=(Keep.refl _).new hMb
 have oldb:Old F (M1.upd rb ⟨c.cs,84,10⟩):=oldc.upd hFb
 have hVb:clV F r4 r5 r6 r7 r8 t big ptr ut b a n ug G (M1.upd rb ⟨c.cs,84,10⟩):=hV.stab (fun q x hq _=>kpb q x hq)
 have bb:blk F (M1.upd rb ⟨c.cs,84,10⟩) rb=some c.cs:=wY
 have kp:=kpc.trans kpb
 generalize M1.upd rb ⟨c.cs,84,10⟩=M2 at *
 refine apG_of (f:=Cl.cs) (xs:=G) (ys:=[c]) Cl.len Cl.plain (by decide) hVb.own ⟨rfl,.inr ⟨⟨rb,0,none⟩,1,rfl,.inr ⟨rb,0,_,rfl,bb,by simp [Cl.take_all]⟩⟩⟩ (by simp) (by simp; omega) ?_
 rintro g cap M3 hg hFg rfl own3
 have ne:∀q e,M2 q=some e→¬e.elem=84→¬q=g:=fun q e hq hne=>by
  rintro rfl
  rcases hg with hg | ⟨cc,hg⟩
  ·rw [hq] at hg; cases hg
  ·rcases hVb.own with ⟨h1,_⟩ | ⟨g',cap',h1,h2,h3,h4⟩
   ·rw [hg] at h1; cases h1
   ·rw [hg] at h1; cases h1; rw [h3] at hq; cases hq; exact hne rfl
 have n4:=ne _ _ hVb.f4 (by simp)
 have n5:=ne _ _ hVb.f5 (by simp)
 have n6:=ne _ _ hVb.f6 (by simp)
 have n7:=ne _ _ hVb.f7 (by simp)
 have n8:=ne _ _ hVb.f8 (by simp)
 have nt:=ne _ _ hVb.ft (by simp)
 have f83:(M2.upd g ⟨(G++[c]).flatMap Cl.cs,84,cap * 10⟩) r8=some ⟨[ug],44,1⟩:=by rw [Hp.qK n8]; exact hVb.f8
 have old3:=oldb.upd (e:=⟨(G++[c]).flatMap Cl.cs,84,cap * 10⟩) hFg
 simp only [setH,Ax.N.k,go_sem,f83]
 have hF8:=old3.free f83
 have g8:¬g=r8:=fun e=>n8 e.symm
 have el:(G++[c]).length=G.length+1:=by simp
 refine qW ⟨rfl,rfl,old3.upd hF8,.slice (some ⟨g,0,none⟩) (G.length+1) cap,?_,?_⟩
 ·have ev:∀q,¬q=g→¬q=r8→((M2.upd g ⟨(G++[c]).flatMap Cl.cs,84,cap * 10⟩).upd r8 ⟨[.slice (some ⟨g,0,none⟩) (G.length+1) cap],44,1⟩) q=M2 q:=fun q h1 h2=>by rw [Hp.qK h2,Hp.qK h1]
  have m8:∀q e,M2 q=some e→¬e.elem=44→¬q=r8:=fun q e hq hne=>by
   rintro rfl; rw [hVb.f8] at hq; cases hq; exact hne rfl
  refine ⟨?_,?_,?_,?_,Hp.qJ _ _ _,?_,?_⟩
  ·rw [ev _ n4 (m8 _ _ hVb.f4 (by simp))]; exact hVb.f4
  ·rw [ev _ n5 (m8 _ _ hVb.f5 (by simp))]; exact hVb.f5
  ·rw [ev _ n6 (m8 _ _ hVb.f6 (by simp))]; exact hVb.f6
  ·rw [ev _ n7 (m8 _ _ hVb.f7 (by simp))]; exact hVb.f7
  ·rw [ev _ nt (m8 _ _ hVb.ft (by simp))]; exact hVb.ft
  ·rcases own3 with ⟨h1,_⟩ | ⟨g',cap',h1,h2,h3,h4⟩
   ·cases h1
   ·cases h1
    exact .inr ⟨g,cap,by rw [el],h2,by rw [Hp.qK g8]; exact h3,h4⟩
 ·refine ⟨fun q x hq hs=>?_,fun q hq=>?_⟩
  ·have m8:¬q=r8:=fun e=>hs (.inr (.inr (.inr (.inr (.inl e)))))
   have mg:¬q=g:=by
    rintro rfl
    rcases hg with hg | ⟨cc,hg⟩
    ·rw [kp _ _ hq] at hg; cases hg
    ·exact hs (.inr (.inr (.inr (.inr (.inr (.inr ⟨_,_,hg⟩))))))
   rw [Hp.qK m8,Hp.qK mg]; exact kp _ _ hq
  ·rcases hq with h1 | h1 | h1 | h1 | h1 | h1 | ⟨n',c',h1⟩
   ·exact .inl (.inl h1)
   ·exact .inl (.inr (.inl h1))
   ·exact .inl (.inr (.inr (.inl h1)))
   ·exact .inl (.inr (.inr (.inr (.inl h1))))
   ·exact .inl (.inr (.inr (.inr (.inr (.inl h1)))))
   ·exact .inl (.inr (.inr (.inr (.inr (.inr (.inl h1))))))
   ·cases h1
    rcases hg with hg | ⟨cc,hg⟩
    ·exact .inr (kp.free hg)
    ·exact .inl (.inr (.inr (.inr (.inr (.inr (.inr ⟨_,_,hg⟩))))))
end Go.Proofs.Tryz.K
namespace Go.Proofs.Tryz.K
open Go Go.Ax Go.Proofs.Tryz.S
set_option maxRecDepth 100000
set_option linter.unusedSimpArgs false
set_option linter.unusedVariables false
set_option maxHeartbeats 4000000
variable (F:Fz) (M:Hp)
theorem overV_hit {ptr:Int}{c:Pc}{b a n:Nat}:overV ptr c b a n=true↔HitC ptr b a n c:=by
 unfold overV HitC
 simp only [Bool.and_eq_true,decide_eq_true_eq]
theorem overV_one {ptr:Int}{c:Pc}{b k:Nat}:overV ptr c b k 1=true↔OverC ptr b k c:=by
 unfold overV OverC
 simp only [Bool.and_eq_true,decide_eq_true_eq]
 omega
theorem CellIn.near {p:Pg}{m:List Bl}(hp:p.ptr=2∨p.ptr=4)(hm:FitM p m){c:Pc}(h:CellIn p m c):0≤c.p∧c.p+wX p.ptr c.k≤32:=by
 have:=jX hp h.can.kind
 have f:=h.fits
 obtain ⟨i,hi⟩:=Int.eq_ofNat_of_zero_le (by have:=h.blk; omega:0≤c.b)
 rw [hi,yH (by have:=h.blk; omega)] at f
 have:=(hm.bytes i (by have:=h.blk; omega)).2.2.2
 have:=h.pos
 omega
def tbB (t:Nat)(u:Value)(q:Nat):Prop:=q=t∨∃n c,u=.slice (some ⟨q,0,none⟩) n c
structure clS (F:Fz)(M0:Hp)(u0:Value)(r4 r5 r6 r7 r8 t:Nat)(p:Pg)(m:List Bl)(b a n:Nat)(ug:Value)(G Y0:List Cl)(j i:Nat)(T:List Cl)(u:Value)(M:Hp):Prop where
 old:Old F M
 v:clV F r4 r5 r6 r7 r8 t p.big p.ptr u b a n ug G M
 own:jQ 10 Cl.cs 84 F M u T
 apart:∀g n c n' c',ug=.slice (some ⟨g,0,none⟩) n c→u=.slice (some ⟨g,0,none⟩) n' c'→False
 few:T.length≤200+4 * j+i
 rows:∀c∈T,CP F M c
 part:PartC p m b a n (G.map Cl.pc) (Y0.map Cl.pc) j i (T.map Cl.pc)
 mv:Mv (tbB t u0) M0 (tbB t u) M
section
variable {F:Fz} {M0:Hp} {u0:Value} {r4 r5 r6 r7 r8 t:Nat} {p:Pg} {m:List Bl} {b a n:Nat} {ug:Value} {G Y0:List Cl} {j i:Nat} {T:List Cl} {u:Value} {M M':Hp}
theorem clS.keep (h:clS F M0 u0 r4 r5 r6 r7 r8 t p m b a n ug G Y0 j i T u M)(kp:Keep M M')(o:Old F M'):clS F M0 u0 r4 r5 r6 r7 r8 t p m b a n ug G Y0 j i T u M':=
 ⟨o,h.v.stab (fun q x hq _=>kp q x hq),h.own.keep kp,h.apart,h.few,fun c hc=>(h.rows c hc).step (fun r x hr _=>kp r x hr),h.part,h.mv.trans (Mv.keep kp)⟩
theorem clS.turn (h:clS F M0 u0 r4 r5 r6 r7 r8 t p m b a n ug G Y0 j i T u M){j' i':Nat}(hf:4 * j+i≤4 * j'+i')(hp:PartC p m b a n (G.map Cl.pc) (Y0.map Cl.pc) j' i' (T.map Cl.pc)):clS F M0 u0 r4 r5 r6 r7 r8 t p m b a n ug G Y0 j' i' T u M:=
 ⟨h.old,h.v,h.own,h.apart,by have:=h.few; omega,h.rows,hp,h.mv⟩
theorem clS.app (h:clS F M0 u0 r4 r5 r6 r7 r8 t p m b a n ug G Y0 j i T u M){x:Cl}{g cap:Nat}(hg:M g=none∨∃c,u=.slice (some ⟨g,0,none⟩) T.length c)(hFg:F g=none)
  (own3:jQ 10 Cl.cs 84 F (M.upd g ⟨(T++[x]).flatMap Cl.cs,84,cap * 10⟩) (.slice (some ⟨g,0,none⟩) (T++[x]).length cap) (T++[x]))(hx:CP F M x)(hp:PartC p m b a n (G.map Cl.pc) (Y0.map Cl.pc) j (i+1) ((T++[x]).map Cl.pc)) :
  ¬t=g∧clS F M0 u0 r4 r5 r6 r7 r8 t p m b a n ug G Y0 j (i+1) (T++[x]) (.slice (some ⟨g,0,none⟩) (T.length+1) cap) ((M.upd g ⟨(T++[x]).flatMap Cl.cs,84,cap * 10⟩).upd t ⟨[.bool p.big,.int .i64 p.ptr,.slice (some ⟨g,0,none⟩) (T.length+1) cap],180,3⟩)∧
   ∀q y,M q=some y→¬q=t→¬q=g→((M.upd g ⟨(T++[x]).flatMap Cl.cs,84,cap * 10⟩).upd t ⟨[.bool p.big,.int .i64 p.ptr,.slice (some ⟨g,0,none⟩) (T.length+1) cap],180,3⟩) q=some y:=by
 have ne:∀q e,M q=some e→¬e.elem=84→¬q=g:=fun q e hq hne=>by
  rintro rfl
  rcases hg with hg | ⟨cc,hg⟩
  ·rw [hq] at hg; cases hg
  ·rcases h.own with ⟨h1,_⟩ | ⟨g',cap',h1,h2,h3,h4⟩
   ·rw [hg] at h1; cases h1
   ·rw [hg] at h1; cases h1; rw [h3] at hq; cases hq; exact hne rfl
 have nt:=ne _ _ h.v.ft (by simp)
 have mt:∀q e,M q=some e→¬e.elem=180→¬q=t:=fun q e hq hne=>by
  rintro rfl; rw [h.v.ft] at hq; cases hq; exact hne rfl
 have ev:∀q y,M q=some y→¬q=t→¬q=g→((M.upd g ⟨(T++[x]).flatMap Cl.cs,84,cap * 10⟩).upd t ⟨[.bool p.big,.int .i64 p.ptr,.slice (some ⟨g,0,none⟩) (T.length+1) cap],180,3⟩) q=some y:=fun q y hq h1 h2=>by
  rw [Hp.qK h1,Hp.qK h2]; exact hq
 have ev2:∀q y,M q=some y→¬y.elem=180→¬y.elem=84→((M.upd g ⟨(T++[x]).flatMap Cl.cs,84,cap * 10⟩).upd t ⟨[.bool p.big,.int .i64 p.ptr,.slice (some ⟨g,0,none⟩) (T.length+1) cap],180,3⟩) q=some y:=fun q y hq h1 h2=>ev q y hq (mt q y hq h1) (ne q y hq h2)
 have hFt:=h.old.free h.v.ft
 have gt:¬g=t:=fun e=>nt e.symm
 have el:(T++[x]).length=T.length+1:=by simp
 refine ⟨nt,⟨(h.old.upd hFg).upd hFt,⟨ev2 _ _ h.v.f4 (by simp) (by simp),ev2 _ _ h.v.f5 (by simp) (by simp),ev2 _ _ h.v.f6 (by simp) (by simp),ev2 _ _ h.v.f7 (by simp) (by simp),ev2 _ _ h.v.f8 (by simp) (by simp),Hp.qJ _ _ _,?_⟩,?_,?_,by have:=h.few; omega,fun c hc=>?_,hp,?_⟩,ev⟩
 ·rcases h.v.own with h1 | ⟨gg,cg,h1,h2,h3,h4⟩
  ·exact .inl h1
  ·refine .inr ⟨gg,cg,h1,h2,ev _ _ h3 (mt _ _ h3 (by simp)) ?_,h4⟩
   rintro rfl
   rcases hg with hg | ⟨cc,hg⟩
   ·rw [h3] at hg; cases hg
   ·exact h.apart _ _ _ _ _ h1 hg
 ·rcases own3 with ⟨h1,_⟩ | ⟨g',cap',h1,h2,h3,h4⟩
  ·cases h1
  ·cases h1
   exact .inr ⟨g,cap,by rw [el],h2,by rw [Hp.qK gt]; exact h3,h4⟩
 ·intro q n1 c1 n2 c2 e1 e2
  cases e2
  rcases hg with hg | ⟨cc,hg⟩
  ·rcases h.v.own with ⟨h1,_⟩ | ⟨gg,cg,h1,h2,h3,h4⟩
   ·rw [e1] at h1; cases h1
   ·rw [e1] at h1; cases h1; rw [h3] at hg; cases hg
  ·exact h.apart _ _ _ _ _ e1 hg
 ·have bs:∀r y,M r=some y→y.elem=102→((M.upd g ⟨(T++[x]).flatMap Cl.cs,84,cap * 10⟩).upd t ⟨[.bool p.big,.int .i64 p.ptr,.slice (some ⟨g,0,none⟩) (T.length+1) cap],180,3⟩) r=some y:=fun r y hr he=>ev2 r y hr (by rw [he]; decide) (by rw [he]; decide)
  rcases List.mem_append.1 hc with hc | hc
  ·exact (h.rows c hc).step bs
  ·rw [List.mem_singleton.1 hc]; exact hx.step bs
 ·refine h.mv.trans ⟨fun q y hq hs=>ev q y hq (fun e=>hs (.inl e)) ?_,fun q hq=>?_⟩
  ·rintro rfl
   rcases hg with hg | ⟨cc,hg⟩
   ·rw [hq] at hg; cases hg
   ·exact hs (.inr ⟨_,_,hg⟩)
  ·rcases hq with h1 | ⟨n1,c1,h1⟩
   ·exact .inl (.inl h1)
   ·cases h1
    rcases hg with hg | ⟨cc,hg⟩
    ·exact .inr hg
    ·exact .inl (.inr ⟨_,_,hg⟩)
end
end Go.Proofs.Tryz.K
namespace Go.Proofs.Tryz.K
open Go Go.Ax Go.Proofs.Tryz.S
variable (F:Fz) (M:Hp)
def clT (F:Fz)(r4 r5 r6 r7 r8 t:Nat)(big:Bool)(ptr:Int)(ut:Value)(b a n:Int)(L:List Cl)(i:Nat)(S:Nat→Prop)(M:Hp):Prop:=
 ∃ug,S=clB r4 r5 r6 r7 r8 t ug∧clV F r4 r5 r6 r7 r8 t big ptr ut b a n ug ((L.take i).filter fun c=>overV ptr c.pc b a n) M
theorem clDel (r4 r5 r6 r7 r8 t:Nat)(big:Bool)(ptr:Int)(ut:Value)(b a n:Int)(L:List Cl)(hp:ptr=2∨ptr=4)(hc:∀c∈L,NearC c)(ha:0≤a∧a≤1000)(hn:0≤n∧n≤1000)(hL:L.length≤100000) :
  DelCl Tryz.prog F 178 [.pointer (some ⟨r4,0,none⟩),.pointer (some ⟨r5,0,none⟩),.pointer (some ⟨r6,0,none⟩),.pointer (some ⟨r7,0,none⟩),.pointer (some ⟨r8,0,none⟩)] Cl.val L (fun c=>overV ptr c.pc b a n) (clT F r4 r5 r6 r7 r8 t big ptr ut b a n L):=by
 refine ⟨?_,?_,?_⟩
 ·rintro i hi S M ⟨ug,rfl,h⟩ hold
  have hl:((L.take i).filter fun c=>overV ptr c.pc b a n).length≤100000:=Nat.le_trans (filter_le i) (by omega)
  refine (k178 F M r4 r5 r6 r7 r8 t big ptr ut b a n ug _ L[i] hp (hc _ (List.getElem_mem hi)) ha hn hl h hold).mono ?_
  rintro v F' M' ⟨h1,h2,h3,ug',h4,h5⟩
  refine ⟨h1,h2,h3,_,⟨ug',rfl,?_⟩,h5⟩
  rw [List.take_succ_eq_append_getElem hi,List.filter_append]
  cases ho:overV ptr L[i].pc b a n
  ·rw [ho,if_neg (by decide)] at h4
   simpa [ho] using h4
  ·rw [ho,if_pos rfl] at h4
   simpa [ho] using h4
 ·rintro i S M M' ⟨ug,rfl,h⟩ hk
  exact ⟨ug,rfl,h.stab hk⟩
 ·rintro i S M q ⟨ug,rfl,h⟩ hq
  exact h.dom hq
def cloI (F0:Fz)(M0:Hp)(u0:Value)(r4 r5 r6 r7 r8 t:Nat)(p:Pg)(m:List Bl)(b a n:Nat)(ug:Value)(G Y0:List Cl)(j:Nat)(σ:Env)(F:Fz)(M:Hp):Prop:=
 F0=F∧Ax.look σ 26=some (.int .i64 j)∧∃T u,clS F0 M0 u0 r4 r5 r6 r7 r8 t p m b a n ug G Y0 j 0 T u M
def cliI (F0:Fz)(M0:Hp)(u0:Value)(r4 r5 r6 r7 r8 t:Nat)(p:Pg)(m:List Bl)(b a n:Nat)(ug:Value)(G Y0:List Cl)(j:Nat)(c:Cl)(r10:Nat)(i:Nat)(σ:Env)(F:Fz)(M:Hp):Prop:=
 F0=F∧Ax.look σ 37=some (.int .i64 i)∧∃T u,clS F0 M0 u0 r4 r5 r6 r7 r8 t p m b a n ug G Y0 j i T u M∧M r10=some ⟨c.cs,84,10⟩∧∀n c,u=.slice (some ⟨r10,0,none⟩) n c→False
def clearR (p:Pg)(m:List Bl)(t:Nat)(u0:Value)(b a n:Nat)(F:Fz)(M:Hp)(_:Value)(F':Fz)(M':Hp):Prop:=
 F'=F∧Old F M'∧∃T u,M' t=some ⟨[.bool p.big,.int .i64 p.ptr,u],180,3⟩∧jQ 10 Cl.cs 84 F M' u T∧T.length≤2000∧(∀c∈T,CP F M' c)∧Beside p (T.map Cl.pc) m b a n∧Mv (tbB t u0) M (tbB t u) M'
theorem k136 (p:Pg)(m:List Bl)(t gu cap:Nat)(L:List Cl)(b a n:Nat)(hc:yK p=true)(hfit:FitM p m)(hmir:Mir p (L.map Cl.pc) m)(hrow:∀c∈L,∀M',Old F M'→c.rd F M')(hold:Old F M)
  (ft:M t=some ⟨[.bool p.big,.int .i64 p.ptr,.slice (some ⟨gu,0,none⟩) L.length cap],180,3⟩)(hu:jQ 10 Cl.cs 84 F M (.slice (some ⟨gu,0,none⟩) L.length cap) L)(hb:1≤b)(ha:a+n≤32) :
  CallsA Tryz.prog 136 [.pointer (some ⟨t,0,none⟩),.int .i64 b,.int .i64 a,.int .i64 n] F M (clearR p m t (.slice (some ⟨gu,0,none⟩) L.length cap) b a n F M):=by
 refine qZ hm Tryz.func136 e136 (Nat.le_of_ble_eq_true rfl) ?_
 have hp:=(jW hc).1
 have hfew:=hmir.few hfit hc
 rw [List.length_map] at hfew
 have hin:∀c∈L,CellIn p m c.pc:=fun c hcm=>hmir.cells _ (List.mem_map_of_mem hcm)
 have hnear:∀c∈L,NearC c:=fun c hcm=>by
  have:=CellIn.near hp hfit (hin c hcm)
  have hs:=jX hp (hin c hcm).can.kind
  exact ⟨(hin c hcm).can.kind,this.1,by show c.pc.p≤1000; omega⟩
 obtain ⟨hM,hcap,hFgu⟩:M gu=some ⟨L.flatMap Cl.cs,84,cap * 10⟩∧(L.length≤cap∧cap≤maxLen)∧F gu=none:=by
  rcases hu with ⟨h1,_⟩ | ⟨g,cp,h1,h2,h3,h4⟩
  ·cases h1
  ·cases h1; exact ⟨h3,h4,h2⟩
 have n_t:¬gu=t:=by rintro rfl; rw [hM] at ft; simp at ft
 simp only [c136,go_sem]
 intro r4 hF4 hM4
 generalize eQ:M.upd r4 ⟨[.pointer (some ⟨t,0,none⟩)],176,1⟩=M1 at *
 obtain ⟨kp4,old4,f4⟩:=nw eQ hold hF4 hM4
 clear eQ
 simp only [go_sem]
 intro r5 hF5 hM5
 generalize eQ:M1.upd r5 ⟨[.int .i64 b],3,1⟩=M2 at *
 obtain ⟨kp5,old5,f5⟩:=nw eQ old4 hF5 hM5
 clear eQ
 simp only [go_sem]
 intro r6 hF6 hM6
 generalize eQ:M2.upd r6 ⟨[.int .i64 a],3,1⟩=M3 at *
 obtain ⟨kp6,old6,f6⟩:=nw eQ old5 hF6 hM6
 clear eQ
 simp only [go_sem]
 intro r7 hF7 hM7
 generalize eQ:M3.upd r7 ⟨[.int .i64 n],3,1⟩=M4 at *
 obtain ⟨kp7,old7,f7⟩:=nw eQ old6 hF7 hM7
 clear eQ
 simp only [go_sem]
 intro r8 hF8 hM8
 generalize eQ:M4.upd r8 ⟨[.slice none 0 0],44,1⟩=M5 at *
 obtain ⟨kp8,old8,f8⟩:=nw eQ old7 hF8 hM8
 clear eQ
 have z4:M r4=none:=hM4
 have z5:M r5=none:=kp4.free hM5
 have z6:M r6=none:=(kp4.trans kp5).free hM6
 have z7:M r7=none:=((kp4.trans kp5).trans kp6).free hM7
 have z8:M r8=none:=(((kp4.trans kp5).trans kp6).trans kp7).free hM8
 have kp:=(((kp4.trans kp5).trans kp6).trans kp7).trans kp8
 have hV:clV F r4 r5 r6 r7 r8 t p.big p.ptr (.slice (some ⟨gu,0,none⟩) L.length cap) b a n (.slice none 0 0) [] M5:=
  ⟨kp8 _ _ (kp7 _ _ (kp6 _ _ (kp5 _ _ f4))),kp8 _ _ (kp7 _ _ (kp6 _ _ f5)),kp8 _ _ (kp7 _ _ f6),kp8 _ _ f7,f8,kp _ _ ft,.inl ⟨rfl,rfl⟩⟩
 clear hM4 hM5 hM6 hM7 hM8 kp4 kp5 kp6 kp7 kp8 old4 old5 old6 old7 f4 f5 f6 f7 f8
 have gu5:=kp _ _ hM
 have hSgu:¬clB r4 r5 r6 r7 r8 t (.slice none 0 0) gu:=fun hq=>by
  rcases hq with h | h | h | h | h | h | ⟨_,_,h⟩
  ·rw [h,hV.f4] at gu5; simp at gu5
  ·rw [h,hV.f5] at gu5; simp at gu5
  ·rw [h,hV.f6] at gu5; simp at gu5
  ·rw [h,hV.f7] at gu5; simp at gu5
  ·rw [h,hV.f8] at gu5; simp at gu5
  ·exact n_t h
  ·cases h
 have kd:=k177 F M5 gu cap (cap * 10) 84 L _ _ _ _ _ (clDel F r4 r5 r6 r7 r8 t p.big p.ptr (.slice (some ⟨gu,0,none⟩) L.length cap) b a n L hp hnear ⟨by omega,by omega⟩ ⟨by omega,by omega⟩ (by omega)) ⟨.slice none 0 0,rfl,by simpa using hV⟩ hSgu gu5 old8 (by omega) hcap
 have b4:=qG (F:=F) hV.f4
 have bt:=qG (F:=F) hV.ft
 simp only [go_sem,b4,bt]
 refine vK kd ?_
 rintro r G' M6 ⟨hG,rfl,old6,g6,S6,hS6,⟨ug,rfl,hV6⟩,mv6⟩
 replace hG:=hG.symm
 subst hG
 rw [List.take_length] at hV6
 refine ⟨fun t ht=>?_,?_⟩
 ·rw [List.mem_singleton.1 ht]
  refine ⟨_,(by simp only [go_sem, *] <;> rfl),fun b o h=>?_⟩
  cases h
  rw [b4,qG (F:=F) hV6.f4]
 obtain ⟨Y0,hY0⟩:∃Y0,Y0=L.filter fun c=>!overV p.ptr c.pc b a n:=⟨_,rfl⟩
 obtain ⟨G,hGd⟩:∃G,G=L.filter fun c=>overV p.ptr c.pc b a n:=⟨_,rfl⟩
 rw [←hY0] at g6
 rw [←hGd] at hV6
 have ft6:=hV6.ft
 have b46:=qG (F:=F) hV6.f4
 obtain ⟨aG,cG,rfl⟩:∃aG cG,ug=.slice aG G.length cG:=by
  rcases hV6.own with ⟨h1,h2⟩ | ⟨g,cp,h1,_⟩
  ·exact ⟨none,0,by rw [h1,h2]; rfl⟩
  ·exact ⟨_,_,h1⟩
 have hYl:Y0.length≤192:=by rw [hY0]; exact Nat.le_trans (List.length_filter_le _ _) hfew
 have hYL:Y0.length≤L.length:=by rw [hY0]; exact List.length_filter_le _ _
 have hGl:G.length≤192:=by rw [hGd]; exact Nat.le_trans (List.length_filter_le _ _) hfew
 have hst:clS F M (.slice (some ⟨gu,0,none⟩) L.length cap) r4 r5 r6 r7 r8 t p m b a n (.slice aG G.length cG) G Y0 0 0 Y0 (.slice (some ⟨gu,0,none⟩) Y0.length cap) (M6.upd t ⟨[.bool p.big,.int .i64 p.ptr,.slice (some ⟨gu,0,none⟩) Y0.length cap],180,3⟩):=by
  have mt:∀q e,M6 q=some e→¬e.elem=180→¬q=t:=fun q e hq hne=>by
   rintro rfl; rw [ft6] at hq; cases hq; exact hne rfl
  have ev:∀q e,M6 q=some e→¬e.elem=180→(M6.upd t ⟨[.bool p.big,.int .i64 p.ptr,.slice (some ⟨gu,0,none⟩) Y0.length cap],180,3⟩) q=some e:=fun q e hq hne=>by
   rw [Hp.qK (mt q e hq hne)]; exact hq
  refine ⟨old6.upd (old6.free ft6),⟨ev _ _ hV6.f4 (by simp),ev _ _ hV6.f5 (by simp),ev _ _ hV6.f6 (by simp),ev _ _ hV6.f7 (by simp),ev _ _ hV6.f8 (by simp),Hp.qJ _ _ _,?_⟩,.inr ⟨gu,cap,rfl,hFgu,ev _ _ g6 (by simp),by omega,hcap.2⟩,?_,by omega,fun c hcm M' o _=>hrow c (by rw [hY0] at hcm; exact (List.mem_filter.1 hcm).1) M' o,?_,?_⟩
  ·rcases hV6.own with h1 | ⟨gg,cg,h1,h2,h3,h4⟩
   ·exact .inl h1
   ·exact .inr ⟨gg,cg,h1,h2,ev _ _ h3 (by simp),h4⟩
  ·intro g n1 c1 n2 c2 e1 e2
   cases e2
   exact hS6 (.inr (.inr (.inr (.inr (.inr (.inr ⟨_,_,e1⟩))))))
  ·refine PartC.start (fun c hcm=>?_) ?_
   ·obtain ⟨x,hx,rfl⟩:=List.mem_map.1 hcm
    rw [hY0] at hx
    obtain ⟨hx1,hx2⟩:=List.mem_filter.1 hx
    refine ⟨hin x hx1,fun hh=>?_⟩
    rw [overV_hit.2 hh] at hx2
    cases hx2
   ·have h1:=List.pairwise_map.1 hmir.apart
    rw [hY0]
    exact List.pairwise_map.2 (h1.filter _)
  ·refine ⟨fun q x hq hs=>?_,fun q hq=>?_⟩
   ·have e1:¬q=t:=fun e=>hs (.inl e)
    have e2:¬q=gu:=fun e=>hs (.inr ⟨_,_,by rw [e]⟩)
    rw [Hp.qK e1]
    refine mv6.stay q x (kp _ _ hq) fun hh=>?_
    rcases hh with hh | hh
    ·rcases hh with h | h | h | h | h | h | ⟨_,_,h⟩
     ·rw [h,z4] at hq; cases hq
     ·rw [h,z5] at hq; cases hq
     ·rw [h,z6] at hq; cases hq
     ·rw [h,z7] at hq; cases hq
     ·rw [h,z8] at hq; cases hq
     ·exact e1 h
     ·cases h
    ·exact e2 hh
   ·rcases hq with h1 | ⟨n1,c1,h1⟩
    ·exact .inl (.inl h1)
    ·cases h1; exact .inl (.inr ⟨_,_,rfl⟩)
 have hLG:∀c∈L.map Cl.pc,c∈Y0.map Cl.pc∨c∈G.map Cl.pc:=fun c hcm=>by
  obtain ⟨x,hx,rfl⟩:=List.mem_map.1 hcm
  cases ho:overV p.ptr x.pc b a n
  ·exact .inl (List.mem_map_of_mem (by rw [hY0]; exact List.mem_filter.2 ⟨hx,by simp [ho]⟩))
  ·exact .inr (List.mem_map_of_mem (by rw [hGd]; exact List.mem_filter.2 ⟨hx,ho⟩))
 have hGin:∀c∈G,c∈L∧HitC p.ptr b a n c.pc:=fun c hcm=>by
  rw [hGd] at hcm
  obtain ⟨h1,h2⟩:=List.mem_filter.1 hcm
  exact ⟨h1,overV_hit.1 h2⟩
 have hFt:F t=none:=old6.free ft6
 have f86:(M6.upd t ⟨[.bool p.big,.int .i64 p.ptr,.slice (some ⟨gu,0,none⟩) Y0.length cap],180,3⟩) r8=some ⟨[.slice aG G.length cG],44,1⟩:=hst.v.f8
 have b86:=qG (F:=F) f86
 have eY:(L.filter fun c=>!overV p.ptr c.pc b a n).length=Y0.length:=by rw [hY0]
 simp only [setH,go_sem,ft6,eY,b86]
 clear kd hV hV6 mv6 g6 b4 bt b46 ft6 f86 b86 hS6 hSgu gu5 old8 old6 eY kp ft hu hM hold n_t hFgu z4 z5 z6 z7 z8 hY0 hGd
 generalize M6.upd t ⟨[.bool p.big,.int .i64 p.ptr,.slice (some ⟨gu,0,none⟩) Y0.length cap],180,3⟩=M7 at *
 refine yX G.length (cloI F M (.slice (some ⟨gu,0,none⟩) L.length cap) r4 r5 r6 r7 r8 t p m b a n (.slice aG G.length cG) G Y0) ⟨rfl,(by simp only [go_sem, *] <;> rfl),_,_,hst⟩ ?_
 clear hst
 rintro j σ F' M8 hj hstay ⟨rfl,q26,T,u,hst⟩
 have q4:=hstay 4 rfl
 have q5:=hstay 5 rfl
 have q6:=hstay 6 rfl
 have q7:=hstay 7 rfl
 have q24:=hstay 24 rfl
 have q25:=hstay 25 rfl
 simp only [go_sem] at q4 q5 q6 q7 q24 q25
 clear hstay
 by_cases hjl:(j:Int) < G.length
 rotate_left
 ·have hje:j=G.length:=by omega
  subst hje
  simp only [go_sem,q25,q26,hjl]
  have hpd:=hst.part
  have hlm:G.length=(G.map Cl.pc).length:=by simp
  rw [hlm] at hpd
  exact qW ⟨rfl,hst.old,T,u,hst.v.ft,hst.own,by have:=hst.few; omega,hst.rows,hpd.done hmir hLG,hst.mv⟩
 have hj1:j < G.length:=by omega
 have hj0:(0:Int)≤j:=by omega
 have ej:IntKind.i64.wrap ((j:Int)+1)=((j+1:Nat):Int):=by rw [w64 (by omega) (by omega)]; omega
 obtain ⟨bb,o,cs,rfl,hbb,rows⟩:=(hst.v.own.rd Cl.len (by omega)).rows (by omega)
 obtain ⟨d1,d2⟩:=rows j hj1
 clear rows
 have hcG:=hGin _ (List.getElem_mem hj1)
 obtain ⟨c,hcd⟩:∃c,c=G[j]:=⟨_,rfl⟩
 have hmapj:(G.map Cl.pc)[j]'(by simpa using hj1)=c.pc:=by rw [List.getElem_map,hcd]
 rw [←hcd] at hcG d2
 simp only [go_sem,q24,q25,q26,hjl,hj0,Int.toNat_natCast,hbb,d1,d2]
 intro r10 hF10 hM10
 simp only [setH,Hp.wG,go_sem]
 have kp10:Keep M8 (M8.upd r10 ⟨c.cs,84,10⟩):=(Keep.refl _).new hM10
 have f10:(M8.upd r10 ⟨c.cs,84,10⟩) r10=some ⟨c.cs,84,10⟩:=Hp.qJ _ _ _
 have h10:∀n c,u=.slice (some ⟨r10,0,none⟩) n c→False:=fun n1 c1 e1=>by
  rcases hst.own with ⟨h1,_⟩ | ⟨gg,cg,h1,h2,h3,h4⟩
  ·rw [e1] at h1; cases h1
  ·rw [e1] at h1; cases h1; rw [h3] at hM10; cases hM10
 have hst2:=hst.keep kp10 (hst.old.upd hF10)
 clear hst
 generalize M8.upd r10 ⟨c.cs,84,10⟩=M9 at *
 clear kp10 hM10 hbb d1 d2
 have b4:=qG (F:=F) hst2.v.f4
 have bt:=qG (F:=F) hst2.v.ft
 have b10:=qG (F:=F) f10
 have hci:=hin c hcG.1
 have hck:c.k=0∨c.k=11∨isS c.k=true:=hci.can.kind
 have hspn:1≤wX p.ptr c.k∧wX p.ptr c.k≤4:=jX hp hck
 have hcn:0≤c.p∧c.p+wX p.ptr c.k≤32:=CellIn.near hp hfit hci
 obtain ⟨sp,hsp⟩:∃sp:Nat,wX p.ptr c.k=sp:=⟨(wX p.ptr c.k).toNat,by omega⟩
 simp only [go_sem,q4,b4,bt,b10]
 with_reducible refine qQ (k129 F M9 p.big p.ptr c.k hck) ?_
 simp only [go_sem,hsp]
 refine yX sp (cliI F M (.slice (some ⟨gu,0,none⟩) L.length cap) r4 r5 r6 r7 r8 t p m b a n (.slice (some ⟨bb,o,none⟩) G.length cG) G Y0 j c r10) ⟨rfl,(by simp only [go_sem, *] <;> rfl),T,u,hst2,f10,h10⟩ ?_
 clear hst2 f10 h10 b4 bt b10
 rintro i σ2 F' M10 hi hstay ⟨rfl,q37,T,u,hst,f10,h10⟩
 have s4:=hstay 4 rfl
 have s5:=hstay 5 rfl
 have s6:=hstay 6 rfl
 have s7:=hstay 7 rfl
 have s10:=hstay 10 rfl
 have s26:=hstay 26 rfl
 have s36:=hstay 36 rfl
 simp only [go_sem,q4,q5,q6,q7,q26] at s4 s5 s6 s7 s10 s26 s36
 clear hstay
 by_cases hil:(i:Int) < sp
 rotate_left
 ·simp only [go_sem,s26,s36,q37,hil,ej]
  refine ⟨hj1,rfl,(by simp only [go_sem, *] <;> rfl),T,u,hst.turn (by omega) (hst.part.next (by simpa using hj1) ?_)⟩
  rw [hmapj]
  show wX p.ptr c.k≤i
  omega
 have ei:IntKind.i64.wrap ((i:Int)+1)=((i+1:Nat):Int):=by rw [w64 (by omega) (by omega)]; omega
 obtain ⟨k,hk⟩:∃k:Nat,c.p+i=k:=⟨(c.p+i).toNat,by omega⟩
 have ek:IntKind.i64.wrap (c.p+i)=k:=by rw [w64 (by omega) (by omega)]; exact hk
 have b4:=qG (F:=F) hst.v.f4
 have b5:=qG (F:=F) hst.v.f5
 have b6:=qG (F:=F) hst.v.f6
 have b7:=qG (F:=F) hst.v.f7
 have bt:=qG (F:=F) hst.v.ft
 have b10:=qG (F:=F) f10
 have ean:IntKind.i64.wrap ((a:Int)+n)=a+n:=w64 (by omega) (by omega)
 have hcb:c.b=b:=hcG.2.1
 have hpi:(k:Int)=((G.map Cl.pc)[j]'(by simpa using hj1)).p+i:=by rw [hmapj]; exact hk.symm
 have hpb:((G.map Cl.pc)[j]'(by simpa using hj1)).b=b:=by rw [hmapj]; exact hcb
 have hj1':j < (G.map Cl.pc).length:=by simpa using hj1
 obtain ⟨aT,cT,rfl⟩:∃aT cT,u=.slice aT T.length cT:=by
  rcases hst.own with ⟨h1,h2⟩ | ⟨g,cp,h1,_⟩
  ·exact ⟨none,0,by rw [h1,h2]; rfl⟩
  ·exact ⟨_,_,h1⟩
 have hTl:T.length≤2000:=by have:=hst.few; omega
 have hTin:∀x∈T,CellIn p m x.pc:=fun x hx=>(hst.part.cells _ (List.mem_map_of_mem hx)).1
 have hTn:∀x∈T,NearC x:=fun x hx=>by
  have:=CellIn.near hp hfit (hTin x hx)
  have hs:=jX hp (hTin x hx).can.kind
  exact ⟨(hTin x hx).can.kind,this.1,by show x.pc.p≤1000; omega⟩
 have kcv:=k180 F M10 t p.big p.ptr aT cT T b k hst.old hst.v.ft (hst.own.rd Cl.len (by omega)) hp hTn ⟨by omega,by omega⟩
 have hT1:∀x∈T.map Cl.pc,1≤wX p.ptr x.k:=fun x hx=>by
  obtain ⟨y,hy,rfl⟩:=List.mem_map.1 hx
  exact (jX hp (hTin y hy).can.kind).1
 by_cases hr:a≤k∧k < a+n
 ·have c1:(a:Int)≤k:=by omega
  have c2:(k:Int) < a+n:=by omega
  simp only [go_sem,s6,s7,s10,s36,q37,hil,b10,ek,b6,b7,c1,c2,ean,ei]
  exact ⟨by omega,rfl,(by simp only [go_sem, *] <;> rfl),T,_,hst.turn (by omega) (hst.part.skip hj1' hpb hpi (.inl hr)),f10,h10⟩
 have hcase:(¬(a:Int)≤k)∨((a:Int)≤k∧¬(k:Int) < a+n):=by omega
 rcases hcase with c1 | ⟨c1,c2⟩
 case' inl=>simp only [go_sem,s4,s5,s6,s10,s36,q37,hil,b10,ek,b4,b5,b6,c1]
 case' inr=>simp only [go_sem,s4,s5,s6,s7,s10,s36,q37,hil,b10,ek,b4,b5,b6,b7,c1,c2,ean]
 all_goals refine qQ kcv ?_
 all_goals
  cases hcv:T.any fun x=>overV p.ptr x.pc b k 1
  rotate_left
  ·simp only [go_sem,q37,ei]
   refine ⟨by omega,rfl,(by simp only [go_sem, *] <;> rfl),T,_,hst.turn (by omega) (hst.part.skip hj1' hpb hpi (.inr ?_)),f10,h10⟩
   obtain ⟨x,hx,ho⟩:=List.any_eq_true.1 hcv
   exact ⟨x.pc,List.mem_map_of_mem hx,overV_one.1 ho⟩
  have hnc:¬∃x∈T.map Cl.pc,OverC p.ptr b k x:=fun ⟨x,hx,ho⟩=>by
   obtain ⟨y,hy,rfl⟩:=List.mem_map.1 hx
   rw [List.any_eq_false] at hcv
   exact hcv y hy (overV_one.2 ho)
  have hO:OverC p.ptr b k c.pc:=⟨hcb,by show c.p≤k; omega,by show (k:Int) < c.p+wX p.ptr c.k; omega⟩
  have hby:=hci.byte hO
  have ks:=k181 F M10 p.big p.ptr c k hp hst.old (hrow c hcG.1) hci.can ⟨hcn.1,by omega⟩ ⟨hO.2.1,hO.2.2⟩
  have et:((k:Int) - c.p).toNat=k - c.pc.p.toNat:=by show ((k:Int) - c.p).toNat=k - c.p.toNat; omega
  rw [et,hby] at ks
  simp only [go_sem,s4,s5,s10,b4,b5,bt,b10]
  with_reducible refine qY ks ?_
  rintro u1 G1 M11 ⟨hG1,kp11,old11,g1,rfl,hg1,hx1⟩
  replace hG1:=hG1.symm
  subst hG1
  refine ⟨(fun _=>kp11.le old11),?_⟩
  simp only [go_sem]
  with_reducible refine qY (k142 F M11 b k g1 _ old11 hg1 hx1) ?_
  rintro u1 G1 M12 ⟨hG1,kp12,old12,x,rfl,hxb,hxp,hone,hcp⟩
  replace hG1:=hG1.symm
  subst hG1
  refine ⟨(fun _=>kp12.le old12),?_⟩
  simp only [go_sem]
  intro r13 hF13 hM13
  simp only [setH,Hp.wG,go_sem]
  generalize eQ:M12.upd r13 ⟨x.cs,84,10⟩=M13 at *
  obtain ⟨kp13,old13,f13⟩:=nw eQ old12 hF13 hM13
  clear eQ
  have kpa:=(kp11.trans kp12).trans kp13
  have hst3:=hst.keep kpa old13
  have b43:=qG (F:=F) hst3.v.f4
  have bt3:=qG (F:=F) hst3.v.ft
  have b13:=qG (F:=F) f13
  simp only [go_sem,s4,b43,bt3,b13]
  intro rb hFb hMb
  have kpb:Keep M13 (M13.upd rb ⟨x.cs,84,10⟩):=(Keep.refl _).new hMb
  have oldb:Old F (M13.upd rb ⟨x.cs,84,10⟩):=old13.upd hFb
  have bb1:blk F (M13.upd rb ⟨x.cs,84,10⟩) rb=some x.cs:=wY
  have hst4:=hst3.keep kpb oldb
  have f104:=kpb _ _ (kpa _ _ f10)
  have hcp4:=hcp.step (fun r y hr _=>kpb _ _ (kp13 _ _ hr))
  generalize M13.upd rb ⟨x.cs,84,10⟩=M14 at *
  refine apG_of (f:=Cl.cs) (xs:=T) (ys:=[x]) Cl.len Cl.plain (by decide) hst4.own ⟨rfl,.inr ⟨⟨rb,0,none⟩,1,rfl,.inr ⟨rb,0,_,rfl,bb1,by simp [Cl.take_all]⟩⟩⟩ (by simp) (by simp; omega) ?_
  rintro g cap2 M15 hg hFg rfl own3
  have hxin:CellIn p m x.pc:=CellIn.one hp hfit hb (by have:=hci.fits; rw [show c.pc.b=b from hcb] at this; have e2:=hO.2.2; omega) hone.can hxb hxp (hone.span _) (hone.is _ _) hone.known
  have hpart:PartC p m b a n (G.map Cl.pc) (Y0.map Cl.pc) j (i+1) ((T++[x]).map Cl.pc):=by
   rw [List.map_append]
   exact hst4.part.add hj1' hpb hpi hr hnc hxin hxb hxp (hone.span _) hT1
  obtain ⟨nt,hst5,hev⟩:=hst4.app hg hFg own3 hcp4 hpart
  have ng10:¬r10=g:=by
   rintro rfl
   rcases hg with hg | ⟨cc,hg⟩
   ·rw [f104] at hg; cases hg
   ·exact h10 _ _ hg
  have nt10:¬r10=t:=by rintro rfl; rw [hst4.v.ft] at f104; simp at f104
  have f105:=hev _ _ f104 nt10 ng10
  have ft14:(M14.upd g ⟨(T++[x]).flatMap Cl.cs,84,cap2 * 10⟩) t=some ⟨[.bool p.big,.int .i64 p.ptr,.slice aT T.length cT],180,3⟩:=by rw [Hp.qK nt]; exact hst4.v.ft
  simp only [setH,Ax.N.k,go_sem,ft14,q37,ei]
  exact ⟨by omega,rfl,(by simp only [go_sem, *] <;> rfl),T++[x],_,hst5,f105,fun n1 c1 e1=>by cases e1; exact ng10 rfl⟩
end Go.Proofs.Tryz.K
namespace Go.Ax
open Go Go.Sort
set_option linter.unusedVariables false
set_option linter.unusedSimpArgs false
def fzNone:Fz:={ f:=fun _=>none,mp:=fun _=>none }
theorem rel_none (w:World):Rel fzNone noHp w:=⟨(fun b c h=>by cases h),(fun b n h=>by cases h),(fun b h=>absurd rfl h),(fun b l h=>by cases h)⟩
theorem world_ext {a b:World}(h1:a.heap=b.heap)(h2:a.tape=b.tape)(h3:a.drawn=b.drawn)(h4:a.os=b.os)(h5:a.output=b.output):a=b:=by
 cases a; cases b; simp at h1 h2 h3 h4 h5; simp [h1,h2,h3,h4,h5]
theorem fr_grown {F':Fz}{M':Hp}{w w':World}(h:Fr fzNone noHp w F' M' w'):∃q os,w'=grow (w.drewN q) os:=by
 refine ⟨w'.drawn - w.drawn,w'.heap.extract w.heap.size w'.heap.size,?_⟩
 refine world_ext ?_ h.tape.1 ?_ h.os h.output
 ·show w'.heap=w.heap++_
  apply Array.ext_getElem?
  intro i
  by_cases hi:i < w.heap.size
  ·rw [(h.block i hi rfl rfl).1,Array.getElem?_append_left hi]
  ·rw [Array.getElem?_append_right (by omega),Array.getElem?_extract]
   by_cases hj:i < w'.heap.size
   ·rw [if_pos (by omega)]; congr 1; omega
   ·rw [if_neg (by omega),Array.getElem?_eq_none (by omega)]
 ·have:=h.tape.2
  show w'.drawn=w.drawn+(w'.drawn - w.drawn)
  omega
theorem rel_grow {F:Fz}{M:Hp}{w:World}{os:Array Obj}(h:Rel F M w):Rel F M (grow w os):=by
 have old:∀(q:Nat) (x:Obj),w.heap[q]? = some x→(grow w os).heap[q]? = some x:=fun q x hx=>by
  show (w.heap++os)[q]? = some x
  rw [Array.getElem?_append_left (Array.getElem?_eq_some_iff.1 hx).1]; exact hx
 refine ⟨fun b c hb=>?_,fun b n hb=>?_,h.ap,fun b l hb=>?_⟩
 ·obtain ⟨cur,e,fr,h1,h2⟩:=h.fz b c hb
  exact ⟨cur,e,fr,old _ _ h1,h2⟩
 ·obtain ⟨cur,h1,h2⟩:=h.mu b n hb
  exact ⟨cur,old _ _ h1,h2⟩
 ·obtain ⟨es,c,h1,h2⟩:=h.mp b l hb
  exact ⟨es,c,old _ _ h1,h2⟩
theorem fr_grow {F:Fz}{M:Hp}{w:World}{os:Array Obj}:Fr F M w F M (grow w os):=
 ⟨rfl,⟨rfl,Nat.le_refl _⟩,rfl,by show w.heap.size≤(w.heap++os).size; simp,fun b hb hm hp=>⟨by show (w.heap++os)[b]? = _; rw [Array.getElem?_append_left hb],hm,hp,id⟩⟩
theorem Enters.go {P:Program}{g:FuncId}(h:Enters P g)(args:Array Value)(w:World):(callFunc g args).run P w=.ok (.enter g args) w:=by
 obtain ⟨fn,h1,h2,h3⟩:=h
 cases hb:fn.body with
 | none=>rw [hb] at h3; cases h3
 | some c=>exact Proofs.enters_of h1 h2 hb args w
section
variable {α:Type} [Inhabited α] {f:α→List Value} {k:Nat}
theorem rowK_get (hf : ∀ x, (f x).length = k) {l : List α} {t : Nat} (h : t < l.length * k) : (l.flatMap f)[t]? = some ((f (l.toArray[t / k]!))[t % k]!) := by
  have k0 : 0 < k := by rcases Nat.eq_zero_or_pos k with h0 | h0; · subst h0; simp at h
                        · exact h0
  have hd : t / k < l.length := (Nat.div_lt_iff_lt_mul k0).2 h
  have hg := flatG_get hf l (t / k) hd
  have hm := Nat.mod_lt t k0
  have e1 : t = t / k * k + t % k := by have := Nat.div_add_mod t k; rw [Nat.mul_comm] at this; exact this.symm
  have e2 : (((l.flatMap f).drop (t / k * k)).take k)[t % k]? = (l.flatMap f)[t]? := by
    rw [List.getElem?_take_of_lt hm, List.getElem?_drop, ← e1]
  rw [← e2, hg]
  have e3 : l.toArray[t / k]! = l[t / k] := by simp [hd]
  rw [e3, List.getElem?_eq_getElem (by rw [hf]; exact hm), getElem!_pos _ _ (by rw [hf]; exact hm)]
theorem sortFunc_callsA {P:Program}{ρ:Shelf.Ren}(L:Proofs.SlLaysF0.n6 P ρ)(aE:∀w,(isAgg (ρ.t 24)).run P w=.ok true w)(zE:∀w,(Go.sizeOf (ρ.t 24)).run P w=.ok k w)
  (hf:∀x,(f x).length=k)(h1:∀x,∀v∈f x,v.oneCell'=true)(cf:α→α→Int)(hO:SWO (Proofs.ltOf cf))(g:Nat)(hcmp:∀x y,CallsA P g [.agg (f x).toArray,.agg (f y).toArray] fzNone noHp fun v _ _=>v=.int .i64 (cf x y))
  {F:Fz} {M:Hp} {b cap n:Nat} {e:TypeId} {l:List α} {rest:List Value} (hM:M b=some ⟨l.flatMap f++rest,e,n⟩) (hl:l.length < 4611686018427387904) :
  CallsA P (ρ.f 6) [.slice (some ⟨b,0,none⟩) l.length cap,.func (.func g) #[] #[]] F M fun v F' M'=>v=.tuple #[]∧F'=F∧∃l':List α,l'.Perm l∧l'.Pairwise (fun x y=>¬cf y x < 0)∧M'=M.upd b ⟨l'.flatMap f++rest,e,n⟩:=by
 refine ⟨?_,fun w hw=>?_⟩
 ·obtain ⟨nm,hn,hfn⟩:=L.f6
  exact ⟨_,hfn,hn,rfl⟩
 obtain ⟨cur,hheap,hpre,hsz⟩:=hw.mu b _ hM
 have hpre:l.flatMap f++rest <+: cur.toList:=hpre
 have hlen:(l.flatMap f).length=l.length * k:=gW hf l
 have hcs:l.length * k+rest.length≤cur.size:=by
  have:=hpre.length_le; rw [List.length_append,hlen] at this; simpa using this
 have hcell:∀t,t < l.length * k→cur[t]? = (l.flatMap f)[t]?:=fun t ht=>by
  obtain ⟨z,hz⟩:=hpre
  have:cur[t]? = cur.toList[t]?:=by simp
  rw [this,←hz,List.append_assoc,List.getElem?_append_left (by rw [hlen]; exact ht)]
 have hblk:b < w.heap.size:=(Array.getElem?_eq_some_iff.1 hheap).1
 have hH:HoldsK f k w b 0 l.toArray:=fun t ht=>by
  have ht':t < l.length * k:=by simpa using ht
  constructor
  ·simp only [World.cell?,hheap,Option.isSome_none,Bool.false_eq_true,if_false,Nat.zero_add]
   rw [hcell t ht',rowK_get hf ht',get_flatK _ _ _ _ (by simpa using ht')]; rfl
  ·simp [World.frozen?,hheap]
 have hc:Proofs.CmpLays P g #[] f k cf b 0 l.toArray.size w:=fun m os dk hs x y=>by
  refine ((hcmp x y).2 _ (rel_none _)).mono ?_
  rintro e' w' ⟨v,F',M',rfl,_,fr,rfl⟩
  exact ⟨rfl,fr_grown fr⟩
 have hgo:∀args w,(callFunc g args).run P w=.ok (.enter g args) w:=fun args w=>by
  by_cases hx:Nonempty α
  ·obtain ⟨x⟩:=hx; exact (hcmp x x).1.go args w
  ·exact absurd ⟨default⟩ hx
 have key:=Proofs.AnyQ.slices_SortFunc L k aE zE f hf h1 cf hO g #[] b 0 cap l.toArray w hgo hc hH hblk (by simpa using hl)
 refine key.mono ?_
 rintro e' w' ⟨rfl,d',m,os,hp,hs,rfl⟩
 obtain ⟨hds,_,hperm⟩:=hp
 have hds':d'.size=l.length:=by simpa using hds
 have hex:∀a:Array α,a.extract 0 a.size=a:=fun a=>by simp
 have hW:Proofs.sortWorldK f k w b 0 m d' os=grow (Sort.putRowK f k (Sort.ahead w m) b 0 d') os:=rfl
 rw [hW]
 have hmod:∀q,(Sort.putRowK f k (Sort.ahead w m) b 0 d').heap[q]? = if b=q then (w.heap[q]?).map (onCells (putCells id 0 (flatK f k d'))) else w.heap[q]?:=fun q=>by
  show (w.heap.modify b _)[q]? = _
  rw [Array.getElem?_modify]
 have hnew:(Sort.putRowK f k (Sort.ahead w m) b 0 d').heap[b]? = some (.cells (putCells id 0 (flatK f k d') cur) e (0,0)):=by
  rw [hmod,if_pos rfl,hheap]; rfl
 have hpc:(putCells id 0 (flatK f k d') cur).size=cur.size:=by simp [putCells]
 have hcl:d'.toList.flatMap f++rest <+: (putCells id 0 (flatK f k d') cur).toList:=by
  have hdl:(d'.toList.flatMap f).length=l.length * k:=by rw [gW hf]; simp [hds']
  obtain ⟨z,hz⟩:=hpre
  refine ⟨z,?_⟩
  apply List.ext_getElem?
  intro t
  have hct:cur[t]? = (l.flatMap f++rest++z)[t]?:=by rw [hz]; simp
  have hgt:(putCells id 0 (flatK f k d') cur).toList[t]? = (putCells id 0 (flatK f k d') cur)[t]?:=by simp
  rw [hgt]
  unfold putCells
  rw [Array.getElem?_mapIdx,hct,size_flatK,hds']
  have ga:∀A:List Value,A.length=l.length * k→¬t < l.length * k→(A++rest++z)[t]? = (rest++z)[t - l.length * k]?:=fun A hA ht=>by rw [List.append_assoc,List.getElem?_append_right (by rw [hA]; omega),hA]
  have gb:∀A:List Value,A.length=l.length * k→t < l.length * k→(A++rest++z)[t]? = A[t]?:=fun A hA ht=>by rw [List.append_assoc,List.getElem?_append_left (by rw [hA]; exact ht)]
  by_cases ht:t < l.length * k
  ·rw [gb _ hdl ht,gb _ hlen ht,rowK_get hf (by simpa [hds'] using ht),rowK_get hf ht]
   simp only [Option.map_some,Nat.zero_le,Nat.zero_add,ht,and_self,if_true,Nat.sub_zero,id]
   rw [get_flatK _ _ _ _ (by rw [hds']; exact ht)]
  ·rw [ga _ hdl ht,ga _ hlen ht]
   cases hx:(rest++z)[t - l.length * k]? with
   | none=>rfl
   | some y=>
    simp only [Option.map_some,Nat.zero_le,Nat.zero_add,ht,and_false,if_false]
 have hr1:Rel F (M.upd b ⟨d'.toList.flatMap f++rest,e,n⟩) (Sort.putRowK f k (Sort.ahead w m) b 0 d'):=
  hw.setRow hM (fun q hq=>by rw [hmod,if_neg (Ne.symm hq)]) hnew hcl (by rw [hpc]; exact hsz)
 have hf1:Fr F M w F (M.upd b ⟨d'.toList.flatMap f++rest,e,n⟩) (Sort.putRowK f k (Sort.ahead w m) b 0 d'):=
  Fr.setRow hM (fun q hq=>by rw [hmod,if_neg (Ne.symm hq)]) rfl ⟨rfl,Nat.le_add_right _ _⟩ rfl (by show w.heap.size≤(w.heap.modify b _).size; simp)
 refine ⟨_,F,M.upd b ⟨d'.toList.flatMap f++rest,e,n⟩,rfl,?_,?_,rfl,rfl,d'.toList,?_,?_,rfl⟩
 ·exact rel_grow hr1
 ·exact hf1.trans fr_grow
 ·have h2:(d'.extract 0 d'.size).toList.Perm (l.toArray.extract 0 l.toArray.size).toList:=by rw [hds]; exact hperm
  rw [hex,hex] at h2
  simpa using h2
 ·rw [List.pairwise_iff_getElem]
  intro i j hi hj hij
  have:=hs i j (Nat.zero_le _) hij (by simp at hj ⊢; omega)
  unfold Proofs.ltOf at this
  rw [getElem!_pos d' i (by simpa using hi),getElem!_pos d' j (by simpa using hj)] at this
  simpa using this
end
end Go.Ax
namespace Go.Proofs.Tryz.K
open Go Go.Ax Go.Proofs.Tryz.S
set_option maxRecDepth 100000
set_option linter.unusedSimpArgs false
set_option linter.unusedVariables false
set_option maxHeartbeats 4000000
def sortCellRen:Go.Shelf.Ren:=⟨fun | 6=>182 | 15=>176 | 14=>234 | 28=>230 | 29=>231 | 20=>264 | 21=>265 | 22=>266 | 23=>267 | 24=>268 | 25=>269 | 26=>270 | 27=>271 | 46=>289 | 47=>260 | 48=>261 | 49=>290 | 50=>291 | 57=>297 | n=>n,fun | 22=>44 | 24=>84 | 25=>167 | 3=>3 | 39=>142 | 0=>0 | 53=>255 | 55=>257 | 4=>4 | 46=>249 | 45=>248 | 50=>149 | 5=>5 | 9=>9 | 66=>278 | 70=>282 | 76=>299 | 77=>234 | n=>n,fun | n=>n⟩
theorem sortCell:Go.Proofs.SlLaysF0.n6 Tryz.prog sortCellRen where
 mixed:=by kernel_rfl
 f6:=⟨Tryz.f182.name,by decide,Tryz.func182.trans (congrArg some (by kernel_rfl))⟩
 f14:=⟨Tryz.f234.name,by decide,Tryz.func234.trans (congrArg some (by kernel_rfl))⟩
 f15:=Tryz.func176.trans (congrArg some (by kernel_rfl))
 f20:=⟨Tryz.f264.name,by decide,Tryz.func264.trans (congrArg some (by kernel_rfl))⟩
 f21:=⟨Tryz.f265.name,by decide,Tryz.func265.trans (congrArg some (by kernel_rfl))⟩
 f22:=⟨Tryz.f266.name,by decide,Tryz.func266.trans (congrArg some (by kernel_rfl))⟩
 f23:=⟨Tryz.f267.name,by decide,Tryz.func267.trans (congrArg some (by kernel_rfl))⟩
 f24:=⟨Tryz.f268.name,by decide,Tryz.func268.trans (congrArg some (by kernel_rfl))⟩
 f25:=⟨Tryz.f269.name,by decide,Tryz.func269.trans (congrArg some (by kernel_rfl))⟩
 f26:=⟨Tryz.f270.name,by decide,Tryz.func270.trans (congrArg some (by kernel_rfl))⟩
 f27:=⟨Tryz.f271.name,by decide,Tryz.func271.trans (congrArg some (by kernel_rfl))⟩
 f28:=Tryz.func230.trans (congrArg some (by kernel_rfl))
 f29:=Tryz.func231.trans (congrArg some (by kernel_rfl))
 f46:=⟨Tryz.f289.name,by decide,Tryz.func289.trans (congrArg some (by kernel_rfl))⟩
 f47:=Tryz.func260.trans (congrArg some (by kernel_rfl))
 f48:=Tryz.func261.trans (congrArg some (by kernel_rfl))
 f49:=⟨Tryz.f290.name,by decide,Tryz.func290.trans (congrArg some (by kernel_rfl))⟩
 f50:=⟨Tryz.f291.name,by decide,Tryz.func291.trans (congrArg some (by kernel_rfl))⟩
 f57:=⟨Tryz.f297.name,by decide,Tryz.func297.trans (congrArg some (by kernel_rfl))⟩
 t0:=Tryz.underlying0
 a0:=Tryz.isAgg0
 z0:=Tryz.sizeOf0
 v0:=Tryz.zeroValue0
 t3:=Tryz.underlying3
 a3:=Tryz.isAgg3
 z3:=Tryz.sizeOf3
 v3:=Tryz.zeroValue3
 t4:=Tryz.underlying4
 a4:=Tryz.isAgg4
 z4:=Tryz.sizeOf4
 v4:=Tryz.zeroValue4
 t5:=Tryz.underlying5
 a5:=Tryz.isAgg5
 z5:=Tryz.sizeOf5
 v5:=Tryz.zeroValue5
 t9:=Tryz.underlying9
 a9:=Tryz.isAgg9
 z9:=Tryz.sizeOf9
 v9:=Tryz.zeroValue9
 t22:=Tryz.underlying44
 a22:=Tryz.isAgg44
 z22:=Tryz.sizeOf44
 v22:=Tryz.zeroValue44
 t25:=Tryz.underlying167
 a25:=Tryz.isAgg167
 z25:=Tryz.sizeOf167
 v25:=Tryz.zeroValue167
 t39:=Tryz.underlying142
 a39:=Tryz.isAgg142
 z39:=Tryz.sizeOf142
 v39:=Tryz.zeroValue142
 t45:=Tryz.underlying248
 a45:=Tryz.isAgg248
 z45:=Tryz.sizeOf248
 v45:=Tryz.zeroValue248
 t46:=Tryz.underlying249
 a46:=Tryz.isAgg249
 z46:=Tryz.sizeOf249
 v46:=Tryz.zeroValue249
 t50:=Tryz.underlying149
 a50:=Tryz.isAgg149
 z50:=Tryz.sizeOf149
 v50:=Tryz.zeroValue149
 t53:=Tryz.underlying255
 a53:=Tryz.isAgg255
 z53:=Tryz.sizeOf255
 v53:=Tryz.zeroValue255
 t55:=Tryz.underlying257
 a55:=Tryz.isAgg257
 z55:=Tryz.sizeOf257
 v55:=Tryz.zeroValue257
 t66:=Tryz.underlying278
 a66:=Tryz.isAgg278
 z66:=Tryz.sizeOf278
 v66:=Tryz.zeroValue278
 t70:=Tryz.underlying282
 a70:=Tryz.isAgg282
 z70:=Tryz.sizeOf282
 v70:=Tryz.zeroValue282
 t76:=Tryz.underlying299
 a76:=Tryz.isAgg299
 z76:=Tryz.sizeOf299
 v76:=Tryz.zeroValue299
 t77:=Tryz.underlying234
 a77:=Tryz.isAgg234
 z77:=Tryz.sizeOf234
 v77:=Tryz.zeroValue234
variable (F:Fz) (M:Hp)
theorem lt_before (a b:Pc):decide (ordV a b < 0)=beforeB a b:=by
 have h:=ord_before a b
 cases hb:beforeB a b <;> rw [hb] at h <;> simp only [Bool.not_true,Bool.not_false,decide_eq_true_eq,decide_eq_false_iff_not] at h ⊢ <;> omega
theorem before_iff (a b:Pc):beforeB a b=true↔a.b < b.b∨(a.b=b.b∧(a.p < b.p∨(a.p=b.p∧a.k < b.k))):=by
 unfold beforeB
 split
 ·split <;> simp only [decide_eq_true_eq] <;> omega
 ·simp only [decide_eq_true_eq]; omega
theorem before_not (a b:Pc):beforeB a b=false↔¬(a.b < b.b∨(a.b=b.b∧(a.p < b.p∨(a.p=b.p∧a.k < b.k)))):=by
 rw [←before_iff]; cases beforeB a b <;> simp
theorem swo_cells:Sort.SWO (Proofs.ltOf fun (x y:Cl)=>ordV x.pc y.pc):=by
 have e:∀x y:Cl,Proofs.ltOf (fun (x y:Cl)=>ordV x.pc y.pc) x y=beforeB x.pc y.pc:=fun x y=>lt_before _ _
 refine ⟨fun x=>?_,fun x y z=>?_,fun x y z=>?_⟩
 ·rw [e,before_not]; omega
 ·rw [e,e,e,before_iff,before_iff,before_iff]; omega
 ·rw [e,e,e,before_not,before_not,before_not]; omega
instance Cl.inh:Inhabited Cl:=⟨⟨0,0,0,V.zero,none,0,[]⟩⟩
theorem k182 (b cap n:Nat)(e:TypeId)(l:List Cl)(rest:List Value)(hM:M b=some ⟨l.flatMap Cl.cs++rest,e,n⟩)(hl:l.length < 4611686018427387904) :
  CallsA Tryz.prog 182 [.slice (some ⟨b,0,none⟩) l.length cap,.func (.func 120) #[] #[]] F M fun v F' M'=>v=.tuple #[]∧F'=F∧∃l':List Cl,l'.Perm l∧l'.Pairwise (fun x y=>¬ordV y.pc x.pc < 0)∧M'=M.upd b ⟨l'.flatMap Cl.cs++rest,e,n⟩:=
 sortFunc_callsA (ρ:=sortCellRen) sortCell (fun w=>Tryz.isAgg84 w) (fun w=>Tryz.sizeOf84 w) Cl.len (fun x=>Cl.plain x) (fun x y=>ordV x.pc y.pc) swo_cells 120 (fun x y=>(k120 fzNone noHp x y).mono fun v F' M' h=>h.1) hM hl
end Go.Proofs.Tryz.K
namespace Go.Proofs.Tryz.K
open Go Go.Ax Go.Proofs.Tryz.S
variable (F:Fz) (M:Hp)
theorem k85 (u:Value)(l:List Cl)(h:RdG 10 Cl.cs F M u l)(hold:Old F M)(hl:l.length≤100000) :
  CallsA Tryz.prog 85 [u] F M (rowR 10 Cl.cs 84 l F M):=by
 refine qZ hm Tryz.func85 e85 (Nat.le_of_ble_eq_true rfl) ?_
 have h':=h
 obtain ⟨_,ad,cap,_,rfl,hrd⟩:=h
 cases ad with
 | none=>
  have:l=[]:=by
   rcases hrd with h | ⟨b,o,cs,h,_⟩
   ·exact h
   ·cases h
  subst this
  simp only [c85,go_sem,Option.isNone_none]
  exact qW ⟨rfl,.inl ⟨rfl,rfl,rfl⟩⟩
 | some ad=>
  simp only [c85,go_sem,Option.isNone_some]
  intro rb hFb hMb
  simp only [go_sem]
  have kp1:Keep M (M.upd rb ⟨[],84,0⟩):=(Keep.refl M).new hMb
  have mine1:yY 10 Cl.cs 84 F M (M.upd rb ⟨[],84,0⟩) (.slice (some ⟨rb,0,none⟩) ([]:List Cl).length 0) []:=
   ⟨.inr ⟨rb,0,rfl,hFb,Hp.qJ _ _ _,by simp,by decide⟩,fun g n c h=>by cases h; exact hMb⟩
  refine apMG_any (xs:=[]) (ys:=l) (fun x=>rfl) Cl.plain (by decide) mine1 kp1 (RdG.src (fun x=>rfl) (h'.keep kp1 (hold.upd hFb)) (fun h=>by cases h)) (by simp; omega) ?_
  rintro v' M5 hfr kp5 ho5 mine5
  rw [List.nil_append] at mine5
  simp only [go_sem]
  exact mine5.done kp5
theorem k84 (u:Value)(l:List Int)(h:RdG 1 intC F M u l)(hold:Old F M)(hl:l.length≤100000) :
  CallsA Tryz.prog 84 [u] F M (rowR 1 intC 3 l F M):=by
 refine qZ hm Tryz.func84 e84 (Nat.le_of_ble_eq_true rfl) ?_
 have h':=h
 obtain ⟨_,ad,cap,_,rfl,hrd⟩:=h
 cases ad with
 | none=>
  have:l=[]:=by
   rcases hrd with h | ⟨b,o,cs,h,_⟩
   ·exact h
   ·cases h
  subst this
  simp only [c84,go_sem,Option.isNone_none]
  exact qW ⟨rfl,.inl ⟨rfl,rfl,rfl⟩⟩
 | some ad=>
  simp only [c84,go_sem,Option.isNone_some]
  intro rb hFb hMb
  simp only [go_sem]
  have kp1:Keep M (M.upd rb ⟨[],3,0⟩):=(Keep.refl M).new hMb
  have mine1:yY 1 intC 3 F M (M.upd rb ⟨[],3,0⟩) (.slice (some ⟨rb,0,none⟩) ([]:List Int).length 0) []:=
   ⟨.inr ⟨rb,0,rfl,hFb,Hp.qJ _ _ _,by simp,by decide⟩,fun g n c h=>by cases h; exact hMb⟩
  refine apMG_any (xs:=[]) (ys:=l) (fun x=>rfl) intC_plain (by decide) mine1 kp1 (RdG.src (fun x=>rfl) (h'.keep kp1 (hold.upd hFb)) (fun h=>by cases h)) (by simp; omega) ?_
  rintro v' M5 hfr kp5 ho5 mine5
  rw [List.nil_append] at mine5
  simp only [go_sem]
  exact mine5.done kp5
def tabR (s:Si)(F:Fz)(M:Hp)(r:Value)(F':Fz)(M':Hp):Prop:=
 F'=F∧Keep M M'∧Old F M'∧∃t g cap,r=.pointer (some ⟨t,0,none⟩)∧M t=none∧M g=none∧M' t=some ⟨[.bool s.p.big,.int .i64 s.p.ptr,.slice (some ⟨g,0,none⟩) s.e.cells.length cap],180,3⟩∧jQ 10 Cl.cs 84 F M' (.slice (some ⟨g,0,none⟩) s.e.cells.length cap) s.e.cells
theorem k135 (s:Si)(hold:Old F M)(h:RdG 10 Cl.cs F M (.slice s.e.cellsA s.e.cells.length s.e.cellsC) s.e.cells)(hl:s.e.cells.length≤100000)(hne:¬s.e.cells=[]) :
  CallsA Tryz.prog 135 [s.val] F M (tabR s F M):=by
 refine qZ hm Tryz.func135 e135 (Nat.le_of_ble_eq_true rfl) ?_
 simp only [c135,go_sem]
 intro r1 hF1 hM1
 generalize eQ:M.upd r1 ⟨s.cs,132,10⟩=M1 at *
 obtain ⟨kp1,old1,f1⟩:=nw eQ hold hF1 hM1
 clear eQ
 have b1:=qG (F:=F) f1
 simp only [go_sem,b1]
 with_reducible refine qY (k85 F M1 _ s.e.cells (h.keep kp1 old1) old1 hl) ?_
 rintro u G M2 hq
 have own2:=hq.own
 have mine2:=hq.mine kp1
 obtain ⟨hG,le,kp2,oq,aq,cq,rfl,rdq⟩:=hq.le (f:=Cl.cs) (fun x=>rfl) (by omega)
 have old2:=oq old1
 replace hG:=hG.symm
 subst hG
 refine ⟨fun _=>le,?_⟩
 obtain ⟨g,rfl⟩:∃g,aq=some ⟨g,0,none⟩:=by
  rcases own2 with ⟨_,h2⟩ | ⟨g,cp,h1,_⟩
  ·exact absurd h2 hne
  ·cases h1; exact ⟨g,rfl⟩
 have zg:=mine2.new g _ _ rfl
 simp only [go_sem]
 intro r11 hF11 hM11
 have kp11:Keep M2 (M2.upd r11 ⟨[.bool s.p.big,.int .i64 s.p.ptr,.slice (some ⟨g,0,none⟩) s.e.cells.length cq],180,3⟩):=(Keep.refl _).new hM11
 simp only [go_sem]
 have kp:=kp1.trans kp2
 exact qW ⟨rfl,kp.trans kp11,old2.upd hF11,r11,g,cq,rfl,kp.free hM11,zg,Hp.qJ _ _ _,own2.keep kp11⟩
theorem k137 (t g cap:Nat)(big:Bool)(ptr:Int)(T:List Cl)(ft:M t=some ⟨[.bool big,.int .i64 ptr,.slice (some ⟨g,0,none⟩) T.length cap],180,3⟩)(hg:M g=some ⟨T.flatMap Cl.cs,84,cap * 10⟩)(hl:T.length≤100000)(hfew:∀L:List Cl,L.Perm T→L.Pairwise (fun x y=>¬ordV y.pc x.pc < 0)→L.length≤200)(hcap:T.length≤cap) :
  CallsA Tryz.prog 137 [.pointer (some ⟨t,0,none⟩)] F M fun r F' M'=>F'=F∧∃L:List Cl,L.Perm T∧L.Pairwise (fun x y=>¬ordV y.pc x.pc < 0)∧r=.slice (some ⟨g,0,none⟩) L.length cap∧M'=M.upd g ⟨L.flatMap Cl.cs,84,cap * 10⟩:=by
 refine qZ hm Tryz.func137 e137 (Nat.le_of_ble_eq_true rfl) ?_
 have n1:¬t=g:=by rintro rfl; rw [ft] at hg; simp at hg
 have bt:=qG (F:=F) ft
 have ks:=k182 F M g cap (cap * 10) 84 T [] (by rw [List.append_nil]; exact hg) (by omega)
 simp only [c137,go_sem,bt]
 refine qY ks ?_
 rintro r G M1 ⟨rfl,hG,L,hp,ho,rfl⟩
 replace hG:=hG.symm
 subst hG
 refine ⟨(fun h=>by cases h),?_⟩
 rw [List.append_nil]
 have ft2:(M.upd g ⟨L.flatMap Cl.cs,84,cap * 10⟩) t=some ⟨[.bool big,.int .i64 ptr,.slice (some ⟨g,0,none⟩) T.length cap],180,3⟩:=by rw [Hp.qK n1]; exact ft
 have bt2:=qG (F:=F) ft2
 have h200:=hfew L hp ho
 have hLl:=hp.length_eq
 have em:minV (T.length:Int) [Value.int .i64 200]=some (T.length:Int):=by simp only [minV]; rw [if_neg (by omega)]
 have c0:(0:Int)≤T.length:=by omega
 have c1:(T.length:Int)≤cap:=by omega
 have hLl:=hp.length_eq
 simp only [go_sem,bt2,em,c0,hcap,Int.toNat_natCast,Option.map_some,Int.le_refl]
 exact qW ⟨rfl,L,hp,ho,by rw [hLl],rfl⟩
theorem k82 (s:Si)(b:Int)(hold:Old F M)(h:intR F M s.e.newsA s.e.newsC s.e.news)(hl:s.e.news.length≤100000)(hb:1≤b∧b≤s.p.vars.length)(hv:s.p.vars.length≤2500) :
  CallsA Tryz.prog 82 [s.val,.int .i64 b] F M fun r F' M'=>F'=F∧Keep M M'∧Old F M'∧∃a c,r=.slice a s.e.news.length c∧jQ 1 intC 3 F M' (.slice a s.e.news.length c) s.e.news:=by
 refine qZ hm Tryz.func82 e82 (Nat.le_of_ble_eq_true rfl) ?_
 simp only [c82,go_sem]
 intro r2 hF2 hM2
 generalize eQ:M.upd r2 ⟨s.cs,132,10⟩=M1 at *
 obtain ⟨kp2,old2,f2⟩:=nw eQ hold hF2 hM2
 clear eQ
 have b2:=qG (F:=F) f2
 simp only [go_sem,b2]
 with_reducible refine qY (k84 F M1 _ s.e.news (h.keep kp2 old2) old2 hl) ?_
 rintro u G M2 hq
 have own2:=hq.own
 obtain ⟨hG,le,kp3,oq,aq,cq,rfl,rdq⟩:=hq.le (f:=intC) wD (by omega)
 have old3:=oq old2
 replace hG:=hG.symm
 subst hG
 refine ⟨(fun h=>by cases h),?_⟩
 have b3:=qG (F:=F) (kp3 _ _ f2)
 have w1:IntKind.i64.wrap (b - 1)=b - 1:=w64 (by omega) (by omega)
 have w2:IntKind.i64.wrap (b - 1 - (s.p.vars.length:Int))=b - 1 - s.p.vars.length:=w64 (by omega) (by omega)
 have h1:¬(0:Int)≤b - 1 - s.p.vars.length:=by omega
 simp only [go_sem,b3,w1,w2,h1]
 exact qW ⟨rfl,kp2.trans kp3,old3,aq,cq,rfl,own2⟩
def strongR (s:Si)(m':List Bl)(F:Fz)(M:Hp)(r:Value)(F':Fz)(M':Hp):Prop:=
 F'=F∧Keep M M'∧Old F M'∧∃g c,∃L:List Cl,r=.slice (some ⟨g,0,none⟩) L.length c∧jQ 10 Cl.cs 84 F M' (.slice (some ⟨g,0,none⟩) L.length c) L∧(∀x∈L,CP F M' x)∧Mir s.p (L.map Cl.pc) m'
theorem k81 (s:Si)(m m':List Bl)(b a:Nat)(k:Int)(v:V)(lA:Option Addr)(lC:Nat)(l:List Ba)(h:Look F s m)(hold:Old F M)(hk:isS k=true)(hb:1≤b)(hf:a+(wX s.p.ptr k).toNat≤(yZ m (b:Int)).l.length)(h0:CanC ⟨b,a,k,v,l⟩)(hal:(a:Int).tmod (wX s.p.ptr k)=0)
  (hkn:knownB l ((m.length:Int) - 1)=true)(hs:MemSet m b a (jZ s.p.big s.p.ptr ⟨b,a,k,v,l⟩) m')(hfit:FitM s.p m')(hrow:∀M',Old F M'→RdG 7 Ba.cs F M' (.slice lA l.length lC) l)(hne:¬s.e.cells=[]) :
  CallsA Tryz.prog 81 [s.val,(⟨b,a⟩:Sp).val,.int .i64 k,abV v (.slice lA l.length lC)] F M (strongR s m' F M):=by
 refine qZ hm Tryz.func81 e81 (Nat.le_of_ble_eq_true rfl) ?_
 have hp:=(jW h.hc).1
 have hspn:=jX hp (.inr (.inr hk))
 have hfew:=h.mir.few h.fit h.hc
 have hel:s.e.pe.cells.length=s.e.cells.length:=by show (s.e.cells.map Cl.pc).length=_; simp
 have hj32:(yZ m (b:Int)).l.length≤32:=by
  rcases Nat.lt_or_ge b m.length with hb | hb
  ·rw [yH hb]; have:=(h.fit.bytes b hb).2.2.2; omega
  ·unfold yZ; rw [Int.toNat_natCast,List.getElem?_eq_none hb]; simp
 obtain ⟨n,hn⟩:∃n:Nat,wX s.p.ptr k=n:=⟨(wX s.p.ptr k).toNat,by omega⟩
 simp only [c81,go_sem]
 intro r4 hF4 hM4
 generalize eQ:M.upd r4 ⟨s.cs,132,10⟩=M1 at *
 obtain ⟨kp4,old4,f4⟩:=nw eQ hold hF4 hM4
 clear eQ
 simp only [go_sem]
 intro r5 hF5 hM5
 generalize eQ:M1.upd r5 ⟨(⟨b,a⟩:Sp).cs,138,2⟩=M2 at *
 obtain ⟨kp5,old5,f5⟩:=nw eQ old4 hF5 hM5
 clear eQ
 simp only [go_sem]
 intro r7 hF7 hM7
 generalize eQ:M2.upd r7 ⟨yJ v (.slice lA l.length lC),62,7⟩=M3 at *
 obtain ⟨kp7,old7,f7⟩:=nw eQ old5 hF7 hM7
 clear eQ
 have kp:=(kp4.trans kp5).trans kp7
 have g5:=kp7 _ _ f5
 have g4:=kp7 _ _ (kp5 _ _ f4)
 have b4:=qG (F:=F) g4
 clear hM4 hM5 hM7 kp4 kp5 kp7 old4 old5 f4 f5
 simp only [go_sem,b4]
 with_reducible refine qY (k135 F M3 s old7 (h.row M3 old7) (by omega) hne) ?_
 rintro u G M4 ⟨hG,kp4,old4,t,gu,cap,rfl,zt,zg,ft,hu⟩
 replace hG:=hG.symm
 subst hG
 refine ⟨(fun h=>by cases h),?_⟩
 have g54:=kp4 _ _ g5
 have g74:=kp4 _ _ f7
 have b44:=qG (F:=F) (kp4 _ _ g4)
 have b54:=qG (F:=F) g54
 have b74:=qG (F:=F) g74
 have b545:=b54
 simp only [go_sem,b44,b54]
 with_reducible refine qQ (k129 F M4 s.p.big s.p.ptr k (.inr (.inr hk))) ?_
 have kcl:=k136 F M4 s.p m t gu cap s.e.cells b a n h.hc h.fit h.mir (fun c hc=>h.rows c hc) old4 ft hu hb (by omega)
 simp only [go_sem,hn]
 with_reducible refine vZ kcl ?_
 rintro r G M5 ⟨hG,old5,T,u,ft5,own5,hTl,hrows5,hbs,mv5⟩
 replace hG:=hG.symm
 subst hG
 have st5:∀q x,M4 q=some x→¬x.elem=180→¬x.elem=84→M5 q=some x:=fun q x hq h1 h2=>by
  refine mv5.stay q x hq fun hh=>?_
  rcases hh with rfl | ⟨_,_,hh⟩
  ·rw [ft] at hq; cases hq; exact h1 rfl
  ·rcases hu with ⟨h3,_⟩ | ⟨g',c',h3,_,h4,_⟩
   ·cases h3
   ·cases h3; cases hh; rw [h4] at hq; cases hq; exact h2 rfl
 have b45:=qG (F:=F) (st5 _ _ (kp4 _ _ g4) (by simp) (by simp))
 have b55:=qG (F:=F) (st5 _ _ g54 (by simp) (by simp))
 have b75:=qG (F:=F) (st5 _ _ g74 (by simp) (by simp))
 have bt5:=qG (F:=F) ft5
 have eC:Value.int .i64 b :: Value.int .i64 a :: Value.int .i64 k :: yJ v (Value.slice lA l.length lC)=(⟨b,a,k,v,lA,lC,l⟩:Cl).cs:=rfl
 simp only [go_sem,b55,b75,bt5,eC]
 obtain ⟨x,hxd⟩:∃x:Cl,x=⟨b,a,k,v,lA,lC,l⟩:=⟨_,rfl⟩
 rw [←hxd]
 intro rb hFb hMb
 have kpb:Keep M5 (M5.upd rb ⟨x.cs,84,10⟩):=(Keep.refl _).new hMb
 have old6:Old F (M5.upd rb ⟨x.cs,84,10⟩):=old5.upd hFb
 have bb:blk F (M5.upd rb ⟨x.cs,84,10⟩) rb=some x.cs:=wY
 have own6:=own5.keep kpb
 have ft6:=kpb _ _ ft5
 generalize M5.upd rb ⟨x.cs,84,10⟩=M6 at *
 refine apG_of (f:=Cl.cs) (xs:=T) (ys:=[x]) Cl.len Cl.plain (by decide) own6 ⟨rfl,.inr ⟨⟨rb,0,none⟩,1,rfl,.inr ⟨rb,0,_,rfl,bb,by simp [Cl.take_all]⟩⟩⟩ (by simp) (by simp; omega) ?_
 rintro g cap2 M7 hg hFg rfl own7
 have nt:¬t=g:=by
  rintro rfl
  rcases hg with hg | ⟨cc,hg⟩
  ·rw [ft6] at hg; cases hg
  ·rcases own6 with ⟨h1,_⟩ | ⟨g',cap',h1,h2,h3,h4⟩
   ·rw [hg] at h1; cases h1
   ·rw [hg] at h1; cases h1; rw [h3] at ft6; simp at ft6
 have gt:¬g=t:=fun e=>nt e.symm
 have el:(T++[x]).length=T.length+1:=by simp
 have ft7:(M6.upd g ⟨(T++[x]).flatMap Cl.cs,84,cap2 * 10⟩) t=some ⟨[.bool s.p.big,.int .i64 s.p.ptr,u],180,3⟩:=by rw [Hp.qK nt]; exact ft6
 obtain ⟨hg7,hcap7⟩:(M6.upd g ⟨(T++[x]).flatMap Cl.cs,84,cap2 * 10⟩) g=some ⟨(T++[x]).flatMap Cl.cs,84,cap2 * 10⟩∧(T++[x]).length≤cap2∧cap2≤maxLen:=by
  rcases own7 with ⟨h1,_⟩ | ⟨g',cap',h1,h2,h3,h4⟩
  ·cases h1
  ·cases h1; exact ⟨h3,h4⟩
 have old7:Old F (M6.upd g ⟨(T++[x]).flatMap Cl.cs,84,cap2 * 10⟩):=old6.upd hFg
 have hFt:F t=none:=old7.free ft7
 have hbase:∀q y,M6 q=some y→y.elem=102→¬q=g∧¬q=t:=fun q y hq he=>by
  refine ⟨?_,?_⟩
  ·rintro rfl
   rcases hg with hg | ⟨cc,hg⟩
   ·rw [hq] at hg; cases hg
   ·rcases own6 with ⟨h1,_⟩ | ⟨g',cap',h1,h2,h3,h4⟩
    ·rw [hg] at h1; cases h1
    ·rw [hg] at h1; cases h1; rw [h3] at hq; cases hq; exact absurd (show (84:TypeId)=102 from he) (by decide)
  ·rintro rfl
   rw [ft6] at hq; cases hq; exact absurd (show (180:TypeId)=102 from he) (by decide)
 have hkeep:∀q y,M q=some y→M6 q=some y∧¬q=g∧¬q=t:=fun q y hq=>by
  have h3:=kp _ _ hq
  have h4:=kp4 _ _ h3
  have hnt:¬q=t:=by rintro rfl; rw [zt] at h3; cases h3
  have hng:¬q=gu:=by rintro rfl; rw [zg] at h3; cases h3
  have hns:¬tbB t (.slice (some ⟨gu,0,none⟩) s.e.cells.length cap) q:=fun hh=>by
   rcases hh with hh | ⟨_,_,hh⟩
   ·exact hnt hh
   ·cases hh; exact hng rfl
  have h5:=mv5.stay q y h4 hns
  have h6:=kpb _ _ h5
  refine ⟨h6,?_,hnt⟩
  rintro rfl
  rcases hg with hg | ⟨cc,hg⟩
  ·rw [h6] at hg; cases hg
  ·rcases mv5.new q (.inr ⟨_,_,hg⟩) with hh | hh
   ·exact hns hh
   ·rw [h4] at hh; cases hh
 have ed:(Ax.N.k 36 (SK.ap 84 10 96 (Ax.N.t 27) (Ax.N.t 35))).d=some 36:=rfl
 simp only [setH,go_sem,ed,ft7]
 have ft8:((M6.upd g ⟨(T++[x]).flatMap Cl.cs,84,cap2 * 10⟩).upd t ⟨[.bool s.p.big,.int .i64 s.p.ptr,.slice (some ⟨g,0,none⟩) (T++[x]).length cap2],180,3⟩) t=some ⟨[.bool s.p.big,.int .i64 s.p.ptr,.slice (some ⟨g,0,none⟩) (T++[x]).length cap2],180,3⟩:=Hp.qJ _ _ _
 have hg8:((M6.upd g ⟨(T++[x]).flatMap Cl.cs,84,cap2 * 10⟩).upd t ⟨[.bool s.p.big,.int .i64 s.p.ptr,.slice (some ⟨g,0,none⟩) (T++[x]).length cap2],180,3⟩) g=some ⟨(T++[x]).flatMap Cl.cs,84,cap2 * 10⟩:=by rw [Hp.qK gt]; exact hg7
 have old8:Old F ((M6.upd g ⟨(T++[x]).flatMap Cl.cs,84,cap2 * 10⟩).upd t ⟨[.bool s.p.big,.int .i64 s.p.ptr,.slice (some ⟨g,0,none⟩) (T++[x]).length cap2],180,3⟩):=old7.upd hFt
 have hmir:∀L:List Cl,L.Perm (T++[x])→L.Pairwise (fun x y=>¬ordV y.pc x.pc < 0)→Mir s.p (L.map Cl.pc) m':=fun L hp1 ho=>by
  have hpm:(L.map Cl.pc).Perm (T.map Cl.pc++[⟨b,a,k,v,l⟩]):=by
   have:=hp1.map Cl.pc
   rw [List.map_append,hxd] at this
   exact this
  exact hbs.store h.hc h.fit h0 rfl rfl hn (by rw [←hn]; exact hal) hkn rfl (by omega) hb hs hpm (List.pairwise_map.2 ho)
 rw [←el]
 have kce:=k137 F _ t g cap2 s.p.big s.p.ptr (T++[x]) ft8 hg8 (by omega) (fun L hp1 ho=>by
  have:=(hmir L hp1 ho).few hfit h.hc
  rw [List.length_map] at this
  omega) hcap7.1
 with_reducible refine qY kce ?_
 rintro r2 G M9 ⟨hG,L,hp1,ho,rfl,rfl⟩
 replace hG:=hG.symm
 subst hG
 refine ⟨(fun h=>by cases h),?_⟩
 simp only [go_sem]
 rw [←el]
 have hst9:∀q y,M6 q=some y→¬q=g→¬q=t→(((M6.upd g ⟨(T++[x]).flatMap Cl.cs,84,cap2 * 10⟩).upd t ⟨[.bool s.p.big,.int .i64 s.p.ptr,.slice (some ⟨g,0,none⟩) (T++[x]).length cap2],180,3⟩).upd g ⟨L.flatMap Cl.cs,84,cap2 * 10⟩) q=some y:=fun q y hq h1 h2=>by
  rw [Hp.qK h1,Hp.qK h2,Hp.qK h1]; exact hq
 refine qW ⟨rfl,fun q y hq=>?_,old8.upd hFg,g,cap2,L,rfl,.inr ⟨g,cap2,rfl,hFg,Hp.qJ _ _ _,by rw [hp1.length_eq]; exact hcap7.1,hcap7.2⟩,fun c hc=>?_,hmir L hp1 ho⟩
 ·obtain ⟨h1,h2,h3⟩:=hkeep q y hq
  exact hst9 q y h1 h2 h3
 ·rcases List.mem_append.1 (hp1.mem_iff.1 hc) with hc | hc
  ·exact (hrows5 c hc).step fun q y hq he=>by
    have h6:=kpb _ _ hq
    obtain ⟨h1,h2⟩:=hbase q y h6 he
    exact hst9 q y h6 h1 h2
  ·rw [List.mem_singleton.1 hc,hxd]
   exact fun M' o _=>hrow M' o
theorem flat_sub3 {A B:List Cl}{x:Cl}{wA:Option Addr}{wC:Nat}:((A++x :: B).flatMap Cl.cs).take (A.length * 10+3)++yJ x.v (.slice wA x.l.length wC)++((A++x :: B).flatMap Cl.cs).drop (A.length * 10+3+7)=((A++([⟨x.b,x.p,x.k,x.v,wA,wC,x.l⟩]:List Cl))++B).flatMap Cl.cs:=by
 have h1:=gW Cl.len A
 have e:(A++x :: B).flatMap Cl.cs=A.flatMap Cl.cs++(x.cs++B.flatMap Cl.cs):=by simp
 rw [e]
 have t1:(A.flatMap Cl.cs++(x.cs++B.flatMap Cl.cs)).take (A.length * 10+3)=A.flatMap Cl.cs++x.cs.take 3:=by
  rw [List.take_append,h1,List.take_of_length_le (by omega),Nat.add_sub_cancel_left,List.take_append_of_le_length (by rw [Cl.len]; omega)]
 have t2:(A.flatMap Cl.cs++(x.cs++B.flatMap Cl.cs)).drop (A.length * 10+3+7)=B.flatMap Cl.cs:=by
  rw [←List.append_assoc,List.drop_left' (by rw [List.length_append,h1,Cl.len])]
 rw [t1,t2]
 have t3:x.cs.take 3++yJ x.v (.slice wA x.l.length wC)=(⟨x.b,x.p,x.k,x.v,wA,wC,x.l⟩:Cl).cs:=rfl
 simp only [List.flatMap_append,List.flatMap_cons,List.flatMap_nil,List.append_nil]
 rw [←t3,List.append_assoc,List.append_assoc,List.append_assoc,List.append_assoc]
def BsO (F:Fz)(M:Hp)(d:Cl):Prop:=jQ 7 Ba.cs 102 F M (.slice d.lA d.l.length d.lC) d.l
structure owS (F:Fz)(M0:Hp)(r1 r2:Nat)(e:En)(i:Nat)(a:Option Addr)(c:Nat)(nA:Option Addr)(nC:Nat)(D:List Cl)(M:Hp):Prop where
 old:Old F M
 kp:Keep M0 M
 f1:M r1=some ⟨[.bool e.no,.slice a e.cells.length c,.slice nA e.news.length nC],46,3⟩
 f2:M r2=some ⟨[.bool false,.slice none 0 0,.slice none 0 0],46,3⟩
 dl:D.length=i
 dp:D.map Cl.pc=(e.cells.take i).map Cl.pc
 dr:∀d∈D,BsO F M d
 rows:∀x∈e.cells,CP F M x
 row:jQ 10 Cl.cs 84 F M (.slice a e.cells.length c) (D++e.cells.drop i)
 new:∀g n c',Value.slice a e.cells.length c=.slice (some ⟨g,0,none⟩) n c'→M0 g=none
 news:jQ 1 intC 3 F M (.slice nA e.news.length nC) e.news
def owI (F0:Fz)(M0:Hp)(r1 r2:Nat)(e:En)(a:Option Addr)(c:Nat)(nA:Option Addr)(nC:Nat)(i:Nat)(σ:Env)(F:Fz)(M:Hp):Prop:=
 F0=F∧Ax.look σ 15=some (.int .i64 i)∧∃D,owS F0 M0 r1 r2 e i a c nA nC D M
def ownR (e:En)(F:Fz)(M:Hp)(r:Value)(F':Fz)(M':Hp):Prop:=F'=F∧Keep M M'∧Old F M'∧∃y:En,r=y.val∧y.pe=e.pe∧∀N,Old F N→(∀q x,M' q=some x→¬x.elem=46→N q=some x)→y.rd F N
theorem zero_own {α:Type}{sz:Nat}{f:α→List Value}{e:TypeId}{F:Fz}{M:Hp}{a:Option Addr}{n c:Nat}{l:List α}(h:jQ sz f e F M (.slice a n c) l):a=none→c=0:=fun ha=>by
 rcases h with ⟨h1,_⟩ | ⟨g,cap,h1,_⟩
 ·cases h1; rfl
 ·cases h1; cases ha
theorem k43 (e:En)(hold:Old F M)(hr:RdG 10 Cl.cs F M (.slice e.cellsA e.cells.length e.cellsC) e.cells)(hc:∀x∈e.cells,CP F M x)(hn:intR F M e.newsA e.newsC e.news)(hl:e.cells.length≤10000∧e.news.length≤10000)(hll:∀x∈e.cells,x.l.length≤100000) :
  CallsA Tryz.prog 43 [e.val] F M (ownR e F M):=by
 refine qZ hm Tryz.func43 e43 (Nat.le_of_ble_eq_true rfl) ?_
 simp only [c43,go_sem]
 intro r1 hF1 hM1
 generalize eQ:M.upd r1 ⟨e.cs,46,3⟩=M1 at *
 obtain ⟨kp1,old1,f1⟩:=nw eQ hold hF1 hM1
 clear eQ
 simp only [go_sem]
 intro r2 hF2 hM2
 have kp2:Keep M1 (M1.upd r2 ⟨[.bool false,.slice none 0 0,.slice none 0 0],46,3⟩):=(Keep.refl _).new hM2
 have old2:Old F (M1.upd r2 ⟨[.bool false,.slice none 0 0,.slice none 0 0],46,3⟩):=old1.upd hF2
 have f2:(M1.upd r2 ⟨[.bool false,.slice none 0 0,.slice none 0 0],46,3⟩) r2=some ⟨[.bool false,.slice none 0 0,.slice none 0 0],46,3⟩:=Hp.qJ _ _ _
 have n12:¬r1=r2:=by rintro rfl; rw [f1] at hM2; cases hM2
 have z1:M r1=none:=hM1
 have z2:M r2=none:=kp1.free hM2
 generalize M1.upd r2 ⟨[.bool false,.slice none 0 0,.slice none 0 0],46,3⟩=M2 at *
 have g1:=kp2 _ _ f1
 have kp:=kp1.trans kp2
 have b1:=qG (F:=F) g1
 clear kp1 kp2 old1 hM1 hM2 f1
 simp only [go_sem,b1]
 with_reducible refine qY (k85 F M2 _ e.cells (hr.keep kp old2) old2 (by omega)) ?_
 rintro u G M3 hq
 have own3:=hq.own
 have mine3:=hq.mine kp
 obtain ⟨hG,le,kp3,oq,aq,cq,rfl,rdq⟩:=hq.le (f:=Cl.cs) (fun x=>rfl) (by omega)
 have old3:=oq old2
 replace hG:=hG.symm
 subst hG
 refine ⟨fun _=>le,?_⟩
 simp only [go_sem]
 with_reducible refine qY (k84 F M3 _ e.news (hn.keep (kp.trans kp3) old3) old3 (by omega)) ?_
 rintro u G M4 hq2
 have own4:=hq2.own
 have mine4:=hq2.mine (kp.trans kp3)
 obtain ⟨hG,le4,kp4,oq4,nA,nC,rfl,rdq4⟩:=hq2.le (f:=intC) wD (by omega)
 have old4:=oq4 old3
 replace hG:=hG.symm
 subst hG
 refine ⟨fun _=>le4,?_⟩
 have g14:=kp4 _ _ (kp3 _ _ g1)
 have f24:=kp4 _ _ (kp3 _ _ f2)
 have kpM:=(kp.trans kp3).trans kp4
 have eK:List.take 1 e.cs++[Value.slice aq e.cells.length cq]++List.drop 2 e.cs=(En.mk e.no aq cq e.cells e.newsA e.newsC e.news).cs:=rfl
 have eC:List.take 2 (En.mk e.no aq cq e.cells e.newsA e.newsC e.news).cs++[Value.slice nA e.news.length nC]=(En.mk e.no aq cq e.cells nA nC e.news).cs:=rfl
 simp only [setH,Hp.wG,go_sem,g14,eK,eC]
 have hst:owS F M r1 r2 e 0 aq cq nA nC [] (M4.upd r1 ⟨(En.mk e.no aq cq e.cells nA nC e.news).cs,46,3⟩):=by
  have ev:∀q x,M4 q=some x→¬x.elem=46→(M4.upd r1 ⟨(En.mk e.no aq cq e.cells nA nC e.news).cs,46,3⟩) q=some x:=fun q x hq hne=>by
   have:¬q=r1:=by rintro rfl; rw [g14] at hq; cases hq; exact hne rfl
   rw [Hp.qK this]; exact hq
  refine ⟨old4.upd hF1,kpM.new z1,Hp.qJ _ _ _,by rw [Hp.qK (fun h=>n12 h.symm)]; exact f24,rfl,rfl,fun d hd=>by simp at hd,fun x hx=>(hc x hx).step fun q y hq he=>ev q y (kpM _ _ hq) (by rw [he]; decide),jQ.stay (own3.keep kp4) fun q y hq he=>ev q y hq (by rw [he]; decide),fun g n c' h=>mine3.new g n c' h,jQ.stay own4 fun q y hq he=>ev q y hq (by rw [he]; decide)⟩
 clear own3 mine3 own4 mine4 g14 f24 kpM rdq rdq4 le le4 hq hq2 eK eC g1 b1 f2
 generalize M4.upd r1 ⟨(En.mk e.no aq cq e.cells nA nC e.news).cs,46,3⟩=M5 at *
 refine yX e.cells.length (owI F M r1 r2 e aq cq nA nC) ⟨rfl,(by simp only [go_sem, *] <;> rfl),[],hst⟩ ?_
 clear hst
 rintro i σ F' M6 hi hstay ⟨rfl,q15,D,hst⟩
 have q1:=hstay 1 rfl
 have q2:=hstay 2 rfl
 have q14:=hstay 14 rfl
 simp only [go_sem] at q1 q2 q14
 clear hstay
 have b1:=qG (F:=F) hst.f1
 by_cases hil:(i:Int) < e.cells.length
 rotate_left
 ·have hie:i=e.cells.length:=by omega
  have f1:=hst.f1
  have f2:=hst.f2
  have hrow:=hst.row
  have hdp:=hst.dp
  rw [hie,List.drop_length,List.append_nil] at hrow
  rw [hie,List.take_length] at hdp
  have hDl:D.length=e.cells.length:=by rw [hst.dl,hie]
  have f1:M6 r1=some ⟨(En.mk e.no aq cq D nA nC e.news).cs,46,3⟩:=by rw [f1,←hDl]; rfl
  have b1':=qG (F:=F) f1
  simp only [go_sem,q1,q2,q14,q15,hil,b1']
  simp only [setH,go_sem,f2,q2]
  have ev:∀q x,M6 q=some x→¬x.elem=46→(M6.upd r2 ⟨(En.mk e.no aq cq D nA nC e.news).cs,46,3⟩) q=some x:=fun q x hq hne=>by
   have:¬q=r2:=by rintro rfl; rw [f2] at hq; cases hq; exact hne rfl
   rw [Hp.qK this]; exact hq
  have st:∀t:TypeId,¬t=46→∀q y,M6 q=some y→y.elem=t→(M6.upd r2 ⟨(En.mk e.no aq cq D nA nC e.news).cs,46,3⟩) q=some y:=fun t ht q y hq he=>ev q y hq (by rw [he]; exact ht)
  rw [←hDl] at hrow
  refine qW ⟨rfl,hst.kp.new z2,hst.old.upd hF2,En.mk e.no aq cq D nA nC e.news,rfl,?_,fun N oN kN=>⟨?_,fun d hd=>?_,?_,?_⟩⟩
  ·show Pe.mk e.no (D.map Cl.pc) e.news=Pe.mk e.no (e.cells.map Cl.pc) e.news
   rw [hdp]
  ·exact (jQ.stay (jQ.stay hrow (st _ (by decide))) (fun q x hq he=>kN q x hq (by rw [he]; decide))).rd Cl.len (by show D.length≤_; omega)
  ·have hdl:d.l.length≤100000:=by
    have hm:d.pc∈D.map Cl.pc:=List.mem_map_of_mem hd
    rw [hdp] at hm
    obtain ⟨x,hx,hxe⟩:=List.mem_map.1 hm
    have:d.l=x.l:=by have:=congrArg Pc.l hxe; exact this.symm
    rw [this]; exact hll x hx
   exact (jQ.stay (jQ.stay (hst.dr d hd) (st _ (by decide))) (fun q x hq he=>kN q x hq (by rw [he]; decide))).rd (fun _=>rfl) (by omega)
  ·exact (jQ.stay (jQ.stay hst.news (st _ (by decide))) (fun q x hq he=>kN q x hq (by rw [he]; decide))).rd wD (by show e.news.length≤_; omega)
  ·exact ⟨zero_own hrow,zero_own hst.news,fun d hd=>zero_own (hst.dr d hd)⟩
 have hi1:i < e.cells.length:=by omega
 have hi0:(0:Int)≤i:=by omega
 have ei:IntKind.i64.wrap ((i:Int)+1)=((i+1:Nat):Int):=by rw [w64 (by omega) (by omega)]; omega
 obtain ⟨g,hrow⟩:∃g,aq=some ⟨g,0,none⟩∧F g=none∧M6 g=some ⟨(D++e.cells.drop i).flatMap Cl.cs,84,cq * 10⟩∧e.cells.length≤cq∧cq≤maxLen:=by
  have hl2:(D++e.cells.drop i).length=e.cells.length:=by rw [List.length_append,List.length_drop,hst.dl]; omega
  rcases hst.row with ⟨_,h2⟩ | ⟨g,cap,h1,h2,h3,h4,h5⟩
  ·rw [h2] at hl2; simp at hl2; omega
  ·rw [hl2] at h1; cases h1; exact ⟨g,rfl,h2,h3,by omega,h5⟩
 obtain ⟨rfl,hFg,hMg,hcq⟩:=hrow
 have hdr:e.cells.drop i=e.cells[i] :: e.cells.drop (i+1):=List.drop_eq_getElem_cons hi1
 have hxm:e.cells[i]∈e.cells:=List.getElem_mem hi1
 have htk:=List.take_succ_eq_append_getElem hi1
 have hDl:=hst.dl
 rw [hdr] at hMg
 have hst':=hst
 obtain ⟨X,hX⟩:∃X,X=(D++e.cells[i] :: e.cells.drop (i+1)).flatMap Cl.cs:=⟨_,rfl⟩
 have hXl:X.length=e.cells.length * 10:=by
  rw [hX,gW Cl.len,←hdr,List.length_append,List.length_drop,hDl]
  congr 1; omega
 have d1:i * 10+10≤X.length:=by rw [hXl]; have:(i+1) * 10≤e.cells.length * 10:=Nat.mul_le_mul_right _ hi1; omega
 have d2:List.take 10 (List.drop (i * 10) X)=e.cells[i].cs:=by
  have:=flatG_get Cl.len (D++e.cells[i] :: e.cells.drop (i+1)) i (by rw [List.length_append,hDl,←hdr,List.length_drop]; omega)
  rw [hX,this]
  congr 1
  rw [List.getElem_append_right (by omega)]
  simp [hDl]
 have d3:List.take 7 (List.drop (i * 10+3) X)=yJ e.cells[i].v (.slice e.cells[i].lA e.cells[i].l.length e.cells[i].lC):=by rw [←Cl.take7,←d2,List.drop_take,List.take_take,List.drop_drop]; rfl
 have d4:i * 10+3+7≤X.length:=by omega
 rw [←hX] at hMg
 have hbg:=qG (F:=F) hMg
 have hcx:=(hst.rows _ hxm).rd hst.old
 have hlx:=hll _ hxm
 have hsub:=fun (wA:Option Addr) (wC:Nat)=>flat_sub3 (A:=D) (B:=e.cells.drop (i+1)) (x:=e.cells[i]) (wA:=wA) (wC:=wC)
 rw [←hX,hDl] at hsub
 generalize hxd:e.cells[i]=x at *
 simp only [go_sem,q1,q14,q15,hil,b1,hi0,Int.toNat_natCast,hbg,d3,d4,Nat.zero_add]
 have kow:=k50 F M6 x.v (.slice x.lA x.l.length x.lC) x.l hcx hst.old hlx
 with_reducible refine qY kow ?_
 rintro u G M7 ⟨w,rfl,hw⟩
 have how:=hw.own
 obtain ⟨hG,le,kp7,oq7,aw,cw,rfl,rdw⟩:=hw.le (sz:=7) (fun _=>rfl) (by omega)
 have old7:=oq7 hst.old
 replace hG:=hG.symm
 subst hG
 refine ⟨fun _=>le,?_⟩
 have g7:=kp7 _ _ hMg
 simp only [setH,go_sem,hil,hi0,Int.toNat_natCast,g7,d4,hsub,q15,ei,Nat.zero_add]
 obtain ⟨y,hyd⟩:∃y:Cl,y=⟨x.b,x.p,x.k,x.v,aw,cw,x.l⟩:=⟨_,rfl⟩
 rw [←hyd]
 have ev:∀q z,M7 q=some z→¬z.elem=84→(M7.upd g ⟨((D++[y])++e.cells.drop (i+1)).flatMap Cl.cs,84,cq * 10⟩) q=some z:=fun q z hq hne=>by
  have:¬q=g:=by rintro rfl; rw [g7] at hq; cases hq; exact hne rfl
  rw [Hp.qK this]; exact hq
 have zg:M g=none:=hst'.new g _ _ rfl
 have hl3:((D++[y])++e.cells.drop (i+1)).length=e.cells.length:=by simp [hDl]; omega
 refine ⟨hi1,rfl,(by simp only [go_sem, *] <;> rfl),D++[y],?_⟩
 refine ⟨old7.upd hFg,(hst'.kp.trans kp7).new zg,ev _ _ (kp7 _ _ hst'.f1) (by simp),ev _ _ (kp7 _ _ hst'.f2) (by simp),by simp [hDl],?_,fun d hd=>?_,fun z hz=>?_,.inr ⟨g,cq,by rw [hl3],hFg,Hp.qJ _ _ _,by rw [hl3]; exact hcq.1,hcq.2⟩,hst'.new,jQ.stay (hst'.news.keep kp7) fun q z hq he=>ev q z hq (by rw [he]; decide)⟩
 ·rw [htk,List.map_append,List.map_append,hst'.dp,hyd]; rfl
 ·rcases List.mem_append.1 hd with hd | hd
  ·exact jQ.stay ((hst'.dr d hd).keep kp7) fun q z hq he=>ev q z hq (by rw [he]; decide)
  ·have how':BsO F M7 y:=by rw [hyd]; exact how
   rw [List.mem_singleton.1 hd]
   exact jQ.stay how' fun q z hq he=>ev q z hq (by rw [he]; decide)
 ·exact (hst'.rows z hz).step fun q z' hq he=>ev q z' (kp7 _ _ hq) (by rw [he]; decide)
end Go.Proofs.Tryz.K
