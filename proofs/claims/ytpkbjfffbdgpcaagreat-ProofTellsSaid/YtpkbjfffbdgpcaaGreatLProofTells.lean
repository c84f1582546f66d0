/- The law ProofTells, walked: it returns true at every input. -/
import Derived.Test.YtpkbjfffbdgpcaaGreatProg
import Derived.Test.YtpkbjfffbdgpcaaGreatB12
open Nat renaming le_of_ble_eq_true->aA,le_refl->aN,zero_add->aY
open Int renaming eq_ofNat_of_zero_le->aG,toNat_natCast->aB
open List renaming eq_of_mem_replicate->dK,getElem_mem->aH,getElem_of_mem->bZ,length_append->aO,length_replicate->bD,length_set->aZ,length_singleton->bM,map_append->bP,mem_append->aW,mem_cons->aQ,mem_map_of_mem->eF,mem_singleton->aX,not_mem_nil->aV
open Go.Proofs.Tryz
open Go.IntKind (i64)
namespace Go.Proofs.YtpkbjfffbdgpcaaGreat.proofTells
open Go Go.Ax Go.Proofs.Tryz.S Go.Proofs.Tryz.K
set_option maxRecDepth 100000
set_option linter.unusedSimpArgs false
set_option linter.unusedVariables false
set_option maxHeartbeats 4000000
def ptI (F0:Fz)(M0:Hp)(i:Nat)(σ:Env)(F:Fz)(M:Hp):Prop:=F0=F/\Keep M0 M/\Old F0 M/\Ax.look σ 4=some (.int .i64 i)
def qHY (F:Fz)(A:Hp)(e:En):Prop:=(e.cellsA=none/\e.zX=0/\e.cells=[])/\gQ 1 fV 3 F A (.slice e.mG e.news.length e.mJ) e.news/\e.news.length<=3000
theorem qHY.keep {F:Fz}{A M:Hp}{e:En}(h:qHY F A e)(kp:Keep A M):qHY F M e:=⟨h.1,h.2.1.keep kp,h.2.2⟩
theorem qHY.rd {F:Fz}{A:Hp}{e:En}(h:qHY F A e):e.rd F A/\En.yJV e:=by
 obtain ⟨no,cA,cC,cl,nA,nC,ns⟩:=e;obtain ⟨⟨h1,h2,h3⟩,h4,h5⟩:=h;simp only at h1 h2 h3 h4 h5;subst h1 h2 h3;exact ⟨⟨jX,(fun x hx=>by cases hx),h4.rd wJ (by show ns.length<=_; omega),(fun _=>rfl),yJC h4,(fun x hx=>by cases hx)⟩,by show (0:Nat)<=3000; decide,h5,fun c hc=>by cases hc⟩
def ptB (x:Pg)(r8 r9:Nat)(F0:Fz)(M0:Hp)(k:Nat)(σ:Env)(F:Fz)(M:Hp):Prop:=
 F0=F/\Ax.look σ 10=some (.int .i64 k)/\∃A w1 w2 L2,Keep M0 A/\Bd r8 r9 (List.replicate k ⟨true,none,0,[],none,0,[]⟩) L2 w1 w2 F0 A M/\L2.length=k/\∀e∈L2,qHY F0 A e
def ptN (x:Pg)(r8 r9 r11:Nat)(L1 L2:List En)(w1 w2:Value)(nA:Option Addr)(nC:Nat)(F0:Fz)(N:Hp)(M:Hp):Prop:=
 ∃A nw,Keep N A/\Bd r8 r9 L1 L2 w1 w2 F0 A M/\yW 1 fV 3 F0 N A (.slice nA nw.length nC) nw/\nw.length=x.news.length/\M r11=some ⟨(En.mk false none 0 [] nA nC nw).cs,51,3⟩/\A r11=none
theorem jXZ {r r':Rp}(h:r'.pr=r.pr)(hf:Rp.few r):Rp.few r':=by
 obtain ⟨h1,h2,h3⟩:=hf;have ea:r'.al=r.al:=congrArg Pr.al h;have ee:r'.en.map En.pe=r.en.map En.pe:=congrArg Pr.en h;have el:r'.en.length=r.en.length:=by have:=congrArg List.length ee; simpa using this
 refine ⟨by rw [ea]; exact h1,by rw [el]; exact h2,fun e he=>?_⟩;have hm:e.pe∈r.en.map En.pe:=by rw [<-ee]; exact eF he
 obtain ⟨e0,he0,hpe⟩:=List.mem_map.1 hm;obtain ⟨f1,f2,f3⟩:=h3 e0 he0;have ec:e0.cells.map Cl.pc=e.cells.map Cl.pc:=congrArg Pe.cells hpe;have en:e0.news=e.news:=congrArg Pe.news hpe;have ecl:e0.cells.length=e.cells.length:=by have:=congrArg List.length ec; simpa using this
 refine ⟨by omega,by rw [<-en]; exact f2,fun c hc=>?_⟩;have hcm:c.pc∈e0.cells.map Cl.pc:=by rw [ec]; exact eF hc
 obtain ⟨c0,hc0,hcp⟩:=List.mem_map.1 hcm;have:c0.l=c.l:=congrArg Pc.l hcp;rw [<-this]; exact f3 c0 hc0
theorem yJE {p:Pg}{m:List Bl}(h:kD m=(fZ p).m):(∀x∈m,∀y∈x.l,y.st=0)/\∀j (hj:j < m.length),p.vars.length < j->(m[j]).st=0:=by
 have key:∀j (hj:j < m.length),∃hj':j < (fZ p).m.length,(fZ p).m[j]=(m[j]).no:=fun j hj=>by
  have hj1:j < (kD m).length:=by rw [rG]; exact hj
  have hj2:j < (fZ p).m.length:=by rw [<-h]; exact hj1
  refine ⟨hj2,?_⟩;have:(kD m)[j]=(fZ p).m[j]:=by simp only [h]
  rw [<-this,qQX]
 constructor
 ·intro x hx y hy;obtain ⟨j,hj,rfl⟩:=bZ hx;obtain ⟨hj',e⟩:=key j hj;have el:(m[j]).l=((fZ p).m[j]).l:=by rw [e]; rfl
  rw [el] at hy;rcases wWH hj' with ⟨h1,_⟩ | ⟨_,h1⟩
  ·rw [h1] at hy; cases hy
  ·rw [h1] at hy; rw [dK hy]
 ·intro j hj hv;obtain ⟨hj',e⟩:=key j hj;have el:(m[j]).st=((fZ p).m[j]).st:=by rw [e]; rfl
  rw [el];rcases wWH hj' with ⟨h1,_⟩ | ⟨h2,h1⟩
  ·rw [h1]
  ·omega
theorem call (W:World)(cs:List Value)(h:Rd (qDF W) qHE cs) :
 aI prog 3 [.agg cs.toArray] (qDF W) qKB fun r _ _=>r=.bool true:=by
 obtain ⟨q,rfl,hq⟩:=jDV h
 refine qZ hm func3 e3 (aA rfl) ?_
 generalize hFW:qDF W=F at *
 have hold:Old F qKB:=Old.start F
 simp only [c3,go_sem]
 intro r1 hF1 hM1
 generalize eQ:qKB.upd r1 ⟨q.cs,35,7⟩=M1 at *
 obtain ⟨_,kY,f1⟩:=nw eQ hold hF1 hM1
 clear eQ
 have b1:=qG (F:=F) f1
 simp only [go_sem,b1]
 with_reducible refine wW (k4 F M1 q hq kY) ?_
 rintro u F' M' ⟨hG,hM,b,rfl,hb⟩
 subst hG hM
 refine ⟨(fun h=>by cases h),?_⟩
 cases b
 rotate_left
 ·simp only [go_sem]
  exact qW rfl
 obtain ⟨gJH,le,lr⟩:=hb rfl
 have lp:=gJH.1
 clear hb
 simp only [go_sem,b1]
 with_reducible refine wW (k5 F' M' q hq gJH kY) ?_
 rintro u F M2 ⟨hG,nG,mY,aT,cT,T,rfl,rdT,hT,hT4⟩
 replace hG:=hG.symm
 subst hG
 refine ⟨(fun h=>by cases h),?_⟩
 have f1:=nG _ _ f1
 have hTm:=rdT.1
 clear b1 nG kY hM1
 simp only [go_sem]
 have wake:∀M',Keep M2 M'->Old F' M'->aI prog 17 [] F' M' (Same F' M' (.bool true)):=fun M' _ o=>k17 F' M' o
 refine wV q.p.length (ptI F' M2) ⟨rfl,Keep.refl _,mY,(by simp only [go_sem, *] <;> rfl)⟩ ?_
 rintro i σ F M3 hi hst ⟨rfl,fC,dA,q4⟩
 have q1:=hst 1 rfl
 have q3:=hst 3 rfl
 simp only [go_sem] at q1 q3
 clear hst
 have b1:=qG (F:=F') (fC _ _ f1)
 have m1:=hq.many.1.1
 by_cases hil:(i:Int) < q.p.length
 rotate_left
 ·simp only [go_sem,q1,q4,b1,hil]
  with_reducible refine qQ (wake M3 fC dA) ?_
  simp only [go_sem]
  exact qW rfl
 by_cases hi4:(i:Int) < 4
 rotate_left
 ·simp only [go_sem,q1,q4,b1,hil,hi4]
  with_reducible refine qQ (wake M3 fC dA) ?_
  simp only [go_sem]
  exact qW rfl
 have hi0:(0:Int)<=i:=by omega
 have hi1:i < q.p.length:=by omega
 have ei:i64.wrap ((i:Int)+1)=i+1:=dQ (by omega) (by omega)
 obtain ⟨bp,op,cp,eap,hbp,dp1,dp2⟩:=dF.at (hq.p F' M3 (Ext.old dA)) hi1
 have hx:(q.p[i]).rd F':=(hq.ps _ (aH hi1)).rd (lp.1 _ (aH hi1))
 generalize q.p[i]=x at *
 simp only [go_sem,q1,q4,b1,hil,hi4,hi0,eap,aB,hbp,dp1,dp2]
 intro r5 lM gU
 simp only [setH,Hp.wZ,go_sem]
 generalize eQ:M3.upd r5 ⟨x.cs,43,7⟩=M4 at *
 obtain ⟨eH,dB,f5⟩:=nw eQ dA lM gU
 clear eQ
 have b5:=qG (F:=F') f5
 try simp only [go_sem,b5]
 have kc:=k6 F' M4 x hx dB
 rw [xZG] at kc
 with_reducible refine qQ kc ?_
 simp only [go_sem]
 intro r55 gJD vGK
 have c1:blk F' (M4.upd r55 ⟨[.bool true,.slice none 0 0,.slice none 0 0,.int .i64 0,.bool false,.slice none 0 0,.slice none 0 0,.int .i64 0],48,8⟩) r1=some q.cs:=by rw [iG (qJ vGK (eH _ _ (fC _ _ f1))).1]; exact qG (eH _ _ (fC _ _ f1))
 have tZ:yW 4 Rp.cs 48 F' M4 (M4.upd r55 ⟨[.bool true,.slice none 0 0,.slice none 0 0,.int .i64 0,.bool false,.slice none 0 0,.slice none 0 0,.int .i64 0],48,8⟩) (.slice (some ⟨r55,0,none⟩) 2 2) [⟨true,none,0,[],none,0,[],0⟩,⟨false,none,0,[],none,0,[],0⟩]:=
  ⟨.inr ⟨r55,2,rfl,gJD,Hp.qV _ _ _,aN 2,by decide⟩,fun g n c e=>by cases e; exact vGK⟩
 have dHG:Keep M4 (M4.upd r55 ⟨[.bool true,.slice none 0 0,.slice none 0 0,.int .i64 0,.bool false,.slice none 0 0,.slice none 0 0,.int .i64 0],48,8⟩):=(Keep.refl _).new vGK
 have xYW:Old F' (M4.upd r55 ⟨[.bool true,.slice none 0 0,.slice none 0 0,.int .i64 0,.bool false,.slice none 0 0,.slice none 0 0,.int .i64 0],48,8⟩):=dB.upd gJD
 generalize M4.upd r55 ⟨[.bool true,.slice none 0 0,.slice none 0 0,.int .i64 0,.bool false,.slice none 0 0,.slice none 0 0,.int .i64 0],48,8⟩=M5 at *
 simp only [go_sem,q1,c1]
 refine kU (ys:=q.e) Rp.len Rp.plain (by decide) tZ dHG (dF.src Rp.len (hq.e F' M5 (Ext.old xYW)) hq.zero.2) (by simp; omega) ?_
 rintro v M6 fr iZ o6 qKQ
 have eG:=o6 xYW
 obtain ⟨Lr,hLr⟩:∃Lr:List Rp,Lr=[⟨true,none,0,[],none,0,[],0⟩,⟨false,none,0,[],none,0,[],0⟩]++q.e:=⟨_,rfl⟩
 have jYC:∀r∈Lr,(∀M',Old F' M'->r.rd F' M')/\Rp.few r:=fun r hr=>by
  rw [hLr] at hr
  rcases aW.1 hr with hr | hr
  ·simp only [aQ,aV,or_false] at hr
   rcases hr with rfl | rfl
   ·exact ⟨fun M' _=>⟨jX,jX,fun e he=>by cases he⟩,by decide,by decide,fun e he=>by cases he⟩
   ·exact ⟨fun M' _=>⟨jX,jX,fun e he=>by cases he⟩,by decide,by decide,fun e he=>by cases he⟩
  ·have:=lr r hr
   exact ⟨fun M' o=>(hq.es r hr).rd (Ext.old o),by have:=this.1; omega,by have:=this.2.1; omega,this.2.2⟩
 have hLl:Lr.length<=3002:=by rw [hLr]; simp; omega
 rw [<-hLr] at qKQ
 clear hLr tZ
 obtain ⟨aR,cR,rfl⟩:=qKQ.shape
 simp only [go_sem]
 refine gJ (fun σ' F1 M7=>F'=F1/\Keep M4 M7/\Old F' M7/\∃a c,∃Ls:List Rp,Ax.look σ' 7=some (.slice a Ls.length c)/\dF 4 Rp.cs F' M7 (.slice a Ls.length c) Ls/\(∀r∈Ls,r.rd F' M7/\Rp.few r)/\Ls.length<=4000) ?_ ?_
 ·cases hc:wY x
  ·simp only [go_sem]
   exact At.mk ⟨rfl,iZ,eG,aR,cR,Lr,(by simp only [go_sem, *] <;> rfl),qKQ.own.rd Rp.len (by omega),fun r hr=>⟨(jYC r hr).1 M6 eG,(jYC r hr).2⟩,by omega⟩
  simp only [go_sem]
  intro r8 hF8 rQ
  simp only [setH,Hp.wZ,go_sem]
  intro r9 hF9 hM9
  have h9:=hM9
  rw [qD] at h9
  simp only [setH,Hp.wZ,go_sem]
  have B0:Bd r8 r9 (List.replicate 0 ⟨true,none,0,[],none,0,[]⟩) [] (.slice none 0 0) (.slice none 0 0) F' M6 ((M6.upd r8 ⟨[.bool false,.slice none 0 0,.slice none 0 0,.int .i64 0],48,4⟩).upd r9 ⟨[.bool false,.slice none 0 0,.slice none 0 0,.int .i64 0],48,4⟩):=
   ⟨((Keep.refl _).new rQ).new h9.2,eG,(eG.upd hF8).upd hF9,rQ,h9.2,hF8,hF9,by rw [Hp.qK (qJ hM9 (Hp.qV _ _ _)).1]; exact Hp.qV _ _ _,Hp.qV _ _ _,(qJ hM9 (Hp.qV _ _ _)).1,yW.nil,yW.nil,fun g n c n' c' e=>by cases e⟩
  generalize (M6.upd r8 ⟨[.bool false,.slice none 0 0,.slice none 0 0,.int .i64 0],48,4⟩).upd r9 ⟨[.bool false,.slice none 0 0,.slice none 0 0,.int .i64 0],48,4⟩=M7 at *
  have h40:=qKH hc
  have hpre:=yH hc
  refine kQ (fun σ' F1 M8=>F'=F1/\∃A w1 w2 L1 L2,Keep M6 A/\Bd r8 r9 L1 L2 w1 w2 F' A M8/\(∀e∈L1,qHY F' A e)/\(∀e∈L2,qHY F' A e)/\L1.length<=41/\L2.length<=41) ?_ ?_
  ·refine wV (x.stmts.length+1) (ptB x r8 r9 F' M6) ⟨rfl,(by simp only [go_sem, *] <;> rfl),M6,_,_,[],Keep.refl _,B0,rfl,fun e he=>by cases he⟩ ?_
   clear B0
   rintro k σ' F1 M8 hk hst ⟨rfl,q10,A,w1,w2,L2,kA,B,hL2,gJY⟩
   have t4:=hst 4 rfl
   have t5:=hst 5 rfl
   have t8:=hst 8 rfl
   have t9:=hst 9 rfl
   simp only [go_sem,q4] at t4 t5 t8 t9
   clear hst
   have f5k:∀M',Keep A M'->M' r5=some ⟨x.cs,43,7⟩:=fun M' kk=>kk _ _ (kA _ _ (iZ _ _ f5))
   have b5:=qG (F:=F') (f5k M8 B.kM)
   by_cases hkl:(k:Int)<=x.stmts.length
   rotate_left
   ·have hkk:k=x.stmts.length+1:=by omega
    simp only [go_sem,t5,q10,b5,hkl]
    refine At.mk ⟨rfl,A,w1,w2,_,L2,kA,B,fun e he=>?_,gJY,by rw [bD]; omega,by omega⟩
    rw [dK he]
    exact ⟨⟨rfl,rfl,rfl⟩,.inl ⟨rfl,rfl⟩,by decide⟩
   have ek:i64.wrap ((k:Int)+1)=k+1:=dQ (by omega) (by omega)
   have b8:=qG (F:=F') B.f8
   simp only [go_sem,t5,t8,q10,b5,hkl,b8,wXW]
   intro rb uK lW
   simp only [go_sem]
   have hrl:(List.replicate k (⟨true,none,0,[],none,0,[]⟩:En)).length=k:=bD
   refine qYA (xs:=List.replicate k ⟨true,none,0,[],none,0,[]⟩) (ys:=[⟨true,none,0,[],none,0,[]⟩]) En.len En.plain (by decide) (B.m1.own.new lW) ⟨rfl,.inr ⟨⟨rb,0,none⟩,1,rfl,.inr ⟨rb,0,_,rfl,wH,rfl⟩⟩⟩ (by simp) (by rw [hrl,bM]; omega) ?_
   rintro g cap M9 hg hFg rfl qGQ
   obtain ⟨e8,B2⟩:=B.app lW uK hg hFg qGQ
   rw [show List.replicate k (⟨true,none,0,[],none,0,[]⟩:En)++[⟨true,none,0,[],none,0,[]⟩]=List.replicate (k+1) ⟨true,none,0,[],none,0,[]⟩ from List.replicate_succ'.symm] at B2 e8 qGQ ⊢
   generalize hL1:List.replicate (k+1) (⟨true,none,0,[],none,0,[]⟩:En)=L1 at *
   unfold wXW at B2 e8
   simp only [setH,go_sem,t8,e8]
   clear qGQ e8 hg b8
   generalize ((M8.upd rb ⟨[.bool true,.slice none 0 0,.slice none 0 0],51,3⟩).upd g _).upd r8 _=M10 at *
   have b5:=qG (F:=F') (f5k M10 B2.kM)
   have kb:=aI.part B2.kM B2.oM (show aI prog 8 [x.val] F' A (Makes F' A fun u M'=>∃s:dM,u=s.val/\s.blocks.map zZ=(0,[]) :: x.vars.map wGY++x.news.map (fun _=>(0,[]))/\s.next=x.main/\s.inp=0/\s.p=0/\s.w=0/\s.rd F' M') from k8 F' A x hx B2.oA (fun m hm=>by have:=hpre.2.2.2.1 m hm; omega))
   simp only [go_sem,t5,b5]
   with_reducible refine wW kb ?_
   rintro u F1 M11 ⟨hG,kpb,wGA,N,kN,oN,kNM,hNn,s,rfl,hbk,_,_,_,_,rds⟩
   replace hG:=hG.symm
   subst hG
   refine ⟨(fun _=>kpb.le wGA),?_⟩
   have B3:=B2.call kN oN kNM kpb wGA hNn
   have hq0:kD s.blocks=(fZ x).m:=by
    have e1:kD s.blocks=(s.blocks.map zZ).map fun y=>⟨y.1,none,0,y.2⟩:=by unfold kD; rw [List.map_map]; rfl
    rw [e1,hbk]
    simp only [fZ,bP,List.map_cons,List.map_map]
    rfl
   obtain ⟨hz0,hzn⟩:=yJE hq0
   have hfm:iP x s.blocks:=oG (by rw [hq0]; exact (qQK hc).fit)
   have ko:=aI.part kNM wGA (ofB F' N x s hx rds oN hc hfm hz0 hzn)
   simp only [go_sem]
   with_reducible refine wW ko ?_
   rintro u F2 M12 ⟨hG,kpo,vGJ,N2,kN2,oN2,gJA,gJB,e,rfl,dHH,vGG,jYE⟩
   replace hG:=hG.symm
   subst hG
   refine ⟨(fun _=>kpo.le vGJ),?_⟩
   have B4:=B3.call kN2 oN2 gJA kpo vGJ gJB
   simp only [go_sem]
   intro r11 wQD vZ
   have B5:=B4.new (e:=⟨(En.mk false none 0 [] e.mG e.mJ e.news).cs,51,3⟩) vZ wQD
   have n11:N2 r11=none:=B4.kM.free vZ
   have eC:List.take 1 e.cs++[Value.slice none 0 0]++List.drop 2 e.cs=(En.mk false none 0 [] e.mG e.mJ e.news).cs:=by
    show [Value.bool e.no,.slice none 0 0,.slice e.mG e.news.length e.mJ]=_
    rw [dHH]; rfl
   have hel:e.news.length=x.news.length:=by rw [vGG,bD]
   have g11:(M12.upd r11 ⟨(En.mk false none 0 [] e.mG e.mJ e.news).cs,51,3⟩) r11=some ⟨(En.mk false none 0 [] e.mG e.mJ e.news).cs,51,3⟩:=Hp.qV _ _ _
   simp only [setH,Hp.wZ,go_sem,eC]
   generalize M12.upd r11 ⟨(En.mk false none 0 [] e.mG e.mJ e.news).cs,51,3⟩=M13 at *
   clear kb ko hq0 hz0 hzn hfm rds hbk eC B B2 B3 B4 kpb wGA kpo vGJ hNn gJB kNM gJA
   refine kQ (fun σ' F1 M8=>F'=F1/\ptN x r8 r9 r11 L1 L2 (.slice (some ⟨g,0,none⟩) L1.length cap) w2 e.mG e.mJ F' N M8) ?_ ?_
   ·refine wV x.news.length (fun j σ' F1 M8=>F'=F1/\Ax.look σ' 12=some (.int .i64 j)/\ptN x r8 r9 r11 L1 L2 (.slice (some ⟨g,0,none⟩) L1.length cap) w2 e.mG e.mJ F' N M8) ⟨rfl,(by simp only [go_sem, *] <;> rfl),N2,e.news,kN2,B5,jYE,hel,g11,n11⟩ ?_
    clear B5 jYE g11
    rintro j σ' F1 M14 hj hst ⟨rfl,q12,A2,nw,kA2,B6,wXX,hnw,g11,xGH⟩
    have u4:=hst 4 rfl
    have u10:=hst 10 rfl
    have u11:=hst 11 rfl
    simp only [go_sem,t4,q10] at u4 u10 u11
    clear hst
    have b11:=qG (F:=F') g11
    by_cases hjl:(j:Int) < nw.length
    rotate_left
    ·simp only [go_sem,u11,q12,b11,hjl]
     exact At.mk ⟨rfl,A2,nw,kA2,B6,wXX,hnw,g11,xGH⟩
    have hj1:j < nw.length:=by omega
    have hj0:(0:Int)<=j:=by omega
    have ej:i64.wrap ((j:Int)+1)=j+1:=dQ (by omega) (by omega)
    have eki:i64.wrap ((k:Int)+i)=k+i:=dQ (by omega) (by omega)
    have em:((k:Int)+i).tmod 2=((k:Int)+i) % 2:=Int.tmod_eq_emod_of_nonneg (by omega)
    have e15:i64.wrap (15 - ((k:Int)+i) % 2)=15 - ((k:Int)+i) % 2:=dQ (by omega) (by omega)
    rcases wXX.own with ⟨_,h2⟩ | ⟨g,cap2,h1,h2,h3,h4⟩
    ·rw [h2] at hj1; cases hj1
    have gN:=wXX.new g _ _ h1
    injection h1 with h1 h1n h1c
    have yF:=B6.kM _ _ h3
    have w0:j * 1+1<=(nw.flatMap fV).length:=by rw [yG wJ]; omega
    have w1':=iC (f:=fV) (sz:=1) wJ (15 - ((k:Int)+i) % 2) nw j hj1
    rw [show fV (15 - ((k:Int)+i) % 2)=[Value.int .i64 (15 - ((k:Int)+i) % 2)] from rfl] at w1'
    have d11:¬r11=g:=by rintro rfl; rw [xGH] at h3; cases h3
    have B7:=B6.row (y:=⟨(nw.set j (15 - ((k:Int)+i) % 2)).flatMap fV,3,cap2 * 1⟩) h3 h2
    simp only [setH,go_sem,u4,u10,u11,q12,b11,hjl,hj0,h1,eki,em,e15,aB,aY,yF,w0,w1',ej]
    refine ⟨by omega,rfl,(by simp only [go_sem, *] <;> rfl),_,nw.set j (15 - ((k:Int)+i) % 2),kA2.new gN,B7,⟨.inr ⟨g,cap2,by rw [aZ,h1c],h2,Hp.qV _ _ _,by rw [aZ]; exact h4.1,h4.2⟩,fun g' n c e'=>?_⟩,by rw [aZ]; exact hnw,?_,by rw [Hp.qK d11]; exact xGH⟩
    ·cases e'; exact gN
    ·rw [Hp.qK d11,g11]
     unfold En.cs
     simp only [aZ,h1]
   clear B5 jYE g11
   rintro σ3 F1 M14 hst ⟨hG,A2,nw,kA2,B6,wXX,hnw,g11,xGH⟩
   subst hG
   have u9:=hst 9 rfl
   have u10:=hst 10 rfl
   have u11:=hst 11 rfl
   simp only [go_sem,t9,q10] at u9 u10 u11
   clear hst
   have b11:=qG (F:=F') g11
   have b9:=qG (F:=F') B6.f9
   simp only [go_sem,u9,u11,b11,b9,wXW]
   intro rc hFc hMc
   simp only [go_sem]
   generalize heN:(En.mk false none 0 [] e.mG e.mJ nw)=eN at *
   refine qYA (xs:=L2) (ys:=[eN]) En.len En.plain (by decide) (B6.m2.own.new hMc) ⟨rfl,.inr ⟨⟨rc,0,none⟩,1,rfl,.inr ⟨rc,0,_,rfl,wH,by simp [En.fK]⟩⟩⟩ (by simp) (by rw [hL2,bM]; omega) ?_
   rintro g2 cap2 M15 hg2 dHY rfl jKE
   obtain ⟨e9,B8⟩:=B6.swap.app hMc hFc hg2 dHY jKE
   have B8:=B8.swap
   have hLn:(L2++[eN]).length=k+1:=by rw [aO,hL2,bM]
   have hLe:∀e∈L2++[eN],qHY F' A2 e:=fun z hz=>by
    rcases aW.1 hz with hz | hz
    ·exact (gJY z hz).keep (kN.trans kA2)
    ·rw [aX.1 hz,<-heN]
     exact ⟨⟨rfl,rfl,rfl⟩,wXX.own,by show nw.length<=3000; omega⟩
   generalize L2++[eN]=L3 at *
   unfold wXW at B8 e9
   simp only [setH,go_sem,u9,u10,e9,ek]
   exact ⟨by omega,rfl,(by simp only [go_sem, *] <;> rfl),A2,_,_,L3,kA.trans (kN.trans kA2),by rw [hL1]; exact B8,hLn,hLe⟩
  clear B0
  rintro σ2 F1 M8 hst ⟨hG,A,w1,w2,L1,L2,kA,B,hl1,hl2,hL1,hL2⟩
  subst hG
  have t7:=hst 7 rfl
  have t8:=hst 8 rfl
  have t9:=hst 9 rfl
  simp only [go_sem] at t7 t8 t9
  clear hst
  obtain ⟨a1,c1',rfl⟩:=B.m1.shape
  obtain ⟨a2,c2',rfl⟩:=B.m2.shape
  have b8:=qG (F:=F') B.f8
  have b9:=qG (F:=F') B.f9
  have e1:Value.agg #[Value.bool false,.slice none 0 0,.slice a1 L1.length c1',.int .i64 0]=(Rp.mk false none 0 [] a1 c1' L1 0).val:=rfl
  have e2:Value.agg #[Value.bool false,.slice none 0 0,.slice a2 L2.length c2',.int .i64 0]=(Rp.mk false none 0 [] a2 c2' L2 0).val:=rfl
  simp only [go_sem,t7,t8,t9,b8,b9,wXW,e1,e2]
  have okR:∀(a:Option Addr) (c:Nat) (L:List En) (M':Hp),gQ 3 En.cs 51 F' M' (.slice a L.length c) L->(∀e∈L,qHY F' M' e)->L.length<=41->(Rp.mk false none 0 [] a c L 0).rd F' M'/\Rp.few (Rp.mk false none 0 [] a c L 0):=fun a c L M' ho he hl=>
   ⟨⟨jX,ho.rd En.len (by show L.length<=_; omega),fun e h=>((he e h).rd).1⟩,by show (0:Nat)<=_; decide,by show L.length<=_; omega,fun e h=>((he e h).rd).2⟩
  have m1:=B.m1
  have m2:=B.m2
  have okE:∀{L:List En} {M':Hp},(∀e∈L,qHY F' A e)->(∀r z,M8 r=some z->¬z.elem=(48:Nat)->M' r=some z)->∀e∈L,qHY F' M' e:=fun hl fr e he=>⟨(hl e he).1,((hl e he).2.1.keep B.kM).frame fr (by decide),(hl e he).2.2⟩
  have qWF:yW 4 Rp.cs 48 F' M4 M8 (.slice aR Lr.length cR) Lr:=⟨qKQ.own.keep (kA.trans B.kM),qKQ.new⟩
  have nU:Keep M4 M8:=(iZ.trans kA).trans B.kM
  have oM8:=B.oM
  generalize hR1:(Rp.mk false none 0 [] a1 c1' L1 0)=R1 at *
  generalize hR2:(Rp.mk false none 0 [] a2 c2' L2 0)=R2 at *
  have eC:List.take 4 (R1.cs++[Value.bool false,Value.slice none 0 0,Value.slice none 0 0,Value.int .i64 0])++R2.cs++List.drop 8 (R1.cs++[Value.bool false,Value.slice none 0 0,Value.slice none 0 0,Value.int .i64 0])=[R1,R2].flatMap Rp.cs:=rfl
  have eN1:(List.take 4 (R1.cs++[Value.bool false,Value.slice none 0 0,Value.slice none 0 0,Value.int .i64 0])).length=4:=rfl
  have eN2:(List.drop 8 (R1.cs++[Value.bool false,Value.slice none 0 0,Value.slice none 0 0,Value.int .i64 0])).length=0:=rfl
  simp only [go_sem,eC,eN1,eN2]
  intro rd' hFd hMd
  simp only [go_sem]
  refine kU (xs:=Lr) (ys:=[R1,R2]) Rp.len Rp.plain (by decide) (qWF.fresh hMd) (nU.new (nU.free hMd)) ⟨rfl,.inr ⟨⟨rd',0,none⟩,2,rfl,.inr ⟨rd',0,_,rfl,wH,rfl⟩⟩⟩ (by simp; omega) ?_
  rintro v M9 fr9 xE o9 yWJ
  have mZ:=o9 (oM8.upd hFd)
  have fr:∀r z,M8 r=some z->¬z.elem=(48:Nat)->M9 r=some z:=fun r z hz hne=>fr9 r z (by rw [Hp.qK (qJ hMd hz).1]; exact hz) hne
  have hll:(Lr++[R1,R2]).length<=3004:=by simp; omega
  have hLs:∀r∈Lr++[R1,R2],r.rd F' M9/\Rp.few r:=fun r hr=>by
   rcases aW.1 hr with hr | hr
   ·exact ⟨(jYC r hr).1 M9 mZ,(jYC r hr).2⟩
   ·simp only [aQ,aV,or_false] at hr
    rcases hr with rfl | rfl
    ·rw [<-hR1]; exact okR a1 c1' L1 M9 (m1.own.frame fr (by decide)) (okE hl1 fr) hL1
    ·rw [<-hR2]; exact okR a2 c2' L2 M9 (m2.own.frame fr (by decide)) (okE hl2 fr) hL2
  generalize Lr++[R1,R2]=Ls at *
  obtain ⟨a9,c9,rfl⟩:=yWJ.shape
  simp only [go_sem]
  exact At.mk ⟨rfl,xE,mZ,a9,c9,Ls,(by simp only [go_sem, *] <;> rfl),yWJ.own.rd Rp.len (by omega),hLs,by omega⟩
 clear qKQ fr iZ eG o6 jYC hLl
 rintro σ2 F1 M7 hst ⟨hG,lY,iO,aL,cL,Ls,t7,rdL,hLs,hLl⟩
 subst hG
 have t3:=hst 3 rfl
 have t4:=hst 4 rfl
 have t5:=hst 5 rfl
 have t6:=hst 6 rfl
 simp only [go_sem,q3,q4] at t3 t4 t5 t6
 clear hst
 simp only [go_sem]
 have f5':∀M',Keep M7 M'->M' r5=some ⟨x.cs,43,7⟩:=fun M' k=>k _ _ (lY _ _ f5)
 have kpT:Keep M2 M7:=(fC.trans eH).trans lY
 have hlm:=rdL.1
 refine kQ (fun σ' F1 M8=>F'=F1/\Keep M7 M8/\Old F' M8) ?_ ?_
 rotate_left
 ·rintro σ3 F1 M8 hst ⟨hG,nU,iE⟩
  subst hG
  have u4:=hst 4 rfl
  simp only [go_sem,t4] at u4
  clear hst
  simp only [go_sem,u4,ei]
  exact ⟨hi1,rfl,(((fC.trans eH).trans lY).trans nU),iE,(by simp only [go_sem, *] <;> rfl)⟩
 refine wV Ls.length (fun k σ' F1 M8=>F'=F1/\Keep M7 M8/\Old F' M8/\Ax.look σ' 13=some (.int .i64 k)) ⟨rfl,Keep.refl _,iO,(by simp only [go_sem, *] <;> rfl)⟩ ?_
 rintro k σ' F1 M8 hk hst ⟨rfl,nU,iE,u13⟩
 have u3:=hst 3 rfl
 have u5:=hst 5 rfl
 have u6:=hst 6 rfl
 have u7:=hst 7 rfl
 simp only [go_sem,t3,t5,t6,t7] at u3 u5 u6 u7
 clear hst
 by_cases hkl:(k:Int) < Ls.length
 rotate_left
 ·simp only [go_sem,u7,u13,hkl]
  exact At.mk ⟨rfl,nU,iE⟩
 by_cases hk8:(k:Int) < 8
 rotate_left
 ·simp only [go_sem,u7,u13,hkl,hk8]
  exact At.mk ⟨rfl,nU,iE⟩
 have hk0:(0:Int)<=k:=by omega
 have hk1:k < Ls.length:=by omega
 have ek:i64.wrap ((k:Int)+1)=k+1:=dQ (by omega) (by omega)
 have hrk:=hLs _ (aH hk1)
 have rH:∀M',Keep M7 M'->Old F' M'->∃b o cs,aL=some ⟨b,o,none⟩/\blk F' M' b=some cs/\o+k * 4+4<=cs.length/\(cs.drop (o+k * 4)).take 4=(Ls[k]).cs:=fun M' kk o=>dF.at (rdL.keep kk o) hk1
 generalize Ls[k]=rk at *
 simp only [go_sem,u7,u13,hkl,hk8]
 refine kQ (fun σ'' F1 M9=>F'=F1/\Keep M7 M9/\Old F' M9) ?_ ?_
 rotate_left
 ·rintro σ4 F1 M9 hst ⟨hG,xE,mZ⟩
  subst hG
  have v13:=hst 13 rfl
  simp only [go_sem,u13] at v13
  clear hst
  simp only [go_sem,v13,ek]
  exact ⟨hk1,rfl,xE,mZ,(by simp only [go_sem, *] <;> rfl)⟩
 refine wV T.length (fun j σ'' F1 M9=>F'=F1/\Keep M7 M9/\Old F' M9/\Ax.look σ'' 14=some (.int .i64 j)) ⟨rfl,nU,iE,(by simp only [go_sem, *] <;> rfl)⟩ ?_
 clear nU iE
 rintro j σ'' F1 M9 hj hst ⟨rfl,xE,mZ,v14⟩
 have v3:=hst 3 rfl
 have v5:=hst 5 rfl
 have v6:=hst 6 rfl
 have v7:=hst 7 rfl
 have v13:=hst 13 rfl
 simp only [go_sem,u3,u5,u6,u7,u13] at v3 v5 v6 v7 v13
 clear hst
 by_cases hjl:(j:Int) < T.length
 rotate_left
 ·simp only [go_sem,v3,v14,hjl]
  exact At.mk ⟨rfl,xE,mZ⟩
 have hj0:(0:Int)<=j:=by omega
 have hj1:j < T.length:=by omega
 have ej:i64.wrap ((j:Int)+1)=j+1:=dQ (by omega) (by omega)
 have htj:=hT _ (aH hj1)
 have rowT:∀M',Keep M7 M'->Old F' M'->∃b o cs,aT=some ⟨b,o,none⟩/\blk F' M' b=some cs/\o+j * 2+2<=cs.length/\(cs.drop (o+j * 2)).take 2=(T[j]).cs:=fun M' kk o=>dF.at (rdT.keep (kpT.trans kk) o) hj1
 generalize T[j]=t at *
 have eki:i64.wrap ((k:Int)+j)=k+j:=dQ (by omega) (by omega)
 obtain ⟨d,hd,hd4⟩:∃d:Nat,((k:Int)+j).tmod 4=d/\d < 4:=⟨(k+j) % 4,by rw [Int.tmod_eq_emod_of_nonneg (by omega)]; omega,by omega⟩
 have d0:(0:Int)<=d:=by omega
 have d4:(d:Int) < 4:=by omega
 simp only [go_sem,v3,v14,hjl]
 intro gJC hFn hMn
 simp only [go_sem]
 generalize eQ:M9.upd gJC ⟨[.int .i64 0,.int .i64 9,.int .i64 80,.int .i64 (-1)],3,4⟩=M10 at *
 obtain ⟨kpn,uS,fn⟩:=nw eQ mZ hFn hMn
 clear eQ
 obtain ⟨n,hnd,hnv⟩:∃n:Int,([(0:Int),9,80,-1].flatMap fV)[d * 1]? = some (.int .i64 n)/\(n = -1\/(0<=n/\n<=400)):=by
  have:d=0\/d=1\/d=2\/d=3:=by omega
  rcases this with rfl | rfl | rfl | rfl
  ·exact ⟨0,rfl,.inr ⟨by decide,by decide⟩⟩
  ·exact ⟨9,rfl,.inr ⟨by decide,by decide⟩⟩
  ·exact ⟨80,rfl,.inr ⟨by decide,by decide⟩⟩
  ·exact ⟨-1,rfl,.inl rfl⟩
 have bn:blk F' M10 gJC=some ([(0:Int),9,80,-1].flatMap fV):=qG fn
 generalize [(0:Int),9,80,-1].flatMap fV=nL at *
 have pO:=xE.trans kpn
 obtain ⟨bL,oL,csL,eaL,hbL,l1,l2⟩:=rH M10 pO uS
 have kcr:=k9 F' M10 rk (hrk.1.keep pO uS) uS hrk.2
 simp only [go_sem,v7,v13,v14,eki,hd,d0,d4,aB,aY,bn,hnd,hk0,hkl,eaL,hbL,l1,l2]
 with_reducible refine wW kcr ?_
 rintro u F2 M11 ⟨hG,gJE,qWB,r',rfl,hpr,hr'⟩
 replace hG:=hG.symm
 subst hG
 refine ⟨(fun h=>by cases h),?_⟩
 simp only [go_sem]
 intro r16 qKG qQQ
 simp only [setH,Hp.wZ,go_sem]
 generalize eQ:M11.upd r16 ⟨r'.cs,48,4⟩=M12 at *
 obtain ⟨uG,nV,f16⟩:=nw eQ qWB qKG qQQ
 clear eQ
 have uH:=(pO.trans gJE).trans uG
 have wGG:=hr'.keep uG nV
 have b5:=qG (F:=F') (f5' M12 uH)
 have b16:=qG (F:=F') f16
 obtain ⟨bT,oT,csT,eaT,hbT,m1',m2'⟩:=rowT M12 uH nV
 have vGV:=htj.1.keep (kpT.trans uH) nV
 have xYX:=jXZ hpr hrk.2
 have hxM:=Pg.rd.all nV hx
 have kh:=jYB F' M12 x r' t n hxM wGG vGV xYX
 have kf:=firstM F' M12 x r' t n hxM wGG vGV xYX
 rw [hpr] at kh kf
 try simp only [go_sem,v3,v5,v14,b5,b16,eaT,hj0,hjl,aB,hbT,m1',m2']
 with_reducible refine qQ kh ?_
 simp only [go_sem,v3,v5,v14,b5,b16,eaT,hj0,hjl,aB,hbT,m1',m2']
 with_reducible refine qQ kf ?_
 simp only [go_sem,v6]
 have hgood:wY x=true->0<=n->jB x rk.pr=true->jL x t.rs t.ns rk.pr n=(pW x rk.pr (sK x t.rs t.ns n.toNat (fZ x)),0):=fun h1 h2 h3=>by
  unfold jL; rw [if_pos ⟨h1,by omega,h3⟩]
 have hbad:¬(wY x=true/\0<=n/\jB x rk.pr=true)->jL x t.rs t.ns rk.pr n=(0,1):=fun h=>by
  unfold jL; rw [if_neg (fun hh=>h ⟨hh.1,hh.2.1.1,hh.2.2⟩)]
 clear kh kf
 generalize jL x t.rs t.ns rk.pr n=V at *
 have kE:∀M',Keep M12 M'->Old F' M'->aI prog 16 [r'.val,rk.val] F' M' (Same F' M' (.bool true)):=fun M' kk o=>by
  have:=k16 F' M' r' rk (wGG.keep kk o) (hrk.1.keep (uH.trans kk) o) o
  rw [decide_eq_true hpr] at this
  exact this
 have kN:=fun M' e=>k15 F' M' e
 by_cases hall:wY x=true/\0<=n/\jB x rk.pr=true
 rotate_left
 ·have hV:=hbad hall
  subst hV
  obtain ⟨bL2,oL2,dDQ,jYF,xQQ,l12,l22⟩:=rH M12 uH nV
  have kR:wY x=true->aI prog 12 [x.val,rk.val] F' M12 (Same F' M12 (.bool (jB x rk.pr))):=fun h=>k12 F' M12 x rk hx (hrk.1.keep uH nV) nV h
  have fin:∀P:Prop,((wY x=false->P)/\(wY x=true->¬0<=n->P)/\(wY x=true->0<=n->jB x rk.pr=false->P))->P:=fun P h=>by
   cases hc:wY x
   ·exact h.1 hc
   ·by_cases h0:0<=n
    ·cases hr:jB x rk.pr
     ·exact h.2.2 hc h0 hr
     ·exact absurd ⟨hc,h0,hr⟩ hall
    ·exact h.2.1 hc h0
  refine fin _ ⟨fun hc=>?_,fun hc h0=>?_,fun hc h0 hr=>?_⟩
  focus
   simp only [go_sem,hc]
  rotate_left
  focus
   simp only [go_sem,hc,h0]
  rotate_left
  focus
   have kR:=kR hc
   rw [hr] at kR
   simp only [go_sem,v5,v7,v13,hc,h0,b5,hk0,hkl,jYF,aB,xQQ,l12,l22]
   with_reducible refine qQ kR ?_
   simp only [go_sem]
  rotate_left
  all_goals
   try simp only [go_sem,v3,v5,v6,v7,v13,v14]
   with_reducible refine qQ (kN M12 1) ?_
   simp only [go_sem]
   with_reducible refine qQ (kN M12 1) ?_
   simp only [go_sem,v7,v13,b16,hk0,hkl,jYF,aB,xQQ,l12,l22]
   with_reducible refine qQ (kE M12 (Keep.refl _) nV) ?_
   simp only [go_sem,v14,ej]
   exact ⟨hj1,rfl,uH,nV,(by simp only [go_sem, *] <;> rfl)⟩
 obtain ⟨hc,h0,hr⟩:=hall
 have hV:=hgood hc h0 hr
 subst hV
 obtain ⟨m,rfl⟩:=aG h0
 rw [aB] at *
 have hm4:m<=400:=by omega
 obtain ⟨bL2,oL2,dDQ,jYF,xQQ,l12,l22⟩:=rH M12 uH nV
 have kR:=k12 F' M12 x rk hx (hrk.1.keep uH nV) nV hc
 rw [hr] at kR
 simp only [go_sem,v5,v7,v13,hc,h0,b5,hk0,hkl,jYF,aB,xQQ,l12,l22]
 with_reducible refine qQ kR ?_
 have kr:=k14 F' M12 x t m hx vGV nV hc (by omega) ⟨htj.2.1,htj.2.2⟩
 simp only [go_sem,v3,v5,v7,v13,v14,b5,hj0,hjl,hk0,hkl,jYF,eaT,aB,xQQ,l12,l22,hbT,m1',m2']
 with_reducible refine wW kr ?_
 rintro u F2 M13 ⟨hG,wQF,qKV,aS,cS,Ss,rfl,hSq,rdS,hSs⟩
 replace hG:=hG.symm
 subst hG
 refine ⟨(fun _=>wQF.le qKV),?_⟩
 have hok:=yJG hc (rs:=t.rs) (ns:=t.ns) m 0 (fZ x) (qQK hc)
 have ks:=k13 F' M13 x rk aS cS Ss hx (hrk.1.keep (uH.trans wQF) qKV) rdS hSs qKV hc hr (fun s hs=>by
  have ho:=hok s.q (by rw [<-hSq]; exact eF hs)
  exact ⟨oG ho.fit,ho.next⟩)
 rw [hSq] at ks
 have c16:=qG (F:=F') (wQF _ _ f16)
 obtain ⟨bL3,oL3,csL3,dDW,dDX,dDZ,l23⟩:=rH M13 (uH.trans wQF) qKV
 simp only [go_sem]
 with_reducible refine qQ ks ?_
 generalize pW x rk.pr (sK x t.rs t.ns m (fZ x))=Sd at *
 simp only [go_sem]
 with_reducible refine qQ (kN M13 0) ?_
 simp only [go_sem]
 with_reducible refine qQ (kN M13 0) ?_
 by_cases hSd:Sd < 0
 all_goals
  simp only [go_sem,v7,v13,hSd,c16,hk0,hkl,dDW,aB,dDX,dDZ,l23]
  with_reducible refine qQ (kE M13 wQF qKV) ?_
  simp only [go_sem,v14,ej]
  exact ⟨hj1,rfl,uH.trans wQF,qKV,(by simp only [go_sem, *] <;> rfl)⟩
end Go.Proofs.YtpkbjfffbdgpcaaGreat.proofTells
