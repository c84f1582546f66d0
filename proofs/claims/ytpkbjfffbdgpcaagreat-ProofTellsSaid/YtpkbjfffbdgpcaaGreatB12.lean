/- Parts B12: the machine's runs of small codes, contracts of functions, plain facts. -/
import Derived.Test.YtpkbjfffbdgpcaaGreatB11
open Nat renaming add_zero->aK,le_of_ble_eq_true->aA,le_refl->aN
open Int renaming eq_ofNat_of_zero_le->aG,toNat_natCast->aB
open Bool renaming false_ne_true->bK
open List renaming getElem_mem->aH,length_append->aO,length_replicate->bD,length_singleton->bM,length_take->dW,mem_append->aW,mem_cons->aQ,mem_singleton->aX,not_mem_nil->aV,take_of_length_le->aJ,take_succ_eq_append_getElem->aF
open Go.Proofs.Tryz
open Go.IntKind (i64)
set_option maxRecDepth 100000
set_option linter.unusedSimpArgs false
set_option linter.unusedVariables false
set_option maxHeartbeats 1000000
namespace Go.Proofs.Tryz.K
open Go Go.Ax Go.Proofs.Tryz.S
variable (F:Fz) (M:Hp)
def sdI (f:Qs->Bool)(L:List dM)(F0:Fz)(M0:Hp)(i:Nat)(σ:Env)(F:Fz)(M:Hp):Prop:=
 F0=F/\Keep M0 M/\Old F0 M/\Ax.look σ 7=some (.int .i64 i)/\(L.take i).any (fun s=>!f s.q)=false
def saI (l:List Al)(a:Al)(F0:Fz)(M0:Hp)(i:Nat)(σ:Env)(F:Fz)(M:Hp):Prop:=
 F0=F/\M0=M/\Ax.look σ 10=some (.int .i64 i)/\Ax.look σ 9=some (.bool (decide (a∈l.take i)))
theorem k13 (p:Pg)(r:Rp)(a:Option Addr)(c:Nat)(L:List dM)(hp:p.rd F)(hr:r.rd F M)(hL:dF 5 dM.cs F M (.slice a L.length c) L)(hLs:∀s∈L,s.rd F M)(hold:Old F M)(hc:wY p=true)(hrep:jB p r.pr=true)(hok:∀s∈L,iP p s.blocks/\∀k∈s.next,0<=k/\k < p.stmts.length) :
  aI prog 13 [p.val,r.val,.slice a L.length c] F M (Same F M (.int .i64 (pW p r.pr (L.map dM.q)))):=by
 refine qZ hm func13 e13 (aA rfl) ?_;have few:=hp.few;have hml:=hL.1;simp only [c13,go_sem];intro r3 hF3 dN;generalize eQ:M.upd r3 ⟨p.cs,43,7⟩=M1 at *;obtain ⟨fC,dA,f3⟩:=nw eQ hold hF3 dN;clear eQ;simp only [go_sem];intro r4 mW jP;generalize eQ:M1.upd r4 ⟨r.cs,48,4⟩=M2 at *;obtain ⟨jA,fP,f4⟩:=nw eQ dA mW jP;clear eQ;have kp:=fC.trans jA;have f3:=jA _ _ f3;obtain ⟨hno,hat⟩:=yWK (f:=uU p r.pr) (L:=L) rfl;simp only [go_sem];refine wV L.length (sdI (uU p r.pr) L F M2) ⟨rfl,Keep.refl _,fP,(by simp only [go_sem, *] <;> rfl),by simp⟩ ?_;rintro i σ F' M' hi hst ⟨rfl,kq,oq,q7,hpre⟩;have q2:=hst 2 rfl;have q3:=hst 3 rfl;have q4:=hst 4 rfl;simp only [go_sem] at q2 q3 q4;clear hst;have g3:=kq _ _ f3;have g4:=kq _ _ f4;have b3:=qG (F:=F) g3;have b4:=qG (F:=F) g4;have kpA:=kp.trans kq;have fin:∀(v:Int),pW p r.pr (L.map dM.q)=v->∀M5,Keep M' M5->lK F M5 (Same F M (.int .i64 (pW p r.pr (L.map dM.q)))) (.int .i64 v):=fun v h M5 k=>qX (kpA.trans k) ⟨by rw [h],rfl,rfl⟩
 by_cases hil:(i:Int) < L.length;rotate_left
 ·simp only [go_sem,q2,q7,hil];refine fin (-1) ?_ _ (Keep.refl _);unfold pW;split
  ·rfl
  ·rw [aJ (by omega)] at hpre;exact hno hpre
 cases hu:r.un;rotate_left
 ·simp only [go_sem,q2,q4,q7,hil,b4,hu];refine fin (-1) ?_ _ (Keep.refl _);unfold pW;rw [if_pos (show r.pr.un=true from hu)]
 have hSo:pW p r.pr (L.map dM.q)=vV (uU p r.pr) (L.map dM.q) 0:=by
  unfold pW; rw [if_neg (by rw [show r.pr.un=false from hu]; exact bK)]
 obtain ⟨hel,hee⟩:=wWF hrep hu;have hi0:(0:Int)<=i:=by omega
 have hi1:i < L.length:=by omega
 have ei:i64.wrap ((i:Int)+1)=i+1:=dQ (by omega) (by omega);have t1:=aF hi1;have hs:=hLs _ (aH hi1);obtain ⟨hfm,hnx⟩:=hok _ (aH hi1);have dHX:=hat i hi1;obtain ⟨bb,o,cs,ea0,hbb,d1,d2⟩:=dF.at (hL.keep kpA oq) hi1;generalize L[i]=s at *;have hT:uU p r.pr s.q=if s.p=0/\s.w=0 then oC p (yQY r.pr.en (zD p s.q)) s.blocks else decide ((⟨s.p,s.w⟩:Al)∈r.al):=by
  unfold uU;rw [show s.q.m=kD s.blocks from rfl,yQB]; rfl
 have next:uU p r.pr s.q=true->(L.take (i+1)).any (fun s=>!uU p r.pr s.q)=false:=fun h=>by
  rw [t1,List.any_append,hpre]; simp [h]
 have stop:uU p r.pr s.q=false->pW p r.pr (L.map dM.q)=i:=fun h=>by
  rw [hSo]; exact dHX (by rw [h]; rfl) hpre
 simp only [go_sem,q2,q4,q7,hil,b4,hu,ea0,hi0,aB,hbb,d1,d2];intro r8 hF8 rQ;simp only [setH,Hp.wZ,go_sem];generalize eQ:M'.upd r8 ⟨s.cs,57,5⟩=M5 at *;obtain ⟨nU,iE,f8⟩:=nw eQ oq hF8 rQ;clear eQ;have g3:=nU _ _ g3;have g4:=nU _ _ g4;have b3:=qG (F:=F) g3;have b4:=qG (F:=F) g4;have b8:=qG (F:=F) f8;have ez:Value.agg #[.int .i64 0,.int .i64 0]=(⟨0,0⟩:Al).val:=rfl;have ea:∀l,l=s.cs->Value.agg (List.take 2 (List.drop 3 l)).toArray=(⟨s.p,s.w⟩:Al).val:=fun l h=>by rw [h]; rfl
 have ea:=ea _ rfl;have hr5:=hr.keep (kpA.trans nU) iE;by_cases hb:(⟨s.p,s.w⟩:Al)=⟨0,0⟩
 rotate_left
 ·have hb':¬(s.p=0/\s.w=0):=fun h=>hb (by rw [h.1,h.2])
  rw [if_neg hb'] at hT;obtain ⟨x,hx⟩:∃x,x=(⟨s.p,s.w⟩:Al):=⟨_,rfl⟩
  simp only [go_sem,ez,hb];rw [<-hx] at hT;have hla:=hr5.al.1;refine kQ (fun σ' F' M'=>F=F'/\M5=M'/\Ax.look σ' 9=some (.bool (decide (x∈r.al)))) ?_ ?_
  ·refine wV r.al.length (saI r.al x F M5) ⟨rfl,rfl,(by simp only [go_sem, *] <;> rfl),by simp only [List.take_zero,aV,decide_false]; exact (by simp only [go_sem, *] <;> rfl)⟩ ?_;rintro k σ' F' M' hk hst ⟨rfl,rfl,q10,q9⟩;have t4:=hst 4 rfl;have t8:=hst 8 rfl;simp only [go_sem,q4] at t4 t8;clear hst;by_cases hkl:(k:Int) < r.al.length;rotate_left
   ·rw [aJ (by omega)] at q9;simp only [go_sem,t4,q10,b4,hkl];exact At.mk ⟨rfl,rfl,q9⟩
   have hk1:k < r.al.length:=by omega
   have hk0:(0:Int)<=k:=by omega
   have ek:i64.wrap ((k:Int)+1)=k+1:=dQ (by omega) (by omega);have t2:=aF hk1;obtain ⟨b',o',cs',ea',gJK,d3,d4⟩:=dF.at hr5.al hk1;generalize r.al[k]=y at *;by_cases hm:x∈r.al.take k
   ·rw [decide_eq_true hm] at q9;simp only [go_sem,t4,q10,q9,b4,hkl,ek];refine ⟨hk1,rfl,rfl,(by simp only [go_sem, *] <;> rfl),?_⟩;rw [t2,decide_eq_true (List.mem_append_left _ hm)]; exact (by simp only [go_sem, *] <;> rfl)
   ·rw [decide_eq_false hm] at q9;by_cases hxy:y=x
    ·have hd:decide (y=(⟨s.p,s.w⟩:Al))=true:=decide_eq_true (by rw [<-hx]; exact hxy);simp only [go_sem,t4,t8,q10,q9,b4,b8,hkl,hk0,ea',aB,gJK,d3,d4,hd,ek];refine ⟨hk1,rfl,rfl,(by simp only [go_sem, *] <;> rfl),?_⟩;rw [t2,decide_eq_true (List.mem_append_right _ (by rw [hxy]; exact aX.2 rfl))]; exact (by simp only [go_sem, *] <;> rfl)
    ·have hd:decide (y=(⟨s.p,s.w⟩:Al))=false:=decide_eq_false (by rw [<-hx]; exact hxy);simp only [go_sem,t4,t8,q10,q9,b4,b8,hkl,hk0,ea',aB,gJK,d3,d4,hd,ek];refine ⟨hk1,rfl,rfl,(by simp only [go_sem, *] <;> rfl),?_⟩;rw [t2,decide_eq_false (fun h=>by rcases aW.1 h with h | h; exact hm h; exact hxy (aX.1 h).symm)]; exact (by simp only [go_sem, *] <;> rfl)
  rintro σ2 F' M' hst ⟨hG,hMM,t9⟩;subst hG hMM;have t7:=hst 7 rfl;simp only [go_sem,q7] at t7;clear hst;by_cases hm:x∈r.al
  ·rw [decide_eq_true hm] at t9 hT;simp only [go_sem,t7,t9,ei];exact ⟨hi1,rfl,kq.trans nU,iE,(by simp only [go_sem, *] <;> rfl),next hT⟩
  ·rw [decide_eq_false hm] at t9 hT;simp only [go_sem,t7,t9];exact fin i (stop hT) _ nU
 have hb':s.p=0/\s.w=0:=by simpa using hb
 rw [if_pos hb'] at hT;obtain ⟨s0,s1⟩:=yQC (p:=p) (q:=s.q) hnx;obtain ⟨k,hk⟩:=aG s0;rw [hk] at s1 hT;have hke:k < r.en.length:=by omega
 rw [jYD hke] at hT;have he:=hee _ (aH hke);have hs5:=hs.keep (kpA.trans nU) iE;have kh:=k41 F M5 p r.en[k] s hp iE (hr5.ens _ (aH hke)) hs5 hc hfm (yWZ hfm he);obtain ⟨bb',oo',cs',eae,vGQ,d1',d2'⟩:=dF.at hr5.en hke;generalize r.en[k]=e at *;have k0:(0:Int)<=k:=by omega
 have k1:(k:Int) < r.en.length:=by omega
 simp only [go_sem,q3,b3,b8,ez,hb];refine gJ (fun σ' F' M'=>F=F'/\M5=M'/\Ax.look σ' 11=some (.int .i64 k)) ?_ ?_
 ·by_cases hl:(0:Int) < s.next.length;rotate_left
  ·have hn:s.next=[]:=List.length_eq_zero_iff.1 (by omega);have hkk:(p.stmts.length:Int)=k:=by rw [<-hk]; unfold zD; rw [show s.q.next=s.next from rfl,hn]
   simp only [go_sem,hl];exact At.mk ⟨rfl,rfl,by rw [<-hkk]; exact (by simp only [go_sem, *] <;> rfl)⟩
  ·have hl1:0 < s.next.length:=by omega
   have hkk:s.next[0]=k:=(yHE (p:=p) (q:=s.q) hl1).symm.trans hk;obtain ⟨nb,no,ncs,hna,hnb,nd⟩:=Ax.gW hs5.next hl1;rw [hkk] at nd;simp only [go_sem,b8,hl,hna,hnb,nd];exact At.mk ⟨rfl,rfl,(by simp only [go_sem, *] <;> rfl)⟩
 rintro σ2 F' M' hst ⟨hG,hMM,t11⟩;subst hG hMM;have t3:=hst 3 rfl;have t4:=hst 4 rfl;have t7:=hst 7 rfl;have t8:=hst 8 rfl;simp only [go_sem,q3,q4,q7] at t3 t4 t7 t8;clear hst;simp only [go_sem,t3,t4,t8,t11,b3,b4,b8,eae,k0,k1,aB,vGQ,d1',d2'];with_reducible refine qQ kh ?_;cases hin:oC p e.pe s.blocks
 ·rw [hin] at hT;simp only [go_sem,t7];exact fin i (stop hT) _ nU
 ·rw [hin] at hT;simp only [go_sem,t7,ei];exact ⟨hi1,rfl,kq.trans nU,iE,(by simp only [go_sem, *] <;> rfl),next hT⟩
theorem k15 (e:Int):aI prog 15 [.int .i64 e] F M (Same F M (.int .i64 e)):=by
 refine qZ hm func15 e15 (aA rfl) ?_;simp only [c15,go_sem];exact qW ⟨rfl,rfl,rfl⟩
theorem dF.take {α:Type}{sz:Nat}{f:α->List Value}{F:Fz}{M:Hp}{a:Option Addr}{c:Nat}{l:List α}(h:dF sz f F M (.slice a l.length c) l){n:Nat}(hn:n<=l.length):dF sz f F M (.slice a (l.take n).length c) (l.take n):=by
 have hl:(l.take n).length=n:=by rw [dW]; omega
 obtain ⟨h1,ad,cap,hc,e,h⟩:=h;cases e;refine ⟨by omega,_,_,by omega,rfl,?_⟩;rcases h with h | ⟨b,o,cs,hb,hbk,rows⟩
 ·left; rw [h]; simp
 ·refine .inr ⟨b,o,cs,hb,hbk,fun i hi=>?_⟩;rw [List.getElem_take];exact rows i (by omega)
def jYY (F:Fz)(M:Hp)(u:Value)(F':Fz)(M':Hp):Prop:=Makes F M (fun u M'=>∃a c,∃L:List Sr,u=.slice a L.length c/\dF 2 Sr.cs F M' (.slice a L.length c) L/\(∀t∈L,t.rd F M'/\t.rs.length<=100000/\t.ns.length<=100000)/\L.length<=4) u F' M'
theorem k5 (q:bC)(h:q.inB F)(hl:l13 q)(hold:Old F M):aI prog 5 [q.v4] F M (jYY F M):=by
 refine qZ hm func5 e5 (aA rfl) ?_;obtain ⟨_,lt,lts⟩:=hl;simp only [c5,go_sem];intro r1 hF1 hM1;generalize eQ:M.upd r1 ⟨q.c4,29,4⟩=M1 at *;obtain ⟨oV,kY,f1⟩:=nw eQ hold hF1 hM1;clear eQ;simp only [go_sem];intro r5 lM gU;generalize eQ:M1.upd r5 ⟨[.int .i64 1,.int .i64 0,.int .i64 255,.int .i64 7,.int .i64 128],3,5⟩=M2 at *;obtain ⟨eH,dB,f5⟩:=nw eQ kY lM gU;clear eQ;simp only [go_sem];intro r6 vI oI;generalize eQ:M2.upd r6 ⟨[.int .i64 0,.int .i64 1],3,2⟩=M3 at *;obtain ⟨iZ,eG,f6⟩:=nw eQ dB vI oI;clear eQ;simp only [go_sem];intro r8 hF8 rQ;have n8:M r8=none:=((oV.trans eH).trans iZ).free rQ;have mine:yW 2 Sr.cs 64 F M (M3.upd r8 ⟨[.slice none 0 0,.slice none 0 0,.slice (some ⟨r5,0,none⟩) 5 5,.slice (some ⟨r6,0,none⟩) 2 2],64,4⟩) (.slice (some ⟨r8,0,none⟩) 2 2) [⟨none,0,[],none,0,[]⟩,⟨some ⟨r5,0,none⟩,5,[1,0,255,7,128],some ⟨r6,0,none⟩,2,[0,1]⟩]:=
  ⟨.inr ⟨r8,2,rfl,hF8,Hp.qV _ _ _,aN 2,by decide⟩,fun g n c e=>by cases e; exact n8⟩
 have nU:Keep M (M3.upd r8 ⟨[.slice none 0 0,.slice none 0 0,.slice (some ⟨r5,0,none⟩) 5 5,.slice (some ⟨r6,0,none⟩) 2 2],64,4⟩):=((oV.trans eH).trans iZ).new n8;have k8:Keep M3 (M3.upd r8 ⟨[.slice none 0 0,.slice none 0 0,.slice (some ⟨r5,0,none⟩) 5 5,.slice (some ⟨r6,0,none⟩) 2 2],64,4⟩):=(Keep.refl _).new rQ;have iE:Old F (M3.upd r8 ⟨[.slice none 0 0,.slice none 0 0,.slice (some ⟨r5,0,none⟩) 5 5,.slice (some ⟨r6,0,none⟩) 2 2],64,4⟩):=eG.upd hF8;generalize M3.upd r8 ⟨[.slice none 0 0,.slice none 0 0,.slice (some ⟨r5,0,none⟩) 5 5,.slice (some ⟨r6,0,none⟩) 2 2],64,4⟩=M4 at *;have b1:=qG (F:=F) (k8 _ _ (iZ _ _ (eH _ _ f1)));have f5:=k8 _ _ (iZ _ _ f5);have f6:=k8 _ _ f6;simp only [go_sem,b1];refine kU (ys:=q.t) Sr.len Sr.plain (by decide) mine nU (dF.src Sr.len (h.t F M4 (Ext.old iE)) h.zero.1) (by simp; omega) ?_;rintro v M5 fr xE o9 yWJ;have mZ:=o9 iE;have g5:=qG (F:=F) (fr _ _ f5 (show ¬(3:Nat)=64 by decide));have g6:=qG (F:=F) (fr _ _ f6 (show ¬(3:Nat)=64 by decide));have hts:∀t∈([⟨none,0,[],none,0,[]⟩,⟨some ⟨r5,0,none⟩,5,[1,0,255,7,128],some ⟨r6,0,none⟩,2,[0,1]⟩]:List Sr)++q.t,t.rd F M5/\t.rs.length<=100000/\t.ns.length<=100000:=fun t ht=>by
  rcases aW.1 ht with ht | ht
  ·simp only [aQ,aV,or_false] at ht;have e0:∀M,lG F M none 0 []:=fun M=>(show gQ 1 fV 3 F M (.slice none 0 0) [] from .inl ⟨rfl,rfl⟩).rd wJ (by decide)
   rcases ht with rfl | rfl
   ·exact ⟨⟨e0 _,e0 _⟩,by decide,by decide⟩
   ·exact ⟨⟨gZ wJ (show (5:Nat)<=4611686018427387904 by decide) (aN 5) g5,gZ wJ (show (2:Nat)<=4611686018427387904 by decide) (aN 2) g6⟩,by show (5:Nat)<=_; decide,by show (2:Nat)<=_; decide⟩
  ·have:=lts t ht;exact ⟨(h.ts t ht).rd F M5 (Ext.old mZ),by omega,by omega⟩
 have hLl:(([⟨none,0,[],none,0,[]⟩,⟨some ⟨r5,0,none⟩,5,[1,0,255,7,128],some ⟨r6,0,none⟩,2,[0,1]⟩]:List Sr)++q.t).length<=1502:=by simp; omega
 generalize ([⟨none,0,[],none,0,[]⟩,⟨some ⟨r5,0,none⟩,5,[1,0,255,7,128],some ⟨r6,0,none⟩,2,[0,1]⟩]:List Sr)++q.t=L at *;obtain ⟨a,c,rfl⟩:=yWJ.shape;have rdL:=yWJ.own.rd Sr.len (by omega);by_cases h4:(4:Int) < L.length
 ·have hn4:4<=L.length:=by omega
  have hc4:L.length<=c:=by
   obtain ⟨_,ad,cap,hc,e,_⟩:=rdL;cases e; exact hc
  have hc4':(4:Int)<=c:=by omega
  have h4':(4:Int)<=L.length:=by omega
  have rd4:=dF.take rdL hn4;have hl4:(L.take 4).length=4:=by rw [dW]; omega
  simp only [go_sem,h4,hc4,h4'];rw [hl4] at rd4;refine qW ⟨rfl,xE,mZ,a,c,L.take 4,by rw [hl4],by rw [hl4]; exact rd4,fun t ht=>hts t (List.mem_of_mem_take ht),by omega⟩
 ·simp only [go_sem,h4];exact qW ⟨rfl,xE,mZ,a,c,L,rfl,rdL,hts,by omega⟩
structure OfM (p:Pg)(s:dM)(r2 r3 r4 r5:Nat)(w w2:Value)(F:Fz)(M0 M:Hp):Prop where
 kp:Keep M0 M
 old:Old F M
 f2:M r2=some ⟨p.cs,43,7⟩
 f3:M r3=some ⟨s.cs,57,5⟩
 f4:M r4=some ⟨[.bool false,.slice none 0 0,.slice none 0 0],51,3⟩
 f5:M r5=some ⟨[.bool false,w,w2],51,3⟩
def ofI (p:Pg)(s:dM)(r2 r3 r4 r5 v B:Nat)(F0:Fz)(M0:Hp)(i:Nat)(σ:Env)(F:Fz)(M:Hp):Prop:=
 F0=F/\Ax.look σ v=some (.int .i64 i)/\∃w,∃L:List Cl,OfM p s r2 r3 r4 r5 w (.slice none 0 0) F0 M0 M/\yW 10 Cl.cs 100 F0 M0 M w L/\L.length<=B+i
def ofJ (p:Pg)(s:dM)(r2 r3 r4 r5:Nat)(F0:Fz)(M0:Hp)(i:Nat)(σ:Env)(F:Fz)(M:Hp):Prop:=
 F0=F/\Ax.look σ 6=some (.int .i64 ((i+1:Nat):Int))/\∃w,∃L:List Cl,OfM p s r2 r3 r4 r5 w (.slice none 0 0) F0 M0 M/\yW 10 Cl.cs 100 F0 M0 M w L/\L.length<=i * 32
def ofN (p:Pg)(s:dM)(r2 r3 r4 r5:Nat)(a:Option Addr)(m c:Nat)(F0:Fz)(M0:Hp)(i:Nat)(σ:Env)(F:Fz)(M:Hp):Prop:=
 F0=F/\Ax.look σ 12=some (.int .i64 i)/\∃w,OfM p s r2 r3 r4 r5 (.slice a m c) w F0 M0 M/\yW 1 fV 3 F0 M0 M w (List.replicate i 1)
theorem ofB (p:Pg)(s:dM)(hp:p.rd F)(hs:s.rd F M)(hold:Old F M)(hc:wY p=true)(hfm:iP p s.blocks)(hz:∀x∈s.blocks,∀y∈x.l,y.st=0)(hn:∀j (h:j < s.blocks.length),p.vars.length < j->(s.blocks[j]).st=0) :
  aI prog 7 [p.val,s.val] F M (Makes F M fun u M'=>∃e:En,u=e.val/\e.no=false/\e.news=List.replicate p.news.length 1/\yW 1 fV 3 F M M' (.slice e.mG e.news.length e.mJ) e.news):=by
 refine qZ hm func7 e7 (aA rfl) ?_;have few:=hp.few;obtain ⟨qJY,hv4,hn2,hvs,hns⟩:=yH hc;have hml:=hfm.len;have vGW:¬p.ptr=0:=by omega
 simp only [c7,go_sem];intro r2 hF2 hM2;generalize eQ:M.upd r2 ⟨p.cs,43,7⟩=M1 at *;obtain ⟨nG,mY,f2⟩:=nw eQ hold hF2 hM2;clear eQ;simp only [go_sem];intro r3 hF3 dN;generalize eQ:M1.upd r3 ⟨s.cs,57,5⟩=M2 at *;obtain ⟨fC,dA,f3⟩:=nw eQ mY hF3 dN;clear eQ;simp only [go_sem];intro r4 mW jP;have n4:M r4=none:=(nG.trans fC).free jP;generalize eQ:M2.upd r4 ⟨[.bool false,.slice none 0 0,.slice none 0 0],51,3⟩=M3 at *;obtain ⟨jA,fP,f4⟩:=nw eQ dA mW jP;clear eQ;simp only [go_sem];intro r5 lM gU;have n5:M r5=none:=((nG.trans fC).trans jA).free gU;have d45:=(qJ gU f4).1;generalize eQ:M3.upd r5 ⟨[.bool false,.slice none 0 0,.slice none 0 0],51,3⟩=M4 at *;obtain ⟨eH,dB,f5⟩:=nw eQ fP lM gU;clear eQ;have E0:OfM p s r2 r3 r4 r5 (.slice none 0 0) (.slice none 0 0) F M M4:=⟨((nG.trans fC).trans jA).trans eH,dB,eH _ _ (jA _ _ (fC _ _ f2)),eH _ _ (jA _ _ f3),eH _ _ f4,f5⟩
 have d25:¬r2=r5:=by rintro rfl; rw [E0.f2] at f5; injection f5 with h; injection h with _ h _; exact absurd h (by decide)
 have d35:¬r3=r5:=by rintro rfl; rw [E0.f3] at f5; injection f5 with h; injection h with _ h _; exact absurd h (by decide)
 have gJJ:∀{M5:Hp} {w w2 w' w2':Value},OfM p s r2 r3 r4 r5 w w2 F M M5->OfM p s r2 r3 r4 r5 w' w2' F M (M5.upd r5 ⟨[.bool false,w',w2'],51,3⟩):=fun h=>
  ⟨h.kp.new n5,h.old.upd lM,by rw [Hp.qK d25]; exact h.f2,by rw [Hp.qK d35]; exact h.f3,by rw [Hp.qK d45]; exact h.f4,Hp.qV _ _ _⟩
 clear nG fC jA eH mY dA fP dB f2 f3 f4 f5 hM2 dN jP gU;simp only [go_sem];refine kQ (fun σ' F' M'=>F=F'/\∃a m c,OfM p s r2 r3 r4 r5 (.slice a m c) (.slice none 0 0) F M M') ?_ ?_
 ·refine wV (s.blocks.length - 1) (ofJ p s r2 r3 r4 r5 F M) ⟨rfl,(by simp only [go_sem, *] <;> rfl),_,[],E0,yW.nil,by simp⟩ ?_;clear E0;rintro i σ F' M5 hi hst ⟨rfl,q6,w,L,E,mine,hL⟩;have q2:=hst 2 rfl;have q3:=hst 3 rfl;have q5:=hst 5 rfl;simp only [go_sem] at q2 q3 q5;clear hst;have b2:=qG (F:=F) E.f2;have b3:=qG (F:=F) E.f3;by_cases hil:((i+1:Nat):Int) < s.blocks.length;rotate_left
  ·obtain ⟨a,c,rfl⟩:=mine.shape;simp only [go_sem,q3,q6,b3,hil];exact At.mk ⟨rfl,a,L.length,c,E⟩
  have hi1:i+1 < s.blocks.length:=by omega
  have hi0:(0:Int)<=((i+1:Nat):Int):=by omega
  have ei:i64.wrap (((i+1:Nat):Int)+1)=((i+1+1:Nat):Int):=by rw [dQ (by omega) (by omega)]; omega
  have hs5:=hs.keep E.kp E.old;obtain ⟨bb,oo,cs,ea,hbb,d1,d2⟩:=dF.at hs5.blocks hi1;obtain ⟨_,d3⟩:=Bl.row d2;have hx0:=hz _ (aH hi1);have hx32:=(hfm.bytes (i+1) hi1).2.2.2;have hxr:∀M',Keep M M'->Old F M'->dF 5 By.cs F M' (.slice (s.blocks[i+1]).lA (s.blocks[i+1]).l.length (s.blocks[i+1]).lC) (s.blocks[i+1]).l:=fun M' k o=>dF.keep (hs.bytes _ (aH hi1)) k o
  generalize s.blocks[i+1]=x at *;simp only [go_sem,q3,q6,b3,hil,hi0,ea,aB,hbb,d3];refine kQ (fun σ' F' M'=>F=F'/\∃w,∃L:List Cl,OfM p s r2 r3 r4 r5 w (.slice none 0 0) F M M'/\yW 10 Cl.cs 100 F M M' w L/\L.length<=(i+1) * 32) ?_ ?_
  ·refine wV x.l.length (ofI p s r2 r3 r4 r5 8 (i * 32) F M) ⟨rfl,(by simp only [go_sem, *] <;> rfl),w,L,E,mine,by omega⟩ ?_;clear E mine b2 b3 hL hbb d1 d2 d3;rintro k σ' F' M6 hk hst ⟨rfl,q8,w,L,E,mine,hL⟩;have t2:=hst 2 rfl;have t3:=hst 3 rfl;have t5:=hst 5 rfl;have t6:=hst 6 rfl;have t7:=hst 7 rfl;simp only [go_sem,q2,q3,q5,q6] at t2 t3 t5 t6 t7;clear hst;have b2:=qG (F:=F) E.f2;have b5:=qG (F:=F) E.f5;by_cases hkl:(k:Int) < x.l.length;rotate_left
   ·simp only [go_sem,t7,q8,hkl];exact At.mk ⟨rfl,w,L,E,mine,by omega⟩
   have hk1:k < x.l.length:=by omega
   have hk0:(0:Int)<=k:=by omega
   have ek:i64.wrap ((k:Int)+1)=k+1:=dQ (by omega) (by omega);have ekp:i64.wrap ((k:Int)+p.ptr)=k+p.ptr:=dQ (by omega) (by omega);obtain ⟨bb',oo',cs',ea',vGQ,d1',d2'⟩:=dF.at (hxr M6 E.kp E.old) hk1;obtain ⟨d3',_⟩:=By.row d2';have hy0:=hx0 _ (aH hk1);rw [hy0] at d3';have hcl:List.take 0 ([]:List Value)=[]:=rfl;have eC:[Value.int .i64 ((i+1:Nat):Int),.int .i64 (k:Int),.int .i64 0,.int .i64 0,.bool false,.int .i64 0,.int .i64 0,.int .i64 0,.int .i64 0,.slice none 0 0]=(Cl.mk ((i+1:Nat):Int) k 0 V.zero none 0 []).cs:=rfl;have step:∀P:Prop,(((k:Int).tmod p.ptr=0->(k:Int)+p.ptr<=x.l.length->P)/\((k:Int).tmod p.ptr=0->¬(k:Int)+p.ptr<=x.l.length->P)/\(¬(k:Int).tmod p.ptr=0->P))->P:=fun P h=>by
    by_cases c1:(k:Int).tmod p.ptr=0
    ·by_cases c2:(k:Int)+p.ptr<=x.l.length
     ·exact h.1 c1 c2
     ·exact h.2.1 c1 c2
    ·exact h.2.2 c1
   refine step _ ⟨fun c1 c2=>?_,fun c1 c2=>?_,fun c1=>?_⟩
   focus
    simp only [go_sem,t2,t6,t7,q8,hkl,hk0,b2,vGW,c1,c2,ekp,ea',aB,aK,vGQ,d3',eC]
   rotate_left
   focus
    simp only [go_sem,t2,t6,t7,q8,hkl,b2,vGW,c1,c2,ekp,ea',aK,eC]
   rotate_left
   focus
    simp only [go_sem,t2,t6,t7,q8,hkl,b2,vGW,c1,ea',aK,eC]
   rotate_left
   all_goals
    intro r11 wQD vZ;simp only [setH,Hp.wZ,go_sem];generalize eQ:M6.upd r11 ⟨(Cl.mk ((i+1:Nat):Int) k 0 V.zero none 0 []).cs,100,10⟩=M7 at *;obtain ⟨qXD,qWB,f11⟩:=nw eQ E.old wQD vZ;clear eQ;have E7:OfM p s r2 r3 r4 r5 w (.slice none 0 0) F M M7:=⟨E.kp.trans qXD,qWB,qXD _ _ E.f2,qXD _ _ E.f3,qXD _ _ E.f4,qXD _ _ E.f5⟩
    have b11:=qG (F:=F) f11;have b57:=qG (F:=F) E7.f5;obtain ⟨bb7,oo7,cs7,ea7,dHZ,e1,e2⟩:=dF.at (hxr M7 E7.kp E7.old) hk1;rw [ea'] at ea7;injection ea7 with ea7
    injection ea7 with p1 p2
    subst p1 p2;obtain ⟨e3,_⟩:=By.row e2;rw [hy0] at e3;have qWY:=mine.keep qXD;simp only [go_sem,t5,t7,q8,hkl,hk0,ea',aB,aK,dHZ,e3,b11,b57];intro rb uK lW;simp only [go_sem];have nb:M rb=none:=E7.kp.free lW;refine kU (ys:=[Cl.mk ((i+1:Nat):Int) k 0 V.zero none 0 []]) Cl.len Cl.plain (by decide) (qWY.fresh lW) (E7.kp.new nb) ⟨rfl,.inr ⟨⟨rb,0,none⟩,1,rfl,.inr ⟨rb,0,_,rfl,wH,by rfl⟩⟩⟩ (by rw [bM]; omega) ?_;rintro v M8 fr nU o8 qWF;have iE:=o8 (E7.old.upd uK);have frb:∀r' y,M7 r'=some y->¬y.elem=(100:Nat)->M8 r'=some y:=fun r' y hy hne=>fr r' y (by rw [Hp.qK (qJ lW hy).1]; exact hy) hne
    have E8:OfM p s r2 r3 r4 r5 w (.slice none 0 0) F M M8:=⟨nU,iE,frb _ _ E7.f2 (show ¬(43:Nat)=100 by decide),frb _ _ E7.f3 (show ¬(57:Nat)=100 by decide),frb _ _ E7.f4 (show ¬(51:Nat)=100 by decide),frb _ _ E7.f5 (show ¬(51:Nat)=100 by decide)⟩
    have h5:=E8.f5;have hL2:(L++[Cl.mk ((i+1:Nat):Int) k 0 V.zero none 0 []]).length<=i * 32+(k+1):=by rw [aO,bM]; omega
    generalize L++[Cl.mk ((i+1:Nat):Int) k 0 V.zero none 0 []]=L2 at *;obtain ⟨av,cv,rfl⟩:=qWF.shape;simp only [setH,go_sem,t5,q8,h5,ek];have E9:=gJJ (w':=.slice av L2.length cv) (w2':=.slice none 0 0) E8;have vGX:yW 10 Cl.cs 100 F M (M8.upd r5 ⟨[.bool false,.slice av L2.length cv,.slice none 0 0],51,3⟩) (.slice av L2.length cv) L2:=⟨qWF.own.frame (e':=51) (fun r' y hy hne=>by
     have:¬r'=r5:=by rintro rfl; rw [h5] at hy; injection hy with hy; exact hne (by rw [<-hy])
     rw [Hp.qK this]; exact hy) (by decide),qWF.new⟩
    exact ⟨hk1,rfl,(by simp only [go_sem, *] <;> rfl),_,L2,E9,vGX,hL2⟩
  clear E mine b2 b3 hL hbb d1 d2 d3;rintro σ2 F' M6 hst ⟨hG,w,L,E,mine,hL⟩;subst hG;have t6:=hst 6 rfl;simp only [go_sem,q6] at t6;clear hst;simp only [go_sem,t6,ei];exact ⟨by omega,rfl,(by simp only [go_sem, *] <;> rfl),w,L,E,mine,hL⟩
 clear E0;rintro σ1 F' M5 hst ⟨hG,a,m,c,E⟩;subst hG;have q2:=hst 2 rfl;have q3:=hst 3 rfl;have q4:=hst 4 rfl;have q5:=hst 5 rfl;simp only [go_sem] at q2 q3 q4 q5;clear hst;simp only [go_sem];refine wV p.news.length (ofN p s r2 r3 r4 r5 a m c F M) ⟨rfl,(by simp only [go_sem, *] <;> rfl),_,E,yW.nil⟩ ?_;clear E;rintro i σ F' M6 hi hst ⟨rfl,q12,w,E,mine⟩;have t2:=hst 2 rfl;have t3:=hst 3 rfl;have t4:=hst 4 rfl;have t5:=hst 5 rfl;simp only [go_sem,q2,q3,q4,q5] at t2 t3 t4 t5;clear hst;have b2:=qG (F:=F) E.f2;have b3:=qG (F:=F) E.f3;have b5:=qG (F:=F) E.f5;by_cases hil:(i:Int) < p.news.length;rotate_left
 ·have hin:i=p.news.length:=by omega
  obtain ⟨a2,c2,rfl⟩:=mine.shape;have hlr:(List.replicate i (1:Int)).length=p.news.length:=by rw [bD,hin]
  have eR:[Value.bool false,.slice a m c,.slice a2 (List.replicate i (1:Int)).length c2]=[Value.bool false,.slice a m c,.slice a2 (List.replicate i (1:Int)).length c2]:=rfl;have hf4:=E.f4;have d54:¬r5=r4:=fun h=>d45 h.symm
  have hres:∃L:List Cl,L.length=m:=⟨List.replicate m (Cl.mk 0 0 0 V.zero none 0 []),by simp⟩
  obtain ⟨L,hLm⟩:=hres;have eE:[Value.bool false,.slice a m c,.slice a2 (List.replicate i (1:Int)).length c2]=(⟨false,a,c,L,a2,c2,List.replicate i 1⟩:En).cs:=by unfold En.cs; rw [hLm]
  rw [eE] at b5;simp only [setH,go_sem,t2,t4,t5,q12,b2,hil,b5,hf4];have fr:∀(y:nH) r' z,M6 r'=some z->¬z.elem=(51:Nat)->(M6.upd r4 y) r'=some z:=fun y r' z hz hne=>by
   have:¬r'=r4:=by rintro rfl; rw [hf4] at hz; injection hz with hz; exact hne (by rw [<-hz])
   rw [Hp.qK this]; exact hz
  exact qW ⟨rfl,E.kp.new n4,E.old.upd mW,⟨false,a,c,L,a2,c2,List.replicate i 1⟩,rfl,rfl,by rw [hin],⟨mine.own.frame (fr _) (by decide),mine.new⟩⟩
 have hi0:(0:Int)<=i:=by omega
 have hi1:i < p.news.length:=by omega
 have ei:i64.wrap ((i:Int)+1)=i+1:=dQ (by omega) (by omega);have hj:p.vars.length+1+i < s.blocks.length:=by omega
 have w1:i64.wrap ((p.vars.length:Int)+1)=p.vars.length+1:=dQ (by omega) (by omega);have w2:i64.wrap ((p.vars.length:Int)+1+i)=((p.vars.length+1+i:Nat):Int):=by rw [dQ (by omega) (by omega)]; omega
 obtain ⟨bb,oo,cs,ea,hbb,d1,d2⟩:=dF.at (hs.keep E.kp E.old).blocks hj;obtain ⟨d3,_⟩:=Bl.row d2;rw [hn _ hj (by omega)] at d3;have j0:(0:Int)<=((p.vars.length+1+i:Nat):Int):=by omega
 have j1:((p.vars.length+1+i:Nat):Int) < s.blocks.length:=by omega
 have hsh:qF .i64 1 0=1:=by decide
 simp only [go_sem,t2,t3,t5,q12,b2,b3,b5,hil,w1,w2,ea,j0,j1,aB,aK,hbb,d3,hsh];intro rb uK lW;simp only [go_sem];have nb:M rb=none:=E.kp.free lW;refine kU (ys:=[(1:Int)]) wJ kJ (by decide) (mine.fresh lW) (E.kp.new nb) ⟨rfl,.inr ⟨⟨rb,0,none⟩,1,rfl,.inr ⟨rb,0,_,rfl,wH,by rfl⟩⟩⟩ (by rw [bD,bM]; omega) ?_;rintro v M8 fr nU o8 qWF;have iE:=o8 (E.old.upd uK);have frb:∀r' y,M6 r'=some y->¬y.elem=(3:Nat)->M8 r'=some y:=fun r' y hy hne=>fr r' y (by rw [Hp.qK (qJ lW hy).1]; exact hy) hne
 have E8:OfM p s r2 r3 r4 r5 (.slice a m c) w F M M8:=⟨nU,iE,frb _ _ E.f2 (show ¬(43:Nat)=3 by decide),frb _ _ E.f3 (show ¬(57:Nat)=3 by decide),frb _ _ E.f4 (show ¬(51:Nat)=3 by decide),frb _ _ E.f5 (show ¬(51:Nat)=3 by decide)⟩
 have h5:=E8.f5;rw [show List.replicate i (1:Int)++[1]=List.replicate (i+1) 1 from List.replicate_succ'.symm] at qWF;obtain ⟨av,cv,rfl⟩:=qWF.shape;simp only [setH,go_sem,t5,q12,h5,ei];have E9:=gJJ (w':=.slice a m c) (w2':=.slice av (List.replicate (i+1) (1:Int)).length cv) E8;exact ⟨hi1,rfl,(by simp only [go_sem, *] <;> rfl),_,E9,⟨qWF.own.frame (e':=51) (fun r' y hy hne=>by
  have:¬r'=r5:=by rintro rfl; rw [h5] at hy; injection hy with hy; exact hne (by rw [<-hy])
  rw [Hp.qK this]; exact hy) (by decide),qWF.new⟩⟩
theorem yHF {F:Fz}{M N:Hp}{r:Rp}(h:r.rd F M)(hN:Old (F.all M) N):r.rd (F.all M) N:=⟨h.al.yP hN,h.en.yP hN,fun e he=>(h.ens e he).yP hN⟩
theorem yDQ {F:Fz}{M:Hp}{t:Sr}(h:t.rd F M):Sr.rdF (F.all M) t:=fun N hN=>⟨h.rs.yP hN,h.ns.yP hN⟩
theorem firstM (p:Pg)(r:Rp)(t:Sr)(n:Int)(hp:p.rdM F M)(hr:r.rd F M)(ht:t.rd F M)(hl:Rp.few r) :
  aI prog 11 [p.val,r.val,t.val,.int .i64 n] F M (Same F M (.tuple #[.int .i64 (jL p t.rs t.ns r.pr n).1,.int .i64 (jL p t.rs t.ns r.pr n).2])):=
 aI.wYZ (k11 (F.all M) qKB p r t n hp.yP (yHF hr (Old.start _)) (yDQ ht) (Old.start _) hl)
theorem jYB (p:Pg)(r:Rp)(t:Sr)(n:Int)(hp:p.rdM F M)(hr:r.rd F M)(ht:t.rd F M)(hl:Rp.few r) :
  aI prog 10 [p.val,r.val,t.val,.int .i64 n] F M (Same F M (.tuple #[.bool (decide ((jL p t.rs t.ns r.pr n).2=0) && decide ((jL p t.rs t.ns r.pr n).1 < 0)),.int .i64 (jL p t.rs t.ns r.pr n).2])):=
 aI.wYZ (k10 (F.all M) qKB p r t n hp.yP (yHF hr (Old.start _)) (yDQ ht) (Old.start _) hl)
def rJ (b c:Option Addr):Pg:=⟨false,4,none,0,[],none,0,[],none,0,[],b,1,[⟨7,0,0,0,0,none,0,[],none,0,[]⟩],c,1,[0]⟩
def uQ (a:Option Addr):Rp:=⟨false,none,0,[],a,2,[⟨false,none,0,[],none,0,[]⟩,⟨true,none,0,[],none,0,[]⟩],0⟩
theorem yWG (a b c:Option Addr):jL (rJ b c) [] [] (uQ a).pr 5=(1,0):=by rfl
theorem jXX {F:Fz}{M:Hp}{b c:Nat}(h1:blk F M b=some ([⟨7,0,0,0,0,none,0,[],none,0,[]⟩].flatMap Sm.cs))(h2:blk F M c=some ([(0:Int)].flatMap fV)):(rJ (some ⟨b,0,none⟩) (some ⟨c,0,none⟩)).rdM F M:=
 ⟨jX,jX,jX,gZ (f:=Sm.cs) Sm.len (show 1<=_ by decide) (show 1<=1 by decide) h1,gZ wJ (show 1<=_ by decide) (show 1<=1 by decide) h2,fun s hs=>by
  simp only [rJ,aX] at hs;subst hs;exact ⟨jX,jX⟩,⟨(fun _=>rfl),(fun _=>rfl),fun s hs=>by
  simp only [rJ,aX] at hs;subst hs;exact ⟨fun _=>rfl,fun _=>rfl⟩⟩,by
  refine ⟨by simp [rJ],by simp [rJ],by simp [rJ],by simp [rJ],by simp [rJ],fun s hs=>?_⟩;simp only [rJ,aX] at hs;subst hs;exact ⟨by decide,by decide⟩⟩
theorem wKF {F:Fz}{M:Hp}{a:Nat}(h:blk F M a=some ([⟨false,none,0,[],none,0,[]⟩,⟨true,none,0,[],none,0,[]⟩].flatMap En.cs)):(uQ (some ⟨a,0,none⟩)).rd F M:=
 ⟨jX,gZ (f:=En.cs) En.len (show 2<=_ by decide) (show 2<=2 by decide) h,fun e he=>by
  simp only [uQ,aQ,aV,or_false] at he;rcases he with rfl | rfl
  ·exact ⟨jX,(fun x hx=>by cases hx),jX,(fun _=>rfl),(fun _=>rfl),(fun x hx=>by cases hx)⟩
  ·exact ⟨jX,(fun x hx=>by cases hx),jX,(fun _=>rfl),(fun _=>rfl),(fun x hx=>by cases hx)⟩⟩
theorem wXQ (a:Option Addr):Rp.few (uQ a):=⟨by simp [uQ],by simp [uQ],fun e he=>by
 simp only [uQ,aQ,aV,or_false] at he;rcases he with rfl | rfl
 ·exact ⟨by decide,by decide,fun c hc=>by cases hc⟩
 ·exact ⟨by decide,by decide,fun c hc=>by cases hc⟩⟩
theorem k17 (hold:Old F M):aI prog 17 [] F M (Same F M (.bool true)):=by
 refine qZ hm func17 e17 (aA rfl) ?_
 simp only [c17,go_sem]
 intro r8 hF8 rQ
 simp only [go_sem]
 generalize eQ:M.upd r8 ⟨[.int .i64 7,.int .i64 0,.int .i64 0,.int .i64 0,.int .i64 0,.slice none 0 0,.slice none 0 0],80,7⟩=M1 at *
 obtain ⟨nU,iE,f8⟩:=nw eQ hold hF8 rQ
 clear eQ
 try simp only [go_sem]
 intro r9 hF9 hM9
 simp only [go_sem]
 generalize eQ:M1.upd r9 ⟨[.int .i64 0],3,1⟩=M2 at *
 obtain ⟨xE,mZ,f9⟩:=nw eQ iE hF9 hM9
 clear eQ
 try simp only [go_sem]
 intro r1 hF1 hM1
 try simp only [setH,Hp.wZ,go_sem]
 have f1:(M2.upd r1 ⟨[.bool false,.int .i64 4,.slice none 0 0,.slice none 0 0,.slice none 0 0,.slice (some ⟨r8,0,none⟩) 1 1,.slice (some ⟨r9,0,none⟩) 1 1],43,7⟩) r1=some ⟨(rJ (some ⟨r8,0,none⟩) (some ⟨r9,0,none⟩)).cs,43,7⟩:=Hp.qV _ _ _
 have oV:Keep M2 (M2.upd r1 ⟨[.bool false,.int .i64 4,.slice none 0 0,.slice none 0 0,.slice none 0 0,.slice (some ⟨r8,0,none⟩) 1 1,.slice (some ⟨r9,0,none⟩) 1 1],43,7⟩):=(Keep.refl _).new hM1
 have kY:Old F (M2.upd r1 ⟨[.bool false,.int .i64 4,.slice none 0 0,.slice none 0 0,.slice none 0 0,.slice (some ⟨r8,0,none⟩) 1 1,.slice (some ⟨r9,0,none⟩) 1 1],43,7⟩):=mZ.upd hF1
 generalize M2.upd r1 ⟨[.bool false,.int .i64 4,.slice none 0 0,.slice none 0 0,.slice none 0 0,.slice (some ⟨r8,0,none⟩) 1 1,.slice (some ⟨r9,0,none⟩) 1 1],43,7⟩=M3 at *
 have g8:=oV _ _ (xE _ _ f8)
 have g9:=oV _ _ f9
 have fC:=(nU.trans xE).trans oV
 have eP:Value.agg #[Value.bool false,Value.int .i64 4,Value.slice none 0 0,Value.slice none 0 0,Value.slice none 0 0,Value.slice (some ⟨r8,0,none⟩) 1 1,Value.slice (some ⟨r9,0,none⟩) 1 1]=(rJ (some ⟨r8,0,none⟩) (some ⟨r9,0,none⟩)).val:=rfl
 have hsm:=fun a=>yWG a (some ⟨r8,0,none⟩) (some ⟨r9,0,none⟩)
 have gJG:∀M',Keep M3 M'->(rJ (some ⟨r8,0,none⟩) (some ⟨r9,0,none⟩)).rdM F M':=fun M' k=>jXX (qG (k _ _ g8)) (qG (k _ _ g9))
 generalize rJ (some ⟨r8,0,none⟩) (some ⟨r9,0,none⟩)=p at *
 have b1:=qG (F:=F) f1
 have htr:∀M',(⟨none,0,[],none,0,[]⟩:Sr).rd F M':=fun M'=>⟨jX,jX⟩
 have eT:Value.agg #[Value.slice none 0 0,Value.slice none 0 0]=(⟨none,0,[],none,0,[]⟩:Sr).val:=rfl
 have eR:∀r,Value.agg #[Value.bool false,Value.slice none 0 0,Value.slice (some ⟨r,0,none⟩) 2 2,Value.int .i64 0]=(uQ (some ⟨r,0,none⟩)).val:=fun _=>rfl
 try simp only [go_sem,b1]
 intro r15 wYV qJV
 try simp only [go_sem]
 generalize eQ:M3.upd r15 ⟨[.bool false,.slice none 0 0,.slice none 0 0,.bool true,.slice none 0 0,.slice none 0 0],51,6⟩=M4 at *
 obtain ⟨qHD,wKC,f15⟩:=nw eQ kY wYV qJV
 clear eQ
 have kh:=jYB F M4 p (uQ (some ⟨r15,0,none⟩)) ⟨none,0,[],none,0,[]⟩ 5 (gJG M4 qHD) (wKF (qG f15)) (htr M4) (wXQ _)
 rw [show jL p (⟨none,0,[],none,0,[]⟩:Sr).rs (⟨none,0,[],none,0,[]⟩:Sr).ns (uQ (some ⟨r15,0,none⟩)).pr 5=(1,0) from hsm _] at kh
 try simp only [go_sem,eT,eR,eP]
 with_reducible refine qQ kh ?_
 have g1:=qHD _ _ f1
 have c1:=qG (F:=F) g1
 try simp only [go_sem,c1]
 intro r25 dHK dHJ
 try simp only [go_sem]
 generalize eQ:M4.upd r25 ⟨[.bool false,.slice none 0 0,.slice none 0 0,.bool true,.slice none 0 0,.slice none 0 0],51,6⟩=M5 at *
 obtain ⟨gJV,old25,f25⟩:=nw eQ wKC dHK dHJ
 clear eQ
 have kf:=firstM F M5 p (uQ (some ⟨r25,0,none⟩)) ⟨none,0,[],none,0,[]⟩ 5 (gJG M5 (qHD.trans gJV)) (wKF (qG f25)) (htr M5) (wXQ _)
 rw [show jL p (⟨none,0,[],none,0,[]⟩:Sr).rs (⟨none,0,[],none,0,[]⟩:Sr).ns (uQ (some ⟨r25,0,none⟩)).pr 5=(1,0) from hsm _] at kf
 try simp only [go_sem,eT,eR]
 with_reducible refine qQ kf ?_
 try simp only [go_sem]
 with_reducible refine qQ (k15 F M5 0) ?_
 try simp only [go_sem]
 with_reducible refine qQ (k15 F M5 0) ?_
 try simp only [go_sem]
 exact qX ((fC.trans qHD).trans gJV) ⟨rfl,rfl,rfl⟩
end Go.Proofs.Tryz.K
namespace Go.Proofs.Tryz.K
open Go Go.Ax Go.Proofs.Tryz.S
set_option maxRecDepth 100000
set_option linter.unusedSimpArgs false
set_option linter.unusedVariables false
set_option maxHeartbeats 1000000
def wXW (w:Value):nH:=⟨[.bool false,.slice none 0 0,w,.int .i64 0],48,4⟩
structure Bd (r8 r9:Nat)(L1 L2:List En)(w1 w2:Value)(F:Fz)(A M:Hp):Prop where
 kM:Keep A M
 oA:Old F A
 oM:Old F M
 n8:A r8=none
 n9:A r9=none
 F8:F r8=none
 F9:F r9=none
 f8:M r8=some (wXW w1)
 f9:M r9=some (wXW w2)
 d89:¬r8=r9
 m1:yW 3 En.cs 51 F A M w1 L1
 m2:yW 3 En.cs 51 F A M w2 L2
 ds:∀g n c n' c',w1=.slice (some ⟨g,0,none⟩) n c->¬w2=.slice (some ⟨g,0,none⟩) n' c'
section
variable {r8 r9:Nat} {L1 L2:List En} {w1 w2:Value} {F:Fz} {A M:Hp}
theorem Bd.swap (h:Bd r8 r9 L1 L2 w1 w2 F A M):Bd r9 r8 L2 L1 w2 w1 F A M:=
 ⟨h.kM,h.oA,h.oM,h.n9,h.n8,h.F9,h.F8,h.f9,h.f8,fun e=>h.d89 e.symm,h.m2,h.m1,fun g n c n' c' e1 e2=>h.ds g n' c' n c e2 e1⟩
theorem Bd.new (h:Bd r8 r9 L1 L2 w1 w2 F A M){r:Nat}{e:nH}(hr:M r=none)(hF:F r=none):Bd r8 r9 L1 L2 w1 w2 F A (M.upd r e):=
 ⟨h.kM.new (h.kM.free hr),h.oA,h.oM.upd hF,h.n8,h.n9,h.F8,h.F9,by rw [Hp.qK (qJ hr h.f8).1]; exact h.f8,by rw [Hp.qK (qJ hr h.f9).1]; exact h.f9,h.d89,h.m1.fresh hr,h.m2.fresh hr,h.ds⟩
theorem Bd.call (h:Bd r8 r9 L1 L2 w1 w2 F A M){N M':Hp}(kN:Keep A N)(oN:Old F N)(kNM:Keep N M')(kM:Keep M M')(oM:Old F M')(hn:∀b,¬M b=none->A b=none->N b=none):Bd r8 r9 L1 L2 w1 w2 F N M':=by
 have mine:∀{w:Value} {L:List En},yW 3 En.cs 51 F A M w L->yW 3 En.cs 51 F N M' w L:=fun hm=>by
  refine ⟨hm.own.keep kM,fun g n c e=>?_⟩;have h1:=hm.new g n c e;rcases hm.own with ⟨h2,_⟩ | ⟨g',cap,h2,_,h3,_⟩
  ·rw [h2] at e; cases e
  ·rw [h2] at e;injection e with e
   injection e with e
   injection e with e
   subst e;exact hn g' (by rw [h3]; simp) h1
 exact ⟨kNM,oN,oM,hn _ (by rw [h.f8]; simp) h.n8,hn _ (by rw [h.f9]; simp) h.n9,h.F8,h.F9,kM _ _ h.f8,kM _ _ h.f9,h.d89,mine h.m1,mine h.m2,h.ds⟩
theorem Bd.row (h:Bd r8 r9 L1 L2 w1 w2 F A M){g n:Nat}{cs:List Value}{y:nH}(hg:A g=some ⟨cs,3,n⟩)(hF:F g=none):Bd r8 r9 L1 L2 w1 w2 F (A.upd g y) (M.upd g y):=by
 have d8:¬r8=g:=by rintro rfl; rw [h.n8] at hg; cases hg
 have d9:¬r9=g:=by rintro rfl; rw [h.n9] at hg; cases hg
 have mine:∀{w:Value} {L:List En},yW 3 En.cs 51 F A M w L->yW 3 En.cs 51 F (A.upd g y) (M.upd g y) w L:=fun hm=>by
  have key:∀g' n c,_=Value.slice (some ⟨g',0,none⟩) n c->¬g'=g:=fun g' n c e=>by rintro rfl; rw [hm.new _ _ _ e] at hg; cases hg
  refine ⟨?_,fun g' n c e=>by rw [Hp.qK (key g' n c e)]; exact hm.new g' n c e⟩;rcases hm.own with h2 | ⟨g',cap,h2,h3,h4,h5⟩
  ·exact .inl h2
  ·exact .inr ⟨g',cap,h2,h3,by rw [Hp.qK (key _ _ _ h2)]; exact h4,h5⟩
 exact ⟨h.kM.both,h.oA.upd hF,h.oM.upd hF,by rw [Hp.qK d8]; exact h.n8,by rw [Hp.qK d9]; exact h.n9,h.F8,h.F9,by rw [Hp.qK d8]; exact h.f8,by rw [Hp.qK d9]; exact h.f9,h.d89,mine h.m1,mine h.m2,h.ds⟩
theorem Bd.app (h:Bd r8 r9 L1 L2 w1 w2 F A M){rb g cap:Nat}{x y:nH}{L:List En}(hb:M rb=none)(uK:F rb=none)(hg:(M.upd rb x) g=none\/∃c,w1=.slice (some ⟨g,0,none⟩) L1.length c)(hFg:F g=none)
  (own:gQ 3 En.cs 51 F ((M.upd rb x).upd g y) (.slice (some ⟨g,0,none⟩) L.length cap) L) :
  ((M.upd rb x).upd g y) r8=some (wXW w1)/\Bd r8 r9 L L2 (.slice (some ⟨g,0,none⟩) L.length cap) w2 F A (((M.upd rb x).upd g y).upd r8 (wXW (.slice (some ⟨g,0,none⟩) L.length cap))):=by
 have Ab:=h.kM.free hb;have b8:=(qJ hb h.f8).1;have b9:=(qJ hb h.f9).1;have hgM:M g=none\/∃n,M g=some ⟨L1.flatMap En.cs,51,n⟩:=by
  rcases hg with h1 | ⟨c,h1⟩
  ·rw [nX] at h1; exact .inl h1.2
  ·rcases h.m1.own with ⟨h2,_⟩ | ⟨g',cap',h2,_,h3,_⟩
   ·rw [h1] at h2; cases h2
   ·rw [h1] at h2; injection h2 with h2; injection h2 with h2; injection h2 with h2; subst h2
    exact .inr ⟨_,h3⟩
 have Ag:A g=none:=by
  rcases hg with h1 | ⟨c,h1⟩
  ·rw [nX] at h1; exact h.kM.free h1.2
  ·exact h.m1.new g _ _ h1
 have dr:∀{r:Nat} {w:Value},M r=some (wXW w)->¬r=g:=fun h1=>by
  rintro rfl;rcases hgM with h2 | ⟨n,h2⟩
  ·rw [h2] at h1; cases h1
  ·rw [h2] at h1; injection h1 with h1; injection h1 with _ h1 _; exact absurd h1 (by decide)
 have d8:=dr h.f8;have d9:=dr h.f9;have e8:((M.upd rb x).upd g y) r8=some (wXW w1):=by rw [Hp.qK d8,Hp.qK b8]; exact h.f8
 refine ⟨e8,((h.kM.new Ab).new Ag).new h.n8,h.oA,((h.oM.upd uK).upd hFg).upd h.F8,h.n8,h.n9,h.F8,h.F9,Hp.qV _ _ _,by rw [Hp.qK (fun e=>h.d89 e.symm),Hp.qK d9,Hp.qK b9]; exact h.f9,h.d89,⟨?_,fun g' n c e=>by cases e; exact Ag⟩,⟨?_,h.m2.new⟩,?_⟩
 ·rcases own with h1 | ⟨g',cap',h1,h2,h3,h4⟩
  ·exact .inl h1
  ·have:¬g'=r8:=by rintro rfl; rw [e8] at h3; injection h3 with h3; injection h3 with _ h3 _; exact absurd h3 (by decide)
   exact .inr ⟨g',cap',h1,h2,by rw [Hp.qK this]; exact h3,h4⟩
 ·rcases h.m2.own with h1 | ⟨g',cap',h1,h2,h3,h4⟩
  ·exact .inl h1
  ·have q8:¬g'=r8:=by rintro rfl; rw [h.f8] at h3; injection h3 with h3; injection h3 with _ h3 _; exact absurd h3 (by decide)
   have qb:¬g'=rb:=by rintro rfl; rw [hb] at h3; cases h3
   have qg:¬g'=g:=by
    rintro rfl;rcases hg with h5 | ⟨c,h5⟩
    ·rw [nX] at h5; rw [h5.2] at h3; cases h3
    ·exact h.ds _ _ _ _ _ h5 h1
   exact .inr ⟨g',cap',h1,h2,by rw [Hp.qK q8,Hp.qK qg,Hp.qK qb]; exact h3,h4⟩
 ·intro g' n c n' c' e1 e2;cases e1;rcases hg with h5 | ⟨c,h5⟩
  ·rw [nX] at h5;rcases h.m2.own with ⟨h1,_⟩ | ⟨g',cap',h1,h2,h3,h4⟩
   ·rw [h1] at e2; cases e2
   ·rw [h1] at e2; injection e2 with e2; injection e2 with e2; injection e2 with e2; subst e2
    rw [h5.2] at h3; cases h3
  ·exact h.ds _ _ _ _ _ h5 e2
end
end Go.Proofs.Tryz.K
