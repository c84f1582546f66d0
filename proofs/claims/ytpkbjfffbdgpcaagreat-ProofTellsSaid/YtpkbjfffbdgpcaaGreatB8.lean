/- Parts B8: the machine's runs of small codes, contracts of functions, plain facts. -/
import Derived.Test.YtpkbjfffbdgpcaaGreatB7
open Nat renaming add_zero->aK,le_of_ble_eq_true->aA,le_refl->aN,zero_add->aY
open Int renaming eq_ofNat_of_zero_le->aG,toNat_natCast->aB
open Bool renaming and_eq_true->aC,false_ne_true->bK,or_eq_false_iff->dU
open List renaming all_eq_true->bW,eq_of_mem_replicate->dK,getElem_mem->aH,getElem_of_mem->bZ,length_append->aO,length_cons->fF,length_map->bJ,length_replicate->bD,length_set->aZ,length_singleton->bM,mem_append->aW,mem_cons->aQ,mem_singleton->aX,not_mem_nil->aV
open Option renaming bind_some->bY
open Go.Proofs.Tryz
open Go.IntKind (i64)
set_option maxRecDepth 100000
set_option linter.unusedSimpArgs false
set_option linter.unusedVariables false
set_option maxHeartbeats 1000000
namespace Go.Proofs.Tryz.K
open Go Go.Ax Go.Proofs.Tryz.S
variable (F:Fz) (M:Hp)
structure EvM (p:Pg)(m:List Bl)(n i:Nat)(β:Int)(vs:List Sc)(r3 r6 r16 yA:Nat)(F0:Fz)(M0 M:Hp):Prop where
 kp:Keep M0 M
 old:Old F0 M
 f3:M r3=some ⟨p.cs,43,7⟩
 f6:M r6=some ⟨[.bool false,.int .i64 0,.int .i64 0,.int .i64 0],90,4⟩
 f16:M r16=some ⟨vs.flatMap Sc.cs,90,n * 4⟩
 f19:M yA=some ⟨(bsL p m n i β).map oZ,3,n * 1⟩
theorem EvM.new {p:Pg}{m:List Bl}{n i:Nat}{β:Int}{vs:List Sc}{r3 r6 r16 yA:Nat}{F0:Fz}{M0 M M':Hp}(h:EvM p m n i β vs r3 r6 r16 yA F0 M0 M)(kp:Keep M M')(o:Old F0 M'):EvM p m n i β vs r3 r6 r16 yA F0 M0 M':=
 ⟨h.kp.trans kp,o,kp _ _ h.f3,kp _ _ h.f6,kp _ _ h.f16,kp _ _ h.f19⟩
theorem EvM.loc {p:Pg}{m:List Bl}{n i:Nat}{β:Int}{vs:List Sc}{r3 r6 r16 yA r:Nat}{x:nH}{F0:Fz}{M0 M:Hp}(h:EvM p m n i β vs r3 r6 r16 yA F0 M0 M)(n0:M0 r=none)(hF:F0 r=none)(d3:¬r3=r)(d6:¬r6=r)(d16:¬r16=r)(d19:¬yA=r):EvM p m n i β vs r3 r6 r16 yA F0 M0 (M.upd r x):=
 ⟨h.kp.new n0,h.old.upd hF,by rw [Hp.qK d3]; exact h.f3,by rw [Hp.qK d6]; exact h.f6,by rw [Hp.qK d16]; exact h.f16,by rw [Hp.qK d19]; exact h.f19⟩
structure EvN (r3 r6 r16 yA:Nat)(F0:Fz)(M0:Hp):Prop where
 n3:M0 r3=none
 n6:M0 r6=none
 n16:M0 r16=none
 n19:M0 yA=none
 F16:F0 r16=none
 F19:F0 yA=none
 d36:¬r3=r16
 d39:¬r3=yA
 d66:¬r6=r16
 d69:¬r6=yA
 d96:¬yA=r16
theorem EvM.setB {p:Pg}{m:List Bl}{n i:Nat}{β:Int}{vs:List Sc}{r3 r6 r16 yA:Nat}{F0:Fz}{M0 M:Hp}(h:EvM p m n i β vs r3 r6 r16 yA F0 M0 M)(N:EvN r3 r6 r16 yA F0 M0)(γ:Int):EvM p m n i γ vs r3 r6 r16 yA F0 M0 (M.upd yA ⟨(bsL p m n i γ).map oZ,3,n * 1⟩):=
 ⟨h.kp.new N.n19,h.old.upd N.F19,by rw [Hp.qK N.d39]; exact h.f3,by rw [Hp.qK N.d69]; exact h.f6,by rw [Hp.qK (fun e=>N.d96 e.symm)]; exact h.f16,Hp.qV _ _ _⟩
theorem EvM.dXG {p:Pg}{m:List Bl}{n i:Nat}{β:Int}{vs ws:List Sc}{r3 r6 r16 yA:Nat}{F0:Fz}{M0 M:Hp}(h:EvM p m n i β vs r3 r6 r16 yA F0 M0 M)(N:EvN r3 r6 r16 yA F0 M0):EvM p m n i β ws r3 r6 r16 yA F0 M0 (M.upd r16 ⟨ws.flatMap Sc.cs,90,n * 4⟩):=
 ⟨h.kp.new N.n16,h.old.upd N.F16,by rw [Hp.qK N.d36]; exact h.f3,by rw [Hp.qK N.d66]; exact h.f6,Hp.qV _ _ _,by rw [Hp.qK N.d96]; exact h.f19⟩
theorem ints_set (l:List Int)(i:Nat)(x:Int)(h:i < l.length):(l.map oZ).take (i * 1)++[Value.int .i64 x]++(l.map oZ).drop (i * 1+1)=(l.set i x).map oZ:=by
 rw [Nat.mul_one,List.map_set,List.set_eq_take_append_cons_drop,if_pos (by rw [bJ]; exact h)];simp [oZ]
theorem ints_at {l:List Int}{i:Nat}{x:Int}(h:l[i]? = some x):(l.map oZ)[i * 1]? = some (.int .i64 x):=by
 rw [Nat.mul_one,List.getElem?_map,h]; rfl
theorem yKF {l:List Sc}{i:Nat}{x:Sc}(h:l[i]? = some x):i * 4+4<=(l.flatMap Sc.cs).length/\((l.flatMap Sc.cs).drop (i * 4)).take 4=x.cs:=by
 obtain ⟨hi,rfl⟩:=List.getElem?_eq_some_iff.1 h;exact ⟨by rw [yG (sz:=4) (f:=Sc.cs) (fun _=>rfl)]; omega,lF (sz:=4) (f:=Sc.cs) (fun _=>rfl) l i hi⟩
def evI (p:Pg)(m:List Bl)(n:Nat)(r3 r6 r16 yA:Nat)(F0:Fz)(M0:Hp)(i:Nat)(σ:Env)(F:Fz)(M:Hp):Prop:=
 F0=F/\Ax.look σ 10=some (.int .i64 i)/\∃β,(i < n->β=0)/\EvM p m n i β (vsL p m n i) r3 r6 r16 yA F0 M0 M
theorem k84 (p:Pg)(a:Option Addr)(c:Nat)(m:List Bl)(e:Nat)(hp:p.rd F)(h:dF 2 Bl.cs F M (.slice a m.length c) m)(hr:∀y∈m,y.rd F M)(hold:Old F M)(hc:wY p=true)(hfm:iP p m)(he:e < p.exprs.length) :
  aI prog 84 [p.val,.slice a m.length c,.int .i64 e] F M (Same F M (.tuple #[(lJ p m e).1.val,.int .i64 (lJ p m e).2])):=by
 refine qZ hm func84 e84 (aA rfl) ?_
 have few:=hp.few
 have xHD:p.exprs.length<=120:=by
  unfold wY at hc
  simp only [aC,decide_eq_true_eq] at hc
  exact hc.1.1.1.1.2
 have ee:i64.wrap ((e:Int)+1)=((e+1:Nat):Int):=by rw [dQ (by omega) (by omega)]; omega
 simp only [c84,go_sem]
 intro r3 hF3 dN
 have n3:M r3=none:=dN
 generalize eQ:M.upd r3 ⟨p.cs,43,7⟩=M1 at *
 obtain ⟨fC,dA,f3⟩:=nw eQ hold hF3 dN
 clear eQ
 simp only [go_sem]
 intro r6 vI oI
 have n6:M r6=none:=fC.free oI
 generalize eQ:M1.upd r6 ⟨[.bool false,.int .i64 0,.int .i64 0,.int .i64 0],90,4⟩=M2 at *
 obtain ⟨iZ,eG,f6⟩:=nw eQ dA vI oI
 clear eQ
 have kp:=fC.trans iZ
 have f32:=iZ _ _ f3
 simp only [go_sem,ee]
 refine rY (aN _) (by simp only [maxLen]; omega) (by omega) ?_
 intro r16 qKG qQQ
 have n16:M r16=none:=kp.free qQQ
 have d36:=(qJ qQQ f32).1
 have d66:=(qJ qQQ f6).1
 have hrep:(List.replicate (e+1) [Value.bool false,.int .i64 0,.int .i64 0,.int .i64 0]).flatten=(vsL p m (e+1) 0).flatMap Sc.cs:=by
  rw [zYE]; exact qC (f:=Sc.cs) z0 (e+1)
 rw [hrep]
 generalize eQ:M2.upd r16 ⟨(vsL p m (e+1) 0).flatMap Sc.cs,90,(e+1) * 4⟩=M3 at *
 obtain ⟨uG,qE,f16⟩:=nw eQ eG qKG qQQ
 clear eQ
 simp only [go_sem,ee]
 refine rY (aN _) (by simp only [maxLen]; omega) (by omega) ?_
 intro yA gQW jWK
 have n19:M yA=none:=(kp.trans uG).free jWK
 have d39:=(qJ jWK (uG _ _ f32)).1
 have d69:=(qJ jWK (uG _ _ f6)).1
 have d96:¬yA=r16:=fun h=>(qJ jWK f16).1 h.symm
 have xHY:(List.replicate (e+1) [Value.int .i64 0]).flatten=(bsL p m (e+1) 0 0).map oZ:=by
  rw [zYF (by omega)]
  have:=qC (f:=fV) (0:Int) (e+1)
  rw [show fV 0=[Value.int .i64 0] from rfl] at this
  rw [this]
  simp [fV,oZ,List.flatMap_replicate]
 rw [xHY]
 generalize eQ:M3.upd yA ⟨(bsL p m (e+1) 0 0).map oZ,3,(e+1) * 1⟩=M4 at *
 obtain ⟨jHJ,xHA,f19⟩:=nw eQ qE gQW jWK
 clear eQ
 have N:EvN r3 r6 r16 yA F M:=⟨n3,n6,n16,n19,qKG,gQW,d36,d39,d66,d69,d96⟩
 have E0:EvM p m (e+1) 0 0 (vsL p m (e+1) 0) r3 r6 r16 yA F M M4:=⟨(kp.trans uG).trans jHJ,xHA,jHJ _ _ (uG _ _ f32),jHJ _ _ (uG _ _ f6),jHJ _ _ f16,f19⟩
 clear kp fC iZ uG jHJ dA eG qE xHA f3 f6 f32 f16 f19 dN oI qQQ jWK d36 d39 d66 d69 d96 hrep xHY
 obtain ⟨n,hn⟩:∃n,n=e+1:=⟨_,rfl⟩
 rw [<-hn] at E0 ⊢
 simp only [go_sem]
 refine wV n (evI p m n r3 r6 r16 yA F M) ⟨rfl,(by simp only [go_sem, *] <;> rfl),0,fun _=>rfl,E0⟩ ?_
 clear E0
 rintro i σ F' M' hi hst ⟨hG,q10,β,hβ,E⟩
 subst hG
 have q1:=hst 1 rfl
 have q2:=hst 2 rfl
 have q3:=hst 3 rfl
 have q6:=hst 6 rfl
 have q8:=hst 8 rfl
 have q9:=hst 9 rfl
 simp only [go_sem] at q1 q2 q3 q6 q8 q9
 clear hst
 by_cases hil:(i:Int)<=e
 rotate_left
 ·have hin:i=n:=by omega
  have b16:=qG (F:=F) E.f16
  have b19:=qG (F:=F) E.f19
  have g1:=yKF (wVW (p:=p) (m:=m) (n:=n) (i:=i) (j:=e) (by omega))
  have g2:=ints_at (wVX (p:=p) (m:=m) (n:=n) (i:=i) (j:=e) (β:=β) (by omega))
  have e0:(0:Int)<=e:=by omega
  have e1:(e:Int) < n:=by omega
  have d96:¬yA=r6:=fun h=>N.d69 h.symm
  have d66:¬r16=r6:=fun h=>N.d66 h.symm
  simp only [setH,go_sem,q2,q6,q8,q9,q10,hil,e0,e1,aB,aY,b16,b19,g1.1,g1.2,g2,E.f6,d96]
  exact qX (E.kp.new N.n6) ⟨rfl,rfl,rfl⟩
 have hi1:i < n:=by omega
 have hie:i < p.exprs.length:=by omega
 have hβ0:=hβ hi1
 subst hβ0
 clear hβ
 have hi0:(0:Int)<=i:=by omega
 have hin:(i:Int) < n:=by omega
 have xXH:(i:Int) < p.exprs.length:=by omega
 have ei:i64.wrap ((i:Int)+1)=i+1:=dQ (by omega) (by omega)
 have hx:=qQC hc hie
 obtain ⟨o1,o22,hpa,hpb⟩:=oD hx
 have hev:=wQE (m:=m) (List.getElem?_eq_getElem hie) hpa hpb
 have hgood:=wL hc hfm (p.exprs.length) i hie hie
 obtain ⟨bx,ox,cx,eax,hbx,dx1,dx2⟩:=dF.at (hp.exprs M' E.old) hie
 have b3:=qG (F:=F) E.f3
 generalize p.exprs[i]=x at *
 simp only [go_sem,q2,q3,q10,hil,b3,eax,hi0,xXH,aB,hbx,dx1,dx2]
 intro r11 wQD vZ
 simp only [setH,Hp.wZ,go_sem]
 have d3b:=(qJ vZ E.f3).1
 have d6b:=(qJ vZ E.f6).1
 have d16b:=(qJ vZ E.f16).1
 have gQX:=(qJ vZ E.f19).1
 generalize eQ:M'.upd r11 ⟨x.cs,119,5⟩=M5 at *
 obtain ⟨qXD,qWB,f11⟩:=nw eQ E.old wQD vZ
 clear eQ
 have E5:=E.new qXD qWB
 try simp only [go_sem]
 intro r12 qHV sH
 have n12:M r12=none:=E5.kp.free sH
 have jHG:=(qJ sH f11).1
 have d3c:=(qJ sH E5.f3).1
 have d6c:=(qJ sH E5.f6).1
 have dXH:=(qJ sH E5.f16).1
 have jHV:=(qJ sH E5.f19).1
 generalize eQ:M5.upd r12 ⟨[.bool false,.int .i64 0,.int .i64 0,.int .i64 0],90,4⟩=M6 at *
 obtain ⟨uH,nV,f12⟩:=nw eQ qWB qHV sH
 clear eQ
 have E6:=E5.new uH nV
 simp only [go_sem]
 intro r13 yQZ qJC
 have n13:M r13=none:=E6.kp.free qJC
 have jHH:=(qJ qJC (uH _ _ f11)).1
 have jHD:=(qJ qJC f12).1
 have d3d:=(qJ qJC E6.f3).1
 have d6d:=(qJ qJC E6.f6).1
 have dXD:=(qJ qJC E6.f16).1
 have jHY:=(qJ qJC E6.f19).1
 generalize eQ:M6.upd r13 ⟨[.bool false,.int .i64 0,.int .i64 0,.int .i64 0],90,4⟩=M7 at *
 obtain ⟨wQF,qKV,f13⟩:=nw eQ nV yQZ qJC
 clear eQ
 have E7:=E6.new wQF qKV
 have f117:=wQF _ _ (uH _ _ f11)
 have f127:=wQF _ _ f12
 have vKW:=qG (F:=F) f117
 clear qXD uH wQF qWB nV qKV E5 E6 E f11 f12 vZ sH qJC wQD b3 hbx dx1 dx2
 simp only [go_sem,vKW]
 with_reducible refine qQ (k48 F M7 x.op) ?_
 obtain ⟨ra,hra⟩:∃ra,ra=if 0 < bH x.op then lJ p m x.a else (z0,0):=⟨_,rfl⟩
 obtain ⟨rb,hrb⟩:∃rb,rb=if 1 < bH x.op then lJ p m x.b else (z0,0):=⟨_,rfl⟩
 rw [<-hra,<-hrb] at hev
 simp only [go_sem]
 refine gJ (fun σ' F' M8=>F=F'/\EvM p m n i ra.2 (vsL p m n i) r3 r6 r16 yA F M M8/\M8 r11=some ⟨x.cs,119,5⟩/\M8 r12=some ⟨ra.1.cs,90,4⟩/\M8 r13=some ⟨z0.cs,90,4⟩) ?_ ?_
 ·by_cases h0:0 < bH x.op
  ·rw [if_pos h0] at hra
   obtain ⟨j,hj⟩:=aG (hpa h0).1
   have hji:j < i:=by have:=hpa h0; omega
   have j0:(0:Int)<=j:=by omega
   have jn:(j:Int) < n:=by omega
   have b16:=qG (F:=F) E7.f16
   have b19:=qG (F:=F) E7.f19
   have g1:=yKF (wVW (p:=p) (m:=m) (n:=n) hji)
   have g2:=ints_at (wVX (p:=p) (m:=m) (n:=n) (β:=0) hji)
   have g3:=ints_set (bsL p m n i 0) i (lJ p m j).2 (by rw [qQE (by omega)]; exact hi1)
   rw [wVZ hi1] at g3
   have g4:i * 1+1<=((bsL p m n i 0).map oZ).length:=by rw [bJ,qQE (by omega)]; omega
   have E8:=(E7.loc (x:=⟨(lJ p m j).1.cs,90,4⟩) n12 qHV d3c d6c dXH jHV).setB N (lJ p m j).2
   have vKX:¬r12=yA:=fun h=>jHV h.symm
   have f197:=E7.f19
   have dXY:∀y,(M7.upd r12 y) yA=some ⟨(bsL p m n i 0).map oZ,3,n * 1⟩:=fun y=>by rw [Hp.qK jHV]; exact f197
   simp only [setH,go_sem,q8,q9,q10,h0,vKW,hj,j0,jn,hi0,hin,aB,aY,b16,b19,g1.1,g1.2,g2,g3,g4,f127,jHG,jHV,dXY]
   rw [hj] at hra
   rw [<-hra] at E8 ⊢
   exact At.mk ⟨rfl,E8,by rw [Hp.qK (fun h=>gQX h.symm),Hp.qK jHG]; exact f117,by rw [Hp.qK vKX]; exact Hp.qV _ _ _,by rw [Hp.qK (fun h=>jHY h.symm),Hp.qK (fun h=>jHD h.symm)]; exact f13⟩
  ·rw [if_neg h0] at hra
   simp only [go_sem,h0]
   rw [hra]
   exact At.mk ⟨rfl,E7,f117,f127,f13⟩
 rintro σ2 F' M8 hst ⟨hG,E8,g11,g12,g13⟩
 subst hG
 have t1:=hst 1 rfl
 have t3:=hst 3 rfl
 have t8:=hst 8 rfl
 have t9:=hst 9 rfl
 have t10:=hst 10 rfl
 have t11:=hst 11 rfl
 have t12:=hst 12 rfl
 have t13:=hst 13 rfl
 simp only [go_sem,q1,q3,q8,q9,q10] at t1 t3 t8 t9 t10 t11 t12 t13
 clear hst E7 f117 f127 f13 vKW
 have jHA:=qG (F:=F) g11
 have yQK:=qG (F:=F) E8.f19
 have gi:=ints_at (jHK (p:=p) (m:=m) (n:=n) (i:=i) (β:=ra.2) hi1)
 by_cases wVK:ra.2=0
 rotate_left
 ·-- what goes wrong ahead goes wrong here
  have hev2:lJ p m i=(z0,ra.2):=by
   rw [hev]
   unfold exV
   have h0:0 < bH x.op:=Decidable.byContradiction fun h=>by rw [if_neg h] at hra; rw [hra] at wVK; exact wVK rfl
   rw [if_pos ⟨h0,wVK⟩]
  simp only [go_sem,t9,t10,yQK,hi0,hin,aB,aY,gi,wVK,ei]
  have hb2:bsL p m n i ra.2=bsL p m n (i+1) 0:=by rw [<-qKJ hi1,hev2]
  have hv2:vsL p m n i=vsL p m n (i+1):=yQX hi1 (by rw [hev2])
  refine ⟨hi1,rfl,(by simp only [go_sem, *] <;> rfl),0,fun _=>rfl,?_⟩
  exact ⟨E8.kp,E8.old,E8.f3,E8.f6,by rw [<-hv2]; exact E8.f16,by rw [<-hb2]; exact E8.f19⟩
 rw [wVK] at gi E8
 simp only [go_sem,t9,t10,t11,yQK,jHA,hi0,hin,aB,aY,gi,wVK]
 with_reducible refine qQ (k48 F M8 x.op) ?_
 simp only [go_sem]
 refine gJ (fun σ' F' M9=>F=F'/\EvM p m n i rb.2 (vsL p m n i) r3 r6 r16 yA F M M9/\M9 r11=some ⟨x.cs,119,5⟩/\M9 r12=some ⟨ra.1.cs,90,4⟩/\M9 r13=some ⟨rb.1.cs,90,4⟩) ?_ ?_
 ·by_cases h0:1 < bH x.op
  ·rw [if_pos h0] at hrb
   obtain ⟨j,hj⟩:=aG (hpb h0).1
   have hji:j < i:=by have:=hpb h0; omega
   have j0:(0:Int)<=j:=by omega
   have jn:(j:Int) < n:=by omega
   have b16:=qG (F:=F) E8.f16
   have g1:=yKF (wVW (p:=p) (m:=m) (n:=n) hji)
   have g2:=ints_at (wVX (p:=p) (m:=m) (n:=n) (β:=0) hji)
   have g3:=ints_set (bsL p m n i 0) i (lJ p m j).2 (by rw [qQE (by omega)]; exact hi1)
   rw [wVZ hi1] at g3
   have g4:i * 1+1<=((bsL p m n i 0).map oZ).length:=by rw [bJ,qQE (by omega)]; omega
   have E9:=(E8.loc (x:=⟨(lJ p m j).1.cs,90,4⟩) n13 yQZ d3d d6d dXD jHY).setB N (lJ p m j).2
   have vKZ:¬r13=yA:=fun h=>jHY h.symm
   have f198:=E8.f19
   rw [wVK] at yQK
   have dXA:∀y,(M8.upd r13 y) yA=some ⟨(bsL p m n i 0).map oZ,3,n * 1⟩:=fun y=>by rw [Hp.qK jHY]; exact f198
   simp only [setH,go_sem,t8,t9,t10,t11,t13,h0,jHA,hj,j0,jn,hi0,hin,aB,aY,b16,yQK,g1.1,g1.2,g2,g3,g4,g13,jHH,jHY,dXA]
   rw [hj] at hrb
   rw [<-hrb] at E9 ⊢
   exact At.mk ⟨rfl,E9,by rw [Hp.qK (fun h=>gQX h.symm),Hp.qK jHH]; exact g11,by rw [Hp.qK (fun h=>jHV h.symm),Hp.qK jHD]; exact g12,by rw [Hp.qK vKZ]; exact Hp.qV _ _ _⟩
  ·rw [if_neg h0] at hrb
   simp only [go_sem,h0]
   rw [hrb]
   exact At.mk ⟨rfl,E8,g11,g12,g13⟩
 rintro σ3 F' M9 hst ⟨hG,E9,dXB,dXC,dXE⟩
 subst hG
 have u1:=hst 1 rfl
 have u3:=hst 3 rfl
 have u8:=hst 8 rfl
 have u9:=hst 9 rfl
 have u10:=hst 10 rfl
 have u11:=hst 11 rfl
 have u12:=hst 12 rfl
 have u13:=hst 13 rfl
 simp only [go_sem,t1,t3,t8,t9,t10,t11,t12,t13] at u1 u3 u8 u9 u10 u11 u12 u13
 clear hst E8 g11 g12 g13 jHA yQK gi
 have gQZ:=qG (F:=F) dXB
 have gQK:=qG (F:=F) dXC
 have gQJ:=qG (F:=F) dXE
 have dXF:=qG (F:=F) E9.f3
 have jHB:=qG (F:=F) E9.f19
 have gi:=ints_at (jHK (p:=p) (m:=m) (n:=n) (i:=i) (β:=rb.2) hi1)
 by_cases jWJ:rb.2=0
 rotate_left
 ·have hev2:lJ p m i=(z0,rb.2):=by
   rw [hev]
   unfold exV
   have h0:1 < bH x.op:=Decidable.byContradiction fun h=>by rw [if_neg h] at hrb; rw [hrb] at jWJ; exact jWJ rfl
   rw [if_neg (fun h=>h.2 wVK),if_pos ⟨h0,jWJ⟩]
  simp only [go_sem,u9,u10,jHB,hi0,hin,aB,aY,gi,jWJ,ei]
  have hb2:bsL p m n i rb.2=bsL p m n (i+1) 0:=by rw [<-qKJ hi1,hev2]
  have hv2:vsL p m n i=vsL p m n (i+1):=yQX hi1 (by rw [hev2])
  refine ⟨hi1,rfl,(by simp only [go_sem, *] <;> rfl),0,fun _=>rfl,?_⟩
  exact ⟨E9.kp,E9.old,E9.f3,E9.f6,by rw [<-hv2]; exact E9.f16,by rw [<-hb2]; exact E9.f19⟩
 have hev2:lJ p m i=iJ p m x ra.1 rb.1:=by
  rw [hev]
  unfold exV
  rw [if_neg (fun h=>h.2 wVK),if_neg (fun h=>h.2 jWJ)]
 have kd:=dXZ F M9 p a c m i x ra.1 rb.1 hp (h.keep E9.kp E9.old) (fun y hy=>dF.keep (hr y hy) E9.kp E9.old) E9.old hc hfm hx (by omega) (fun h0=>by
  rw [if_pos h0] at hra
  obtain ⟨j,hj⟩:=aG (hpa h0).1
  have hji:j < i:=by have:=hpa h0; omega
  have:=wL hc hfm p.exprs.length j (by omega) (by omega)
  rw [<-hj,<-hra] at this
  rcases this with ⟨_,hg⟩ | ⟨hn,_⟩
  ·exact hg
  ·omega) (fun h0=>by
  rw [if_pos h0] at hrb
  obtain ⟨j,hj⟩:=aG (hpb h0).1
  have hji:j < i:=by have:=hpb h0; omega
  have:=wL hc hfm p.exprs.length j (by omega) (by omega)
  rw [<-hj,<-hrb] at this
  rcases this with ⟨_,hg⟩ | ⟨hn,_⟩
  ·exact hg
  ·omega)
 rw [<-hev2] at kd
 rw [jWJ] at gi E9 jHB
 simp only [go_sem,u1,u3,u8,u9,u10,u11,u12,u13,jHB,gQZ,gQK,gQJ,dXF,hi0,hin,aB,aY,gi]
 with_reducible refine qQ kd ?_
 have w1:=iC (sz:=4) (f:=Sc.cs) (fun _=>rfl) (lJ p m i).1 (vsL p m n i) i (by rw [wGF (by omega)]; exact hi1)
 rw [yQW hi1] at w1
 have w2:i * 4+4<=((vsL p m n i).flatMap Sc.cs).length:=by rw [yG (sz:=4) (f:=Sc.cs) (fun _=>rfl),wGF (by omega)]; omega
 have w3:=ints_set (bsL p m n i 0) i (lJ p m i).2 (by rw [qQE (by omega)]; exact hi1)
 rw [wVZ hi1,qKJ hi1] at w3
 have w4:i * 1+1<=((bsL p m n i 0).map oZ).length:=by rw [bJ,qQE (by omega)]; omega
 have f169:=E9.f16
 have f199:=E9.f19
 have dZQ:∀y,(M9.upd r16 y) yA=some ⟨(bsL p m n i 0).map oZ,3,n * 1⟩:=fun y=>by rw [Hp.qK N.d96]; exact f199
 have E10:=(E9.dXG (ws:=vsL p m n (i+1)) N).setB N (lJ p m i).2
 rw [qKJ hi1] at E10
 simp only [setH,go_sem,u10,hi0,hin,aB,aY,w1,w2,w3,w4,f169,dZQ,ei]
 exact ⟨hi1,rfl,(by simp only [go_sem, *] <;> rfl),0,fun _=>rfl,⟨E10.kp,E10.old,E10.f3,E10.f6,E10.f16,Hp.qV _ _ _⟩⟩
end Go.Proofs.Tryz.K
namespace Go.Ax
open Go
def Bl.no (x:Bl):Bl:=⟨x.st,none,0,x.l⟩
def kD (m:List Bl):List Bl:=m.map Bl.no
structure Qs where
 m:List Bl
 next:List Int
 inp:Int
 p:Int
 w:Int
def dM.q (s:dM):Qs:=⟨kD s.blocks,s.next,s.inp,s.p,s.w⟩
def wVJ (st:List Sm)(i:Int):Sm:=(st[i.toNat]?).getD ⟨0,0,0,0,0,none,0,[],none,0,[]⟩
def rF (l:List Int)(k:Int):Int:=if l=[] then 0 else (l[(k.tmod l.length).toNat]?).getD 0
def setB (m:List Bl)(b:Int)(st:Int)(l:List By):List Bl:=m.set b.toNat ⟨st,none,0,l⟩
def wWQ (p:Pg)(m:List Bl)(to:Sc)(k:Int)(v:Sc):List Bl:=
 setB m to.b (jD m to.b).st (splice (jD m to.b).l to.o.toNat (iK p.big (yJ p.ptr k).toNat v))
def qQW (p:Pg)(q:Qs)(m:List Bl)(to:Sc)(k:Int)(v:Sc)(rd:Int):Qs × Int:=
 if pV m (yJ p.ptr k) to=0 then (⟨wWQ p m to k v,q.next,q.inp+rd,q.p,q.w⟩,0) else (q,pV m (yJ p.ptr k) to)
def comes (p:Pg)(ns:List Int)(n:Int):Bool:=decide (ns=[]) || decide (rF ns (n - p.vars.length - 1) % 2=1)
def mV (p:Pg)(ns:List Int)(m:List Bl)(n:Int):List Bl:=
 if comes p ns n=true then setB m n 1 (List.replicate (nP (yK p) n).toNat ⟨0,0,0,0,0⟩) else setB m n 3 []
def opQ (p:Pg)(rs ns:List Int)(at_:Int)(x:Sm)(a:Sc)(q:Qs):Qs × Int:=
 if x.op=1 then (if (lJ p q.m x.e).2=0 then qQW p q q.m a x.kind (lJ p q.m x.e).1 0 else (q,(lJ p q.m x.e).2))
 else if x.op=2 then qQW p q q.m a x.kind ⟨false,rF rs q.inp % 2 ^ (iF x.kind).toNat,0,0⟩ 1
 else if x.op=3 then
  (if (jD q.m x.n).st=0 then qQW p q (mV p ns q.m x.n) a 7 ⟨true,0,if comes p ns x.n=true then x.n else 0,0⟩ 0 else (q,10))
 else if x.op=4 then
  (if a.b=0 then (q,0) else if a.b<=p.vars.length\/¬(jD q.m a.b).st=1\/¬a.o=0 then (q,10) else (⟨setB q.m a.b 2 [],q.next,q.inp,q.p,q.w⟩,0))
 else (⟨q.m,(if a.n=0 then x.els else x.body++if x.op=6 then [at_] else [])++q.next,q.inp,q.p,q.w⟩,0)
def zA (x:Sm):Int:=if x.op<=3 then x.to else x.e
def doQ (p:Pg)(rs ns:List Int)(at_:Int)(x:Sm)(q:Qs):Qs × Int:=
 if x.op=7 then (⟨q.m,[],q.inp,q.p,q.w⟩,0)
 else if (lJ p q.m (zA x)).2=0 then opQ p rs ns at_ x (lJ p q.m (zA x)).1 q else (q,(lJ p q.m (zA x)).2)
def wB (q:Qs):Bool:=decide (q.next.length=0) || !decide (q.p=0/\q.w=0)
def rV (p:Pg)(rs ns:List Int)(q:Qs):Qs:=
 if wB q=true then q else
 match q.next with
 | []=>q
 | at_ :: rest=>
  let r:=doQ p rs ns at_ (wVJ p.stmts at_) ⟨q.m,rest,q.inp,q.p,q.w⟩
  if r.2=0 then r.1 else ⟨r.1.m,r.1.next,r.1.inp,at_,r.2⟩
def fZ (p:Pg):Qs:=⟨⟨0,none,0,[]⟩ :: p.vars.map (fun n=>⟨1,none,0,List.replicate n.toNat ⟨0,0,0,0,0⟩⟩)++p.news.map (fun _=>⟨0,none,0,[]⟩),p.main,0,0,0⟩
def sK (p:Pg)(rs ns:List Int):Nat->Qs->List Qs
 | 0,q=>[q]
 | n+1,q=>if wB q=true then [q] else q :: sK p rs ns n (rV p rs ns q)
theorem uT (m:List Bl)(b:Int):(jD (kD m) b).st=(jD m b).st/\(jD (kD m) b).l=(jD m b).l:=by
 unfold kD jD;rw [List.getElem?_map];cases m[b.toNat]? <;> exact ⟨rfl,rfl⟩
theorem rG (m:List Bl):(kD m).length=m.length:=bJ _
theorem qQX {m:List Bl}{i:Nat}(hi:i < (kD m).length):(kD m)[i]=(m[i]'(by rw [rG] at hi; exact hi)).no:=List.getElem_map Bl.no
theorem wWW (m:List Bl)(n:Int)(s:Sc):pV (kD m) n s=pV m n s:=by
 unfold pV; rw [(uT m s.b).1,(uT m s.b).2]
theorem xKB (big:Bool)(ptr k:Int)(m:List Bl)(s:Sc):rE big ptr k (kD m) s=rE big ptr k m s:=by
 unfold rE; rw [wWW,(uT m s.b).2]
theorem xKC (m:List Bl)(a:Sc)(n:Int):rU (kD m) a n=rU m a n:=by
 unfold rU; rw [(uT m a.b).1,(uT m a.b).2]
theorem gQG (p:Pg)(m:List Bl)(x:Xp)(ra rb:Sc × Int):exV p (kD m) x ra rb=exV p m x ra rb:=by
 unfold exV iJ;simp only [xKB,xKC]
theorem jHC (p:Pg)(m:List Bl):∀n,evL p (kD m) n=evL p m n
 | 0=>rfl
 | n+1=>by
  unfold evL;rw [jHC p m n]
  congr 2
  split
  ·exact gQG _ _ _ _ _
  ·rfl
theorem yHZ (p:Pg)(m:List Bl)(e:Int):lJ p (kD m) e=lJ p m e:=by
 unfold lJ; rw [jHC]
theorem wVG {p:Pg}{m:List Bl}(h:iP p m):iP p (kD m):=by
 have key:∀i (hi:i < (kD m).length),∃hi':i < m.length,((kD m)[i]).st=(m[i]).st/\((kD m)[i]).l=(m[i]).l:=fun i hi=>by
  have hi':i < m.length:=by rw [rG] at hi; exact hi
  rw [qQX hi];exact ⟨hi',rfl,rfl⟩
 refine ⟨by rw [rG]; exact h.len,fun i hi=>?_,fun i hi=>?_,fun i hi=>?_,fun hi=>?_,fun i hi=>?_,fun i hi=>?_⟩
 all_goals obtain ⟨hi',e1,e2⟩:=key _ hi
 ·rw [e1,e2]; exact h.bytes i hi'
 ·rw [e1,e2]; exact h.size i hi'
 ·rw [e1,e2]; exact h.dead i hi'
 ·rw [e1]; exact h.zero hi'
 ·rw [e2]; exact h.ptrs i hi'
 ·rw [e1]; exact h.live i hi'
theorem vKK {m m':List Bl}(hl:m'.length=m.length)(h:∀i:Nat,i < m.length->(jD m' (i:Int)).st=(jD m (i:Int)).st/\(jD m' (i:Int)).l=(jD m (i:Int)).l):kD m'=kD m:=by
 apply List.ext_getElem
 ·rw [rG,rG,hl]
 ·intro i h1 h2;rw [rG] at h1 h2;have:=h i h2;rw [yY h1,yY h2] at this;rw [qQX,qQX];unfold Bl.no;rw [this.1,this.2]
theorem at_set {m:List Bl}{b:Nat}{x:Bl}(hb:b < m.length)(i:Nat):jD (m.set b x) (i:Int)=if i=b then x else jD m (i:Int):=by
 unfold jD;rw [aB,List.getElem?_set];by_cases e:i=b
 ·rw [if_pos e.symm,if_pos e];simp [hb]
 ·rw [if_neg (Ne.symm e),if_neg e]
theorem qXE {m:List Bl}{b:Nat}{x:Bl}:kD (m.set b x)=(kD m).set b x.no:=by
 unfold kD; rw [List.map_set]
theorem xKE (m:List Bl)(b st:Int)(l:List By):kD (setB m b st l)=setB (kD m) b st l:=by
 unfold setB; rw [qXE]; rfl
theorem vKJ {p:Pg}{m m':List Bl}{b on:Nat}{n:Nat}{k:Int}{v:Sc}(hb:b < m.length)(hk:(yJ p.ptr k).toNat=n)(h:qJD m b on (iK p.big n v) m'):kD m'=wWQ p (kD m) ⟨true,0,b,on⟩ k v:=by
 unfold wWQ;rw [(uT m _).1,(uT m _).2,<-xKE];refine vKK ?_ fun i hi=>?_
 ·unfold setB; rw [aZ]; exact h.len
 ·unfold setB;rw [show ((⟨true,0,(b:Int),(on:Int)⟩:Sc).b).toNat=b from aB b,at_set hb,h.st,h.l];split
  ·rename_i e; subst e;simp only [hk,aB];exact ⟨trivial,trivial⟩
  ·exact ⟨rfl,rfl⟩
theorem wWX (st:List Sm):∀(k:Nat) (l:List Int) (a b:Nat),eY st k l a=some b->a+l.length<=b
 | 0,l,a,b,h=>by
  simp only [eY] at h;split at h
  ·rename_i hl; cases h; subst hl; simp
  ·cases h
 | k+1,l,a,b,h=>by
  simp only [eY] at h
  induction l generalizing a with
  | nil=>simp at h; subst h; simp
  | cons s l ih=>
   rw [List.foldlM_cons] at h;by_cases hs:s=(a:Int)/\a < st.length
   ·rw [if_pos hs] at h;cases h1:eY st k (kL st a) (a+1) with
    | none=>rw [h1] at h; simp at h
    | some m1=>
     cases h2:eY st k (lN st a) m1 with
     | none=>rw [h1] at h; simp [h2] at h
     | some m2=>
      rw [h1] at h;simp only [bY,h2,Option.bind_eq_bind] at h;have a1:=(kX st k _ _ _ h1).1;have b1:=(kX st k _ _ _ h2).1;have:=ih m2 h;rw [fF]; omega
   ·rw [if_neg hs] at h; simp at h
theorem qJE (st:List Sm):∀(k:Nat) (l:List Int) (a b:Nat),eY st k l a=some b->∀m:Nat,a<=m->m < b->(kL st m).length<=b/\(lN st m).length<=b
 | 0,l,a,b,h,m,hm,hb=>by
  simp only [eY] at h;split at h
  ·cases h; omega
  ·cases h
 | k+1,l,a,b,h,m,hm,hb=>by
  simp only [eY] at h
  induction l generalizing a with
  | nil=>simp at h; omega
  | cons s l ih=>
   rw [List.foldlM_cons] at h;by_cases hs:s=(a:Int)/\a < st.length
   ·rw [if_pos hs] at h;cases h1:eY st k (kL st a) (a+1) with
    | none=>rw [h1] at h; simp at h
    | some m1=>
     cases h2:eY st k (lN st a) m1 with
     | none=>rw [h1] at h; simp [h2] at h
     | some m2=>
      rw [h1] at h;simp only [bY,h2,Option.bind_eq_bind] at h;have a1:=(kX st k _ _ _ h1).1;have b1:=(kX st k _ _ _ h2).1;have l1:=wWX st k _ _ _ h1;have l2:=wWX st k _ _ _ h2;have hc:=(kX st (k+1) l m2 b (by simpa only [eY] using h)).1;by_cases e:m=a
      ·subst e; omega
      by_cases e1:m < m1
      ·have:=qJE st k _ _ _ h1 m (by omega) e1; omega
      by_cases e2:m < m2
      ·have:=qJE st k _ _ _ h2 m (by omega) e2; omega
      ·exact ih m2 h (by omega)
   ·rw [if_neg hs] at h; simp at h
theorem wKV {p:Pg}(hc:wY p=true):eY p.stmts 6 p.main 0=some p.stmts.length:=by
 unfold wY qXJ at hc;simp only [aC,decide_eq_true_eq] at hc;exact hc.2.1
theorem xY {p:Pg}(hc:wY p=true){i:Nat}(hi:i < p.stmts.length):tY p.vars.length p.news.length p.exprs p.stmts[i]=true:=by
 unfold wY at hc;simp only [aC] at hc;exact bW.1 hc.1.2 _ (aH hi)
theorem qKH {p:Pg}(hc:wY p=true):p.stmts.length<=40:=by
 unfold wY at hc;simp only [aC,decide_eq_true_eq] at hc;exact hc.1.1.1.2
theorem yQJ {p:Pg}(hc:wY p=true):p.exprs.length<=120:=by
 unfold wY at hc;simp only [aC,decide_eq_true_eq] at hc;exact hc.1.1.1.1.2
theorem jWV {p:Pg}(hc:wY p=true):p.main.length<=40/\∀k∈p.main,0<=k/\k < p.stmts.length:=by
 have h:=wKV hc;have h1:=wWX _ _ _ _ _ h;have h2:=qKH hc;have h3:=(kX _ _ _ _ _ h).2.1;exact ⟨by omega,fun k hk=>by have:=h3 k hk; omega⟩
theorem qVB {p:Pg}(hc:wY p=true){i:Nat}(hi:i < p.stmts.length):(p.stmts[i]).body.length<=40/\(p.stmts[i]).els.length<=40/\∀k∈(p.stmts[i]).body++(p.stmts[i]).els,0<=k/\k < p.stmts.length:=by
 have h:=wKV hc;have h1:=qJE _ _ _ _ _ h i (Nat.zero_le _) hi;have h2:=qKH hc;have e1:kL p.stmts i=p.stmts[i].body:=by unfold kL; rw [List.getElem?_eq_getElem hi]; rfl
 have e2:lN p.stmts i=p.stmts[i].els:=by unfold lN; rw [List.getElem?_eq_getElem hi]; rfl
 rw [e1,e2] at h1;exact ⟨by omega,by omega,wYX h _ (aH hi)⟩
theorem wWZ {st:List Sm}{i:Nat}(hi:i < st.length):wVJ st (i:Int)=st[i]:=by
 unfold wVJ; rw [aB,List.getElem?_eq_getElem hi]; rfl
theorem yJQ {p:Pg}(hc:wY p=true){k:Int}{v:Sc}(h:GoodS p k v){big:Bool}{n:Nat}(hn:n<=4):∀x∈iK big n v,lQ x=true/\zL (yK p) x=true:=by
 intro x hx;simp only [iK,List.mem_map,List.mem_range] at hx;obtain ⟨i,hi,rfl⟩:=hx;obtain ⟨sp,sn,sb,so⟩:=v;rcases h with ⟨rfl,h1,h2,⟨b0,b1⟩,o0,o1⟩ | ⟨hk,h1,h2,h3,h4⟩
 ·simp only at h1 h2 b0 b1 o0 o1;subst h1 h2;have hl:=jI p;have hs:=jE hc sb;obtain ⟨_,hv,hw,_⟩:=yH hc;have e:pK big n ⟨true,0,sb,so⟩ i=nS sb so i:=by unfold pK; rw [if_pos rfl]
  rw [e];unfold nS;split
  ·constructor
   ·simp [lQ]; omega
   ·simp [zL]; omega
  ·exact ⟨by decide,by simp [zL]⟩
 ·simp only at h1 h2 h3 h4;subst h1 h2 h3;obtain ⟨h0,_⟩:=jO h4;obtain ⟨y,rfl⟩:=aG h0;have e:∃j:Nat,j<=4/\pK big n ⟨false,(y:Int),0,0⟩ i=⟨1,yVC y j,0,0,0⟩:=by
   refine ⟨if big=true then n - 1 - i else i,?_,?_⟩
   ·split <;> omega
   ·unfold pK yVC;rw [if_neg bK]
  obtain ⟨j,hj,e⟩:=e;rw [e,jQB y j hj];constructor
  ·have:=Nat.mod_lt (y / 256 ^ j) (show 0 < 256 by decide);generalize y / 256 ^ j % 256=z at *;simp [lQ]; omega
  ·simp [zL]
theorem xZ {p:Pg}{m:List Bl}(hm:iP p m){b:Nat}(h1:p.vars.length < b)(hb:b < m.length){st:Int}{l:List By}
  (h:(st=1/\l=List.replicate (nP (yK p) b).toNat ⟨0,0,0,0,0⟩)\/((st=2\/st=3)/\l=[]))(hs:0<=nP (yK p) b/\nP (yK p) b<=32):iP p (setB m b st l):=by
 have key:∀i (hi:i < (setB m b st l).length),∃hi':i < m.length,((setB m b st l)[i])=if i=b then ⟨st,none,0,l⟩ else m[i]:=fun i hi=>by
  have hi':i < m.length:=by unfold setB at hi; rw [aZ] at hi; exact hi
  refine ⟨hi',?_⟩;have e1:=yY hi;have e2:jD (setB m b st l) (i:Int)=_:=at_set (x:=⟨st,none,0,l⟩) hb i;rw [e1] at e2;rw [e2,yY hi']
 have hl:(setB m b st l).length=m.length:=by unfold setB; rw [aZ]
 refine ⟨by rw [hl]; exact hm.len,fun i hi=>?_,fun i hi hst=>?_,fun i hi hst=>?_,fun h0=>?_,fun i hi=>?_,fun i hi i1 i2=>?_⟩
 all_goals obtain ⟨hi',e⟩:=key _ (by assumption)
 all_goals try rw [e] at hst
 all_goals rw [e]
 ·split
  ·rcases h with ⟨rfl,rfl⟩ | ⟨h2,rfl⟩
   ·refine ⟨fun x hx=>?_,by show (0:Int)<=1; decide,by show (1:Int)<=3; decide,?_⟩
    ·have:=dK hx; subst this; decide
    ·simp; omega
   ·refine ⟨(fun x hx=>by cases hx),?_,?_,by simp⟩
    ·show 0<=st; omega
    ·show st<=3; omega
  ·exact hm.bytes i hi'
 ·split at hst
  ·rename_i e1; subst e1;rcases h with ⟨rfl,rfl⟩ | ⟨h2,rfl⟩
   ·rw [if_pos rfl];simp only [bD]; omega
   ·simp only at hst; omega
  ·rename_i e1;rw [if_neg e1]; exact hm.size i hi' hst
 ·split at hst
  ·rename_i e1; subst e1;rcases h with ⟨rfl,rfl⟩ | ⟨h2,rfl⟩
   ·exact absurd rfl hst
   ·rw [if_pos rfl]
  ·rename_i e1;rw [if_neg e1]; exact hm.dead i hi' hst
 ·rw [if_neg (by omega)]; exact hm.zero hi'
 ·split
  ·rcases h with ⟨rfl,rfl⟩ | ⟨h2,rfl⟩
   ·rw [bW]; intro x hx; have:=dK hx; subst this; simp [zL]
   ·rfl
  ·exact hm.ptrs i hi'
 ·rw [if_neg (by omega)]; exact hm.live i hi' i1 i2
theorem xKF {p:Pg}{m:List Bl}{to:Sc}{b:Nat}(hb:b < m.length)(eb:to.b=b){k:Int}{v:Sc}:qJD m b to.o.toNat (iK p.big (yJ p.ptr k).toNat v) (wWQ p m to k v):=by
 unfold wWQ setB;rw [eb,aB];refine ⟨aZ,fun i=>?_,fun i=>?_⟩
 ·rw [at_set hb]; split
  ·rename_i e; subst e; rfl
  ·rfl
 ·rw [at_set hb]; split <;> rfl
theorem yHK {p:Pg}(hc:wY p=true){m:List Bl}(hm:iP p m){to v:Sc}{k:Int}(hk:isS k=true)(hs:GoodS p 7 to)(hw:pV m (yJ p.ptr k) to=0)(hv:GoodS p k v):iP p (wWQ p m to k v):=by
 have yKA:=gV (yH hc).1 (.inr (.inr hk));obtain ⟨b,hb,eb,b1,hst,ebl,hsz,hfit,_⟩:=xHG hm hs hw;obtain ⟨_,_,_,o0,_⟩:=nI hs;have h:=xKF (p:=p) hb eb (k:=k) (v:=v);refine h.fit hm ?_ (by rw [jV]; omega) (yJQ hc hv (by omega));rw [jV,yY hb];omega
structure OkQ (p:Pg)(q:Qs)(n:Nat):Prop where
 fit:iP p q.m
 next:∀k∈q.next,0<=k/\k < p.stmts.length
 len:q.next.length<=41 * (n+1)
 inp:0<=q.inp/\q.inp<=n
theorem OkQ.up {p:Pg}{q:Qs}{n:Nat}(h:OkQ p q n):OkQ p q (n+1):=⟨h.fit,h.next,by have:=h.len; omega,by have:=h.inp; omega⟩
theorem qJF {es:List Xp}{e k:Int}(h:xP es e k=true):∃i:Nat,e=i/\i < es.length/\bF es (i:Int)=k:=by
 simp only [xP,aC,decide_eq_true_eq] at h;obtain ⟨⟨h0,h1⟩,h2⟩:=h;obtain ⟨i,rfl⟩:=aG h0;exact ⟨i,rfl,by omega,h2⟩
theorem yJW {p:Pg}(hc:wY p=true){m:List Bl}(hm:iP p m){e k:Int}(h:xP p.exprs e k=true):vS p k (lJ p m e):=by
 obtain ⟨i,rfl,h1,h2⟩:=qJF h;rw [<-h2];exact wL hc hm (i+1) i (by omega) h1
theorem yQG {p:Pg}(hc:wY p=true){m:List Bl}(hm:iP p m){e k:Int}(h:xP p.exprs e k=true)(h0:(lJ p m e).2=0):GoodS p k (lJ p m e).1:=by
 rcases yJW hc hm h with ⟨_,h⟩ | ⟨h,_⟩
 ·exact h
 ·omega
theorem qKD {nv nn:Nat}{es:List Xp}{x:Sm}(h:tY nv nn es x=true):1<=x.op/\x.op<=7/\(¬x.op=7->xP es (zA x) (if x.op<=4 then 7 else 6)=true)/\(x.op=1->isS x.kind=true/\xP es x.e x.kind=true)/\(x.op=2->isK x.kind=true)/\(x.op=3->(nv:Int) < x.n/\x.n<=nv+nn):=by
 unfold tY at h;rw [aC] at h;have h:=h.2;unfold zA;by_cases e1:x.op=1
 ·rw [if_pos e1] at h;simp only [aC] at h;rw [if_pos (by omega),if_pos (by omega)];exact ⟨by omega,by omega,fun _=>h.1.1,fun _=>⟨h.1.2,h.2⟩,by omega,by omega⟩
 rw [if_neg e1] at h;by_cases e2:x.op=2
 ·rw [if_pos e2] at h;simp only [aC] at h;rw [if_pos (by omega),if_pos (by omega)];exact ⟨by omega,by omega,fun _=>h.1,by omega,fun _=>h.2,by omega⟩
 rw [if_neg e2] at h;by_cases e3:x.op=3
 ·rw [if_pos e3] at h;simp only [aC,decide_eq_true_eq] at h;rw [if_pos (by omega),if_pos (by omega)];exact ⟨by omega,by omega,fun _=>h.1.1,by omega,by omega,fun _=>⟨h.1.2,h.2⟩⟩
 rw [if_neg e3] at h;by_cases e4:x.op=4
 ·rw [if_pos e4] at h;rw [if_neg (by omega),if_pos (by omega)];exact ⟨by omega,by omega,fun _=>h,by omega,by omega,by omega⟩
 rw [if_neg e4] at h;by_cases e5:x.op=5\/x.op=6
 ·rw [if_pos e5] at h;rw [if_neg (by omega),if_neg (by omega)];exact ⟨by omega,by omega,fun _=>h,by omega,by omega,by omega⟩
 rw [if_neg e5,decide_eq_true_eq] at h;exact ⟨by omega,by omega,fun h7=>absurd h h7,by omega,by omega,by omega⟩
theorem wVV {p:Pg}(hc:wY p=true){q:Qs}{n:Nat}{m:List Bl}{to v:Sc}{k rd:Int}(hq:OkQ p q n)(hm:iP p m)(hk:isS k=true)(hs:GoodS p 7 to)(hv:GoodS p k v)(hr:0<=rd/\rd<=1):OkQ p (qQW p q m to k v rd).1 (n+1):=by
 unfold qQW;split
 ·rename_i hw;exact ⟨yHK hc hm hk hs hw hv,hq.next,by have:=hq.len; show q.next.length<=_; omega,by have:=hq.inp; show 0<=q.inp+rd/\q.inp+rd<=_; omega⟩
 ·exact hq.up
theorem yQV {p:Pg}(hc:wY p=true){m:List Bl}(hm:iP p m){ns:List Int}{b:Int}(h:(p.vars.length:Int) < b/\b<=p.vars.length+p.news.length):iP p (mV p ns m b):=by
 obtain ⟨bn,rfl⟩:=aG (show 0<=b by omega);have:=hm.len;have hz:=jE hc (bn:Int);unfold mV;split
 ·exact xZ hm (by omega) (by omega) (.inl ⟨rfl,rfl⟩) hz
 ·exact xZ hm (by omega) (by omega) (.inr ⟨.inr rfl,rfl⟩) hz
theorem qQF {p:Pg}{b:Int}(hc:wY p=true)(h:0<=b/\b < (yK p).length):GoodS p 7 ⟨true,0,b,0⟩:=.inl ⟨rfl,rfl,rfl,h,Int.le_refl 0,(jE hc b).1⟩
theorem gQV {p:Pg}(hc:wY p=true){rs ns:List Int}{at_:Int}(ha:0<=at_/\at_ < p.stmts.length){i:Nat}(hi:i < p.stmts.length){a:Sc}{q:Qs}{n:Nat}(hq:OkQ p q n)
  (h7:¬(p.stmts[i]).op=7)(hg:GoodS p (if (p.stmts[i]).op<=4 then 7 else 6) a):OkQ p (opQ p rs ns at_ p.stmts[i] a q).1 (n+1):=by
 have hst:=qKD (xY hc hi);have hbo:=qVB hc hi;generalize p.stmts[i]=x at *;obtain ⟨o1,o7,_,s1,s2,s3⟩:=hst;have hl:=jI p;unfold opQ;by_cases e1:x.op=1
 ·rw [if_pos e1];rw [if_pos (by omega)] at hg;obtain ⟨k1,k2⟩:=s1 e1;split
  ·rename_i h0;exact wVV hc hq hq.fit k1 hg (yQG hc hq.fit k2 h0) (by omega)
  ·exact hq.up
 rw [if_neg e1];by_cases e2:x.op=2
 ·rw [if_pos e2];rw [if_pos (by omega)] at hg;have hk:=s2 e2;exact wVV hc hq hq.fit (yO hk) hg (.inr ⟨hk,rfl,rfl,rfl,wI (jQ _)⟩) (by omega)
 rw [if_neg e2];by_cases e3:x.op=3
 ·rw [if_pos e3];rw [if_pos (by omega)] at hg;have hn:=s3 e3;split
  ·refine wVV hc hq (yQV hc hq.fit hn) (by decide) hg (qQF hc ?_) (by omega);split <;> omega
  ·exact hq.up
 rw [if_neg e3];by_cases e4:x.op=4
 ·rw [if_pos e4];rw [if_pos (by omega)] at hg;obtain ⟨_,_,⟨b0,b1⟩,_⟩:=nI hg;have hlm:=hq.fit.len;split
  ·exact hq.up
  split
  ·exact hq.up
  ·rename_i h1 h2;obtain ⟨b,hb⟩:=aG b0;rw [hb] at h2 b1 ⊢;exact ⟨xZ hq.fit (by omega) (by omega) (.inr ⟨.inl rfl,rfl⟩) (jE hc _),hq.next,by have:=hq.len; show q.next.length<=_; omega,by have:=hq.inp; show 0<=q.inp/\q.inp<=_; omega⟩
 rw [if_neg e4];refine ⟨hq.fit,fun k hk=>?_,?_,by have:=hq.inp; show 0<=q.inp/\q.inp<=_; omega⟩
 ·rcases aW.1 hk with hk | hk
  ·split at hk
   ·exact hbo.2.2 k (List.mem_append_right _ hk)
   ·rcases aW.1 hk with hk | hk
    ·exact hbo.2.2 k (List.mem_append_left _ hk)
    ·split at hk
     ·rw [aX.1 hk]; exact ha
     ·cases hk
  ·exact hq.next k hk
 ·have:=hq.len;show (_++q.next).length<=_;rw [aO];split
  ·omega
  ·rw [aO];split
   ·rw [bM]; omega
   ·simp; omega
theorem xHC {p:Pg}(hc:wY p=true){rs ns:List Int}{i:Nat}(hi:i < p.stmts.length){q:Qs}{n:Nat}(hq:OkQ p q n):OkQ p (doQ p rs ns i p.stmts[i] q).1 (n+1):=by
 have hst:=qKD (xY hc hi);unfold doQ;split
 ·exact ⟨hq.fit,(fun k hk=>by cases hk),by show 0<=_; omega,by have:=hq.inp; show 0<=q.inp/\q.inp<=_; omega⟩
 rename_i h7;split
 ·rename_i h0;exact gQV hc ⟨by omega,by omega⟩ hi hq h7 (yQG hc hq.fit (hst.2.2.1 h7) h0)
 ·exact hq.up
theorem wWK {q:Qs}(h:wB q=false):∃i rest,q.next=i :: rest/\q.p=0/\q.w=0:=by
 unfold wB at h;simp only [dU,decide_eq_false_iff_not,Bool.not_eq_false',decide_eq_true_eq] at h;cases hn:q.next with
 | nil=>rw [hn] at h; exact absurd rfl h.1
 | cons i rest=>exact ⟨i,rest,rfl,h.2⟩
theorem step_eq {p:Pg}{rs ns:List Int}{q:Qs}{i:Int}{rest:List Int}(h:wB q=false)(hn:q.next=i :: rest):rV p rs ns q =
  if (doQ p rs ns i (wVJ p.stmts i) ⟨q.m,rest,q.inp,q.p,q.w⟩).2=0 then (doQ p rs ns i (wVJ p.stmts i) ⟨q.m,rest,q.inp,q.p,q.w⟩).1
  else ⟨(doQ p rs ns i (wVJ p.stmts i) ⟨q.m,rest,q.inp,q.p,q.w⟩).1.m,(doQ p rs ns i (wVJ p.stmts i) ⟨q.m,rest,q.inp,q.p,q.w⟩).1.next,(doQ p rs ns i (wVJ p.stmts i) ⟨q.m,rest,q.inp,q.p,q.w⟩).1.inp,i,(doQ p rs ns i (wVJ p.stmts i) ⟨q.m,rest,q.inp,q.p,q.w⟩).2⟩:=by
 unfold rV;rw [if_neg (by rw [h]; exact bK),hn]
theorem OkQ.tail {p:Pg}{q:Qs}{n:Nat}(h:OkQ p q n){i:Int}{rest:List Int}(e:q.next=i :: rest):OkQ p ⟨q.m,rest,q.inp,q.p,q.w⟩ n:=⟨h.fit,fun k hk=>h.next k (by rw [e]; exact List.mem_cons_of_mem _ hk),by have:=h.len; rw [e,fF] at this; show rest.length<=_; omega,h.inp⟩
theorem wWJ {p:Pg}(hc:wY p=true){rs ns:List Int}{q:Qs}{n:Nat}(hq:OkQ p q n):OkQ p (rV p rs ns q) (n+1):=by
 cases h:wB q
 ·obtain ⟨i,rest,e,_⟩:=wWK h;rw [step_eq h e];have hin:=hq.next i (by rw [e]; exact List.mem_cons_self);obtain ⟨k,rfl⟩:=aG hin.1;rw [wWZ (by omega)];have:=xHC (rs:=rs) (ns:=ns) hc (by omega:k < p.stmts.length) (hq.tail e);split
  ·exact this
  ·exact ⟨this.fit,this.next,this.len,this.inp⟩
 ·unfold rV; rw [if_pos h]; exact hq.up
theorem wWG (p:Pg)(rs ns:List Int)(n:Nat)(q:Qs):sK p rs ns (n+1) q=if wB q=true then [q] else q :: sK p rs ns n (rV p rs ns q):=rfl
end Go.Ax
namespace Go.Proofs.Tryz.K
open Go Go.Ax Go.Proofs.Tryz.S
variable (F:Fz) (M:Hp)
theorem gQH (a:Option Addr)(c:Nat)(l:List Int)(k:Int)(h:lG F M a c l)(hk:0<=k)(hl:l.length<=4611686018427387904) :
  aI prog 127 [.slice a l.length c,.int .i64 k] F M (Same F M (.int .i64 (rF l k))):=by
 refine qZ hm func127 e127 (aA rfl) ?_;by_cases h0:l=[]
 ·have e:rF l k=0:=by unfold rF; rw [if_pos h0]
  have hl0:(l.length:Int)=0:=by rw [h0]; rfl
  rw [e];simp only [c127,go_sem,hl0];exact qW ⟨rfl,rfl,rfl⟩
 have hpos:0 < l.length:=List.length_pos_iff.2 h0;have hl0:¬(l.length:Int)=0:=by omega
 obtain ⟨kn,rfl⟩:=aG hk;have em:(kn:Int).tmod l.length=((kn % l.length:Nat):Int):=by rw [Int.tmod_eq_emod_of_nonneg (by omega)]; rfl
 have hlt:=Nat.mod_lt kn hpos;have e:rF l kn=l[kn % l.length]:=by
  unfold rF;rw [if_neg h0,em,aB,List.getElem?_eq_getElem hlt]; rfl
 rw [e];obtain ⟨b,o,cs,rfl,hb,d1⟩:=Ax.gW h hlt;have i0:(0:Int)<=((kn % l.length:Nat):Int):=by omega
 have i1:((kn % l.length:Nat):Int) < l.length:=by omega
 simp only [c127,go_sem,hl0,em,i0,i1,aB,hb,d1];exact qW ⟨rfl,rfl,rfl⟩
def vKG (s:dM)(F:Fz)(M:Hp)(u:Value)(F':Fz)(M':Hp):Prop:=
 F'=F/\Keep M M'/\Old F M'/\∃s':dM,u=s'.val/\s'.blocks.map zZ=s.blocks.map zZ/\s'.next=s.next/\s'.inp=s.inp/\s'.p=s.p/\s'.w=s.w/\
  fH 86 88 F M' s'.bG s'.bV s'.blocks/\gQ 1 fV 3 F M' (.slice s'.dV s'.next.length s'.dD) s'.next/\∀g,s'.bG=some ⟨g,0,none⟩->M g=none
theorem zC {F:Fz}{M M':Hp}{a:Option Addr}{c:Nat}{m:List Bl}{e':TypeId}(h:fH 86 88 F M a c m)(fr:∀r x,M r=some x->¬x.elem=e'->M' r=some x)(h1:¬(86:TypeId)=e')(h2:¬(88:TypeId)=e'):fH 86 88 F M' a c m:=
 ⟨h.row.frame fr h1,fun x hx=>(h.rows x hx).frame fr h2,h.dist⟩
theorem k82 (s:dM)(h:s.rd F M)(hold:Old F M)(hl:s.blocks.length<=100000/\s.next.length<=100000)(hp:∀x∈s.blocks,x.l.length<=100000) :
  aI prog 82 [s.val] F M (vKG s F M):=by
 refine qZ hm func82 e82 (aA rfl) ?_
 simp only [c82,go_sem]
 intro r1 hF1 hM1
 generalize eQ:M.upd r1 ⟨s.cs,57,5⟩=M1 at *
 obtain ⟨oV,kY,f1⟩:=nw eQ hold hF1 hM1
 clear eQ
 simp only [go_sem]
 intro r2 hF2 hM2
 have n2:M r2=none:=oV.free hM2
 generalize eQ:M1.upd r2 ⟨[.slice none 0 0,.slice none 0 0,.int .i64 0,.int .i64 0,.int .i64 0],57,5⟩=M2 at *
 obtain ⟨nG,mY,f2⟩:=nw eQ kY hF2 hM2
 clear eQ
 have b1:=qG (F:=F) (nG _ _ f1)
 simp only [go_sem,b1]
 intro r3 hF3 dN
 have n3:M r3=none:=(oV.trans nG).free dN
 have d23:=(qJ dN f2).1
 have d32:¬r3=r2:=fun h=>d23 h.symm
 have d13:=(qJ dN (nG _ _ f1)).1
 simp only [setH,Hp.wZ,go_sem]
 generalize eQ:M2.upd r3 ⟨s.cs,57,5⟩=M3 at *
 obtain ⟨fC,dA,f3⟩:=nw eQ mY hF3 dN
 clear eQ
 have kp:=(oV.trans nG).trans fC
 have g1:=fC _ _ (nG _ _ f1)
 have g2:=fC _ _ f2
 have b13:=qG (F:=F) g1
 have h3:=h.keep kp dA
 clear oV nG fC kY mY f1 f2 b1 hM1 hM2 dN
 try simp only [go_sem,b13]
 have kB:=xKG F M3 s.bG s.bV s.blocks h3.blocks (fun x hx=>h3.bytes x hx) dA hl.1 hp
 with_reducible refine wW kB ?_
 rintro u F' M4 ⟨hG,jA,fP,a,c,m',rfl,hbk,own,hnew,_⟩
 replace hG:=hG.symm
 subst hG
 refine ⟨(fun h=>by cases h),?_⟩
 have g14:=jA _ _ g1
 have g24:=jA _ _ g2
 have g34:=jA _ _ f3
 have b14:∀y,blk F (M4.upd r3 y) r1=some s.cs:=fun y=>by rw [iG d13]; exact qG g14
 simp only [setH,go_sem,g34,b14]
 have fr:∀r x y,M4 r=some x->¬x.elem=57->(M4.upd r3 y) r=some x:=fun r x y hx hne=>by
  have:¬r=r3:=by rintro rfl; rw [g34] at hx; injection hx with hx; exact hne (by rw [<-hx])
  rw [Hp.qK this]; exact hx
 have qJH:=fun y=>zC own (e':=57) (M':=M4.upd r3 y) (fun r x hx hne=>fr r x y hx hne) (by decide) (by decide)
 have eH:∀y,Keep M (M4.upd r3 y):=fun y=>(kp.trans jA).new n3
 have dB:∀y,Old F (M4.upd r3 y):=fun y=>fP.upd hF3
 have g25:∀y,(M4.upd r3 y) r2=some ⟨[.slice none 0 0,.slice none 0 0,.int .i64 0,.int .i64 0,.int .i64 0],57,5⟩:=fun y=>by rw [Hp.qK d23]; exact g24
 have g35:∀y,(M4.upd r3 y) r3=some y:=fun y=>Hp.qV _ _ _
 generalize eX:(⟨Value.slice a m'.length c :: List.drop 1 s.cs,57,5⟩:nH)=X at *
 have hn5:=fun y=>h.next.keep (eH y) (dB y)
 have kn:=k28 F (M4.upd r3 X) s.dV s.dD s.next (hn5 X) (dB X) hl.2
 have gQY:=qJH X
 have dZX:=eH X
 have gQA:=dB X
 have dZZ:=g25 X
 have dZK:=g35 X
 clear qJH eH dB g25 g35 hn5 b14 fr
 generalize M4.upd r3 X=M5 at *
 with_reducible refine wW kn ?_
 rintro u F' M6 hr
 have jQD:=hr.own
 obtain ⟨hG,le,kq,oq,a2,c2,rfl,rdq⟩:=hr.le wJ (by omega)
 replace hG:=hG.symm
 subst hG
 refine ⟨(fun h=>by cases h),?_⟩
 have g26:=kq _ _ dZZ
 have g36:=kq _ _ dZK
 have wQY:=gQY.keep kq
 rw [<-eX] at g36
 have hd1:(List.drop 1 s.cs).length=4:=rfl
 have e14:1<=4:=by decide
 have eC:Value.slice a m'.length c :: Value.slice a2 s.next.length c2 :: List.drop 1 (List.drop 1 s.cs)=(⟨a,c,m',a2,c2,s.next,s.inp,s.p,s.w⟩:dM).cs:=rfl
 simp only [setH,go_sem,g26,g36,d23,hd1,eC]
 have fr:∀r x y,M6 r=some x->¬x.elem=57->((M6.upd r3 y).upd r2 y) r=some x:=fun r x y hx hne=>by
  have e3:¬r=r3:=by rintro rfl; rw [g36] at hx; injection hx with hx; exact hne (by rw [<-hx])
  have e2:¬r=r2:=by rintro rfl; rw [g26] at hx; injection hx with hx; exact hne (by rw [<-hx])
  rw [Hp.qK e2,Hp.qK e3]; exact hx
 refine qW ⟨rfl,((dZX.trans kq).new n3).new n2,((oq gQA).upd hF3).upd hF2,⟨a,c,m',a2,c2,s.next,s.inp,s.p,s.w⟩,rfl,hbk,rfl,rfl,rfl,rfl,?_,?_,fun g e=>kp.free (hnew g _ _ (by rw [show a=_ from e]))⟩
 ·exact zC wQY (e':=57) (fun r x hx hne=>fr r x _ hx hne) (by decide) (by decide)
 ·exact jQD.frame (e':=57) (fun r x hx hne=>fr r x _ hx hne) (by decide)
theorem k42 (s:dM):aI prog 42 [s.val] F M (Same F M (.bool (decide (s.next.length=0) || !decide (s.p=0/\s.w=0)))):=by
 refine qZ hm func42 e42 (aA rfl) ?_;simp only [c42,go_sem];intro r1 hF1 hM1;by_cases h0:(s.next.length:Int)=0
 ·have:s.next.length=0:=by omega
  simp only [go_sem,h0];exact qX ((Keep.refl M).new hM1) ⟨by simp [this],rfl,rfl⟩
 ·have h1:¬s.next.length=0:=by omega
  have ez:Value.agg #[.int .i64 0,.int .i64 0]=(⟨0,0⟩:Al).val:=rfl;simp only [go_sem,h0,ez];refine qX ((Keep.refl M).new hM1) ⟨?_,rfl,rfl⟩;have e:(⟨s.p,s.w⟩:Al)=⟨0,0⟩↔s.p=0/\s.w=0:=by simp
  simp [h1,e]
theorem xHE {m m':List Bl}:m'.map zZ=m.map zZ↔kD m'=kD m:=by
 have e1:∀l:List Bl,kD l=(l.map zZ).map fun x=>⟨x.1,none,0,x.2⟩:=fun l=>by
  unfold kD; rw [List.map_map]; rfl
 have e2:∀l:List Bl,l.map zZ=(kD l).map zZ:=fun l=>by
  unfold kD; rw [List.map_map]; rfl
 constructor
 ·intro h; rw [e1,e1,h]
 ·intro h; rw [e2 m',e2 m,h]
def yJX (p:Pg)(m:List Bl)(to:Sc)(k:Int)(v:Sc)(F:Fz)(M:Hp)(u:Value)(F':Fz)(M':Hp):Prop:=
 F'=F/\Keep M M'/\Old F M'/\∃a c,∃m':List Bl,u=.tuple #[.slice a m'.length c,.int .i64 (pV m (yJ p.ptr k) to)]/\fH 86 88 F M' a c m'/\
  (pV m (yJ p.ptr k) to=0->kD m'=wWQ p (kD m) to k v)
theorem vKH (p:Pg)(k:Int)(v:Sc)(a:Option Addr)(c:Nat)(m:List Bl)(s:Sc)(h:dF 2 Bl.cs F M (.slice a m.length c) m)(hr:∀x∈m,x.rd F M)(hold:Old F M)(hc:wY p=true)(hfm:iP p m)(hk:isS k=true)(hs:GoodS p 7 s) :
  aI prog 128 [.agg #[.bool p.big,.int .i64 p.ptr],.slice a m.length c,s.val,.int .i64 k,v.val] F M (yJX p m s k v F M):=by
 obtain ⟨b,off,rfl,hb,ho,hos⟩:=wM hs hfm hc
 have qJY:=(yH hc).1
 have hpre:=yH hc
 have yKA:=gV qJY (.inr (.inr hk))
 obtain ⟨n,hnq⟩:∃n:Nat,yJ p.ptr k=n:=aG (by omega)
 have hn4:1<=n/\n<=4:=by omega
 have hsz:nZ p.ptr k=n:=by
  have:1<=k/\k<=7:=by simp only [isS,aC,decide_eq_true_eq] at hk; exact hk
  rw [<-sJ (by omega) (by omega),hnq]
 have hbl:=yY hb
 have hml:m.length<=1000:=by have:=hfm.len; omega
 have hll:∀x∈m,x.l.length<=1000:=fun x hx=>by
  obtain ⟨i,hi,rfl⟩:=bZ hx
  have:=(hfm.bytes i hi).2.2.2; omega
 by_cases hst:(m[b]).st=1
 ·have e:pV m (yJ p.ptr k) ⟨true,0,b,off⟩=gD n (m[b]).l.length off:=by
   unfold pV
   simp only [hbl,hst,if_true,hnq,yHX]
  refine (dWF F M p.big p.ptr k n v a c m b off h hr hold qJY hb hst hsz hn4 (by omega) hml hll).mono ?_
  rintro u F' M' ⟨hG,kp,old,a',c',m',hu,own,hset⟩
  unfold yJX
  rw [e]
  exact ⟨hG,kp,old,a',c',m',hu,own,fun h0=>vKJ hb (by rw [hnq,aB]) (hset h0)⟩
 have e:pV m (yJ p.ptr k) ⟨true,0,b,off⟩=2:=by
  unfold pV
  simp only [hbl,hst,if_false]
 unfold yJX
 rw [e]
 refine qZ hm func128 e128 (aA rfl) ?_
 simp only [vQG,go_sem]
 intro r5 lM gU
 generalize eQ:M.upd r5 ⟨[.bool p.big,.int .i64 p.ptr],39,2⟩=M1 at *
 obtain ⟨eH,dB,f5⟩:=nw eQ hold lM gU
 clear eQ
 simp only [go_sem]
 intro r7 wU qB
 generalize eQ:M1.upd r7 ⟨(Sc.mk true 0 b off).cs,90,4⟩=M2 at *
 obtain ⟨lY,iO,f7⟩:=nw eQ dB wU qB
 clear eQ
 simp only [go_sem]
 intro r9 hF9 hM9
 generalize eQ:M2.upd r9 ⟨v.cs,90,4⟩=M3 at *
 obtain ⟨xE,mZ,f9⟩:=nw eQ iO hF9 hM9
 clear eQ
 have kp:=(eH.trans lY).trans xE
 have b5:=qG (F:=F) (xE _ _ (lY _ _ f5))
 have b7:=qG (F:=F) (xE _ _ f7)
 have b9:=qG (F:=F) f9
 have kr:=wKG F M3 p.big p.ptr k n a c m b off (h.keep kp mZ) mZ hb hst hsz hn4
 have kc:=xKG F M3 a c m (h.keep kp mZ) (fun x hx=>dF.keep (hr x hx) kp mZ) mZ (by omega) (fun x hx=>by have:=hll x hx; omega)
 simp only [go_sem,b5,b7]
 with_reducible refine qQ kr ?_
 simp only [go_sem]
 with_reducible refine wW kc ?_
 rintro u F' M4 ⟨rfl,jA,fP,a',c',m',rfl,hbk,own,_⟩
 refine ⟨(fun h=>by cases h),?_⟩
 simp only [go_sem]
 exact qW ⟨rfl,kp.trans jA,fP,a',c',m',rfl,own,fun h=>by cases h⟩
end Go.Proofs.Tryz.K
namespace Go.Ax
open Go
structure Sr where
 rsA:Option Addr
 rsC:Nat
 rs:List Int
 nsA:Option Addr
 nsC:Nat
 ns:List Int
def Sr.cs (s:Sr):List Value:=[.slice s.rsA s.rs.length s.rsC,.slice s.nsA s.ns.length s.nsC]
def Sr.val (s:Sr):Value:=.agg s.cs.toArray
@[go_sem] theorem Sr.oW {s:Sr}:Value.agg s.cs.toArray=s.val:=rfl
@[go_sem] theorem Sr.jM {s:Sr}:Value.cells.match_1 (fun _=>Array Value) s.val (fun cs=>cs) (fun u=>#[u])=s.cs.toArray:=rfl
@[go_sem] theorem Sr.gI {s:Sr}:s.val.cells=s.cs.toArray:=rfl
@[go_sem] theorem Sr.iY {s:Sr}:s.cs.toArray.size=2:=rfl
@[go_sem] theorem Sr.lU {s:Sr}:s.cs.length=2:=rfl
@[go_sem] theorem Sr.yD {s:Sr}:wQ s.cs=True:=by
 apply eq_true;intro u hu;simp only [Sr.cs,aQ,aV,or_false] at hu;rcases hu with rfl | rfl <;> rfl
theorem Sr.plain (s:Sr):wQ s.cs:=of_eq_true Sr.yD
theorem Sr.len (s:Sr):s.cs.length=2:=rfl
@[go_sem] theorem Sr.fK {s:Sr}:s.cs.take 2=s.cs:=rfl
@[go_sem] theorem Sr.take0 {s:Sr}:s.cs.take 0=[]:=rfl
@[go_sem] theorem Sr.jC {s:Sr}:s.cs.drop 2=[]:=rfl
@[go_sem] theorem Sr.ld {s:Sr}:rd true 2 s.cs 0=some s.val:=rfl
@[go_sem] theorem Sr.xG {s:Sr}:s.cs[0]? = some (.slice s.rsA s.rs.length s.rsC):=rfl
@[go_sem] theorem Sr.ld0 {s:Sr}:rd false 1 s.cs 0=some (.slice s.rsA s.rs.length s.rsC):=rfl
@[go_sem] theorem Sr.xH {s:Sr}:s.cs[1]? = some (.slice s.nsA s.ns.length s.nsC):=rfl
@[go_sem] theorem Sr.ld1 {s:Sr}:rd false 1 s.cs 1=some (.slice s.nsA s.ns.length s.nsC):=rfl
theorem Sr.row {cs:List Value}{p:Nat}{s:Sr}(h:(cs.drop p).take 2=s.cs):cs[p]? = some (.slice s.rsA s.rs.length s.rsC)/\cs[p+1]? = some (.slice s.nsA s.ns.length s.nsC):=by
 have key:∀j,j < 2->cs[p+j]? = s.cs[j]?:=fun j hj=>by
  rw [<-h,List.getElem?_take_of_lt hj,List.getElem?_drop]
 exact ⟨key 0 (by decide),key 1 (by decide)⟩
structure Rp where
 un:Bool
 alA:Option Addr
 alC:Nat
 al:List Al
 enA:Option Addr
 enC:Nat
 en:List En
 n:Int
def Rp.cs (s:Rp):List Value:=[.bool s.un,.slice s.alA s.al.length s.alC,.slice s.enA s.en.length s.enC,.int .i64 s.n]
def Rp.val (s:Rp):Value:=.agg s.cs.toArray
@[go_sem] theorem Rp.oW {s:Rp}:Value.agg s.cs.toArray=s.val:=rfl
@[go_sem] theorem Rp.jM {s:Rp}:Value.cells.match_1 (fun _=>Array Value) s.val (fun cs=>cs) (fun u=>#[u])=s.cs.toArray:=rfl
@[go_sem] theorem Rp.gI {s:Rp}:s.val.cells=s.cs.toArray:=rfl
@[go_sem] theorem Rp.iY {s:Rp}:s.cs.toArray.size=4:=rfl
@[go_sem] theorem Rp.lU {s:Rp}:s.cs.length=4:=rfl
@[go_sem] theorem Rp.yD {s:Rp}:wQ s.cs=True:=by
 apply eq_true;intro u hu;simp only [Rp.cs,aQ,aV,or_false] at hu;rcases hu with rfl | rfl | rfl | rfl <;> rfl
theorem Rp.plain (s:Rp):wQ s.cs:=of_eq_true Rp.yD
theorem Rp.len (s:Rp):s.cs.length=4:=rfl
@[go_sem] theorem Rp.fK {s:Rp}:s.cs.take 4=s.cs:=rfl
@[go_sem] theorem Rp.take0 {s:Rp}:s.cs.take 0=[]:=rfl
@[go_sem] theorem Rp.jC {s:Rp}:s.cs.drop 4=[]:=rfl
@[go_sem] theorem Rp.ld {s:Rp}:rd true 4 s.cs 0=some s.val:=rfl
@[go_sem] theorem Rp.xG {s:Rp}:s.cs[0]? = some (.bool s.un):=rfl
@[go_sem] theorem Rp.ld0 {s:Rp}:rd false 1 s.cs 0=some (.bool s.un):=rfl
@[go_sem] theorem Rp.xH {s:Rp}:s.cs[1]? = some (.slice s.alA s.al.length s.alC):=rfl
@[go_sem] theorem Rp.ld1 {s:Rp}:rd false 1 s.cs 1=some (.slice s.alA s.al.length s.alC):=rfl
@[go_sem] theorem Rp.qWQ {s:Rp}:s.cs[2]? = some (.slice s.enA s.en.length s.enC):=rfl
@[go_sem] theorem Rp.ld2 {s:Rp}:rd false 1 s.cs 2=some (.slice s.enA s.en.length s.enC):=rfl
@[go_sem] theorem Rp.qZV {s:Rp}:s.cs[3]? = some (.int .i64 s.n):=rfl
@[go_sem] theorem Rp.ld3 {s:Rp}:rd false 1 s.cs 3=some (.int .i64 s.n):=rfl
theorem Rp.row {cs:List Value}{p:Nat}{s:Rp}(h:(cs.drop p).take 4=s.cs):cs[p]? = some (.bool s.un)/\cs[p+1]? = some (.slice s.alA s.al.length s.alC)/\cs[p+2]? = some (.slice s.enA s.en.length s.enC)/\cs[p+3]? = some (.int .i64 s.n):=by
 have key:∀j,j < 4->cs[p+j]? = s.cs[j]?:=fun j hj=>by
  rw [<-h,List.getElem?_take_of_lt hj,List.getElem?_drop]
 exact ⟨key 0 (by decide),key 1 (by decide),key 2 (by decide),key 3 (by decide)⟩
structure Sr.rd (F:Fz)(M:Hp)(s:Sr):Prop where
 rs:lG F M s.rsA s.rsC s.rs
 ns:lG F M s.nsA s.nsC s.ns
structure Rp.rd (F:Fz)(M:Hp)(s:Rp):Prop where
 al:dF 2 Al.cs F M (.slice s.alA s.al.length s.alC) s.al
 en:dF 3 En.cs F M (.slice s.enA s.en.length s.enC) s.en
 ens:∀e∈s.en,e.rd F M
theorem Sr.rd.keep {F:Fz}{M M':Hp}{s:Sr}(h:s.rd F M)(kp:Keep M M')(o:Old F M'):s.rd F M':=⟨h.rs.keep kp o,h.ns.keep kp o⟩
theorem Rp.rd.keep {F:Fz}{M M':Hp}{s:Rp}(h:s.rd F M)(kp:Keep M M')(o:Old F M'):s.rd F M':=⟨h.al.keep kp o,h.en.keep kp o,fun e he=>(h.ens e he).keep kp o⟩
theorem fH.rd {tb ty:TypeId}{F:Fz}{M:Hp}{a:Option Addr}{c:Nat}{m:List Bl}(h:fH tb ty F M a c m)(hl:m.length<=1000000)(hb:∀x∈m,x.l.length<=1000000) :
  dF 2 Bl.cs F M (.slice a m.length c) m/\(∀x∈m,x.rd F M)/\(a=none->c=0)/\∀x∈m,x.lA=none->x.lC=0:=by
 refine ⟨h.row.rd Bl.len (by omega),fun x hx=>(h.rows x hx).rd By.len (by have:=hb x hx; omega),fun e=>?_,fun x hx e=>?_⟩
 ·rcases h.row with ⟨h1,_⟩ | ⟨g,cap,h1,_⟩
  ·injection h1
  ·injection h1 with h1; rw [e] at h1; cases h1
 ·rcases h.rows x hx with ⟨h1,_⟩ | ⟨g,cap,h1,_⟩
  ·injection h1
  ·injection h1 with h1; rw [e] at h1; cases h1
theorem fH.put {tb ty:TypeId}{F:Fz}{M:Hp}{a:Option Addr}{c:Nat}{m:List Bl}(h:fH tb ty F M a c m)(ht:¬tb=ty){b:Nat}(hb:b < m.length){x:Bl}(hx:gQ 5 By.cs ty F M (.slice x.lA x.l.length x.lC) x.l)
  (hd:∀y∈m,qWZ x y/\qWZ y x):∃g cap,a=some ⟨g,0,none⟩/\F g=none/\M g=some ⟨m.flatMap Bl.cs,tb,cap * 2⟩/\fH tb ty F (M.upd g ⟨(m.set b x).flatMap Bl.cs,tb,cap * 2⟩) a c (m.set b x):=by
 rcases h.row with ⟨h1,h2⟩ | ⟨g,cap,h1,h2,h3,h4,h5⟩
 ·rw [h2] at hb; cases hb
 injection h1 with e1 e2 e3
 have keep:∀{l:List By} {u:Value},gQ 5 By.cs ty F M u l->gQ 5 By.cs ty F (M.upd g ⟨(m.set b x).flatMap Bl.cs,tb,cap * 2⟩) u l:=fun ho=>by
  rcases ho with ho | ⟨g',cap',k1,k2,k3,k4⟩
  ·exact .inl ho
  ·have:¬g'=g:=by rintro rfl; rw [h3] at k3; injection k3 with k3; injection k3 with _ k3 _; exact ht k3
   exact .inr ⟨g',cap',k1,k2,by rw [Hp.qK this]; exact k3,k4⟩
 refine ⟨g,cap,e1,h2,h3,.inr ⟨g,cap,by rw [aZ,e1,e3],h2,Hp.qV _ _ _,by rw [aZ]; exact h4,h5⟩,fun y hy=>?_,?_⟩
 ·rcases List.mem_or_eq_of_mem_set hy with hy | rfl
  ·exact keep (h.rows y hy)
  ·exact keep hx
 ·rw [List.pairwise_iff_getElem];intro i j hi hj hij;rw [aZ] at hi hj;rw [List.getElem_set,List.getElem_set];split
  ·rw [if_neg (by omega)]; exact (hd _ (aH hj)).1
  ·split
   ·exact (hd _ (aH hi)).2
   ·exact List.pairwise_iff_getElem.1 h.dist i j hi hj hij
theorem nJ {x y:Bl}(h:x.lA=none):qWZ x y/\qWZ y x:=⟨fun g e=>(by rw [h] at e; cases e),fun g _ e=>by rw [h] at e; cases e⟩
theorem fH.xHF {tb ty:TypeId}{F:Fz}{M:Hp}{a:Option Addr}{c:Nat}{m:List Bl}(h:fH tb ty F M a c m){x:Bl}(hx:∀g,x.lA=some ⟨g,0,none⟩->M g=none):∀y∈m,qWZ x y/\qWZ y x:=fun y hy=>by
 have key:∀g,y.lA=some g->¬x.lA=some g:=fun g e1 e2=>by
  rcases h.rows y hy with ⟨h1,_⟩ | ⟨g',cap,h1,_,h3,_⟩
  ·injection h1 with h1; rw [e1] at h1; cases h1
  ·injection h1 with h1
   rw [e1] at h1;injection h1 with h1
   subst h1;rw [hx _ e2] at h3; cases h3
 exact ⟨fun g e1 e2=>key g e2 e1,fun g e1 e2=>key g e1 e2⟩
theorem fH.small {p:Pg}{q:Qs}{n:Nat}{s:dM}(h:OkQ p q n)(e:s.q=q)(hc:wY p=true):iP p s.q.m/\s.blocks.length<=1000/\∀x∈s.blocks,x.l.length<=32:=by
 subst e;have h1:=h.fit.len;have h2:(kD s.blocks).length=1+p.vars.length+p.news.length:=h1;rw [rG] at h2;have hp:=yH hc;refine ⟨h.fit,by omega,fun x hx=>?_⟩;obtain ⟨i,hi,rfl⟩:=bZ hx;have:=(h.fit.bytes i (by show i < (kD s.blocks).length; rw [rG]; exact hi)).2.2.2;have e:(s.q.m[i]'(by show i < (kD s.blocks).length; rw [rG]; exact hi))=(s.blocks[i]).no:=qQX _;rw [e] at this;exact this
theorem xJK {p:Pg}{j:Nat}(h:j < p.news.length):nP (yK p) ((p.vars.length+1+j:Nat):Int)=p.news[j]:=by
 unfold nP yK;rw [aB,List.getElem?_append_right (by simp),aO,bM,show p.vars.length+1+j - (1+p.vars.length)=j by omega,List.getElem?_eq_getElem h];rfl
theorem jHE (x:Int):band .i64 x 1=x % 2:=qJW x (k:=1) (by decide)
theorem oG {p:Pg}{m:List Bl}(h:iP p (kD m)):iP p m:=by
 have key:∀i (hi:i < m.length),∃hi':i < (kD m).length,((kD m)[i]).st=(m[i]).st/\((kD m)[i]).l=(m[i]).l:=fun i hi=>by
  have hi':i < (kD m).length:=by rw [rG]; exact hi
  exact ⟨hi',(congrArg Bl.st (qQX hi')).trans rfl,(congrArg Bl.l (qQX hi')).trans rfl⟩
 refine ⟨by rw [<-rG]; exact h.len,fun i hi=>?_,fun i hi hs=>?_,fun i hi hs=>?_,fun hi=>?_,fun i hi=>?_,fun i hi i1 i2=>?_⟩
 all_goals obtain ⟨hi',e1,e2⟩:=key _ hi
 ·rw [<-e1,<-e2]; exact h.bytes i hi'
 ·rw [<-e2]; exact h.size i hi' (by rw [e1]; exact hs)
 ·rw [<-e2]; exact h.dead i hi' (by rw [e1]; exact hs)
 ·rw [<-e1]; exact h.zero hi'
 ·rw [<-e2]; exact h.ptrs i hi'
 ·rw [<-e1]; exact h.live i hi' i1 i2
end Go.Ax
namespace Go.Proofs.Tryz.K
open Go Go.Ax Go.Proofs.Tryz.S
set_option maxRecDepth 100000
set_option linter.unusedSimpArgs false
set_option linter.unusedVariables false
set_option maxHeartbeats 2000000
variable (F:Fz) (M:Hp)
def gQB (r:Qs × Int)(F:Fz)(M:Hp)(u:Value)(F':Fz)(M':Hp):Prop:=F'=F/\Keep M M'/\Old F M'/\∃s':dM,u=.tuple #[s'.val,.int .i64 r.2]/\s'.q=r.1/\s'.rd F M'
structure LyM (p:Pg)(s:dM)(x:Sm)(t:Sr)(r4 r5 r6 r7 r8 r10:Nat)(to:Sc)(F0:Fz)(M0 M:Hp):Prop where
 kp:Keep M0 M
 old:Old F0 M
 f4:M r4=some ⟨p.cs,43,7⟩
 f5:M r5=some ⟨s.cs,57,5⟩
 f6:M r6=some ⟨x.cs,80,7⟩
 f7:M r7=some ⟨t.cs,64,2⟩
 f8:M r8=some ⟨[.slice none 0 0,.slice none 0 0,.int .i64 0,.int .i64 0,.int .i64 0],57,5⟩
 f10:M r10=some ⟨to.cs,90,4⟩
theorem oH {F:Fz}{M:Hp}{a:Option Addr}{c:Nat}{m:List Bl}(h:fH 86 88 F M a c m){r ty n:Nat}{cs:List Value}{e:nH}(hr:M r=some ⟨cs,ty,n⟩)(h1:¬ty=(86:Nat))(h2:¬ty=(88:Nat)):fH 86 88 F (M.upd r e) a c m:=
 zC (e':=ty) h (fun r' x hx hne=>by
  have:¬r'=r:=by rintro rfl; rw [hr] at hx; injection hx with hx; exact hne (by rw [<-hx])
  rw [Hp.qK this]; exact hx) (fun e=>h1 e.symm) (fun e=>h2 e.symm)
def Off (r4 r5 r6 r7 r8 r10 r:Nat):Prop:=(¬r4=r/\¬r5=r/\¬r6=r/\¬r7=r/\¬r8=r/\¬r10=r)
section
variable {p:Pg} {s:dM} {x:Sm} {t:Sr} {r4 r5 r6 r7 r8 r10 r:Nat} {to:Sc} {F0:Fz} {M0 M1 M2:Hp}
theorem LyM.keep (h:LyM p s x t r4 r5 r6 r7 r8 r10 to F0 M0 M1)(k:Keep M1 M2)(o:Old F0 M2):LyM p s x t r4 r5 r6 r7 r8 r10 to F0 M0 M2:=
 ⟨h.kp.trans k,o,k _ _ h.f4,k _ _ h.f5,k _ _ h.f6,k _ _ h.f7,k _ _ h.f8,k _ _ h.f10⟩
theorem LyM.off (h:LyM p s x t r4 r5 r6 r7 r8 r10 to F0 M0 M1)(hM:M1 r=none):Off r4 r5 r6 r7 r8 r10 r:=
 ⟨(qJ hM h.f4).1,(qJ hM h.f5).1,(qJ hM h.f6).1,(qJ hM h.f7).1,(qJ hM h.f8).1,(qJ hM h.f10).1⟩
theorem LyM.dZG (h:LyM p s x t r4 r5 r6 r7 r8 r10 to F0 M0 M1){cs:List Value}{n:Nat}(hM:M1 r=some ⟨cs,86,n⟩):Off r4 r5 r6 r7 r8 r10 r:=by
 have key:∀{r' ty:Nat} {c:List Value} {k:Nat},M1 r'=some ⟨c,ty,k⟩->¬ty=(86:Nat)->¬r'=r:=fun h1 h2 e=>by
  subst e; rw [hM] at h1; injection h1 with h1; injection h1 with _ h1 _; exact h2 h1.symm
 exact ⟨key h.f4 (by decide),key h.f5 (by decide),key h.f6 (by decide),key h.f7 (by decide),key h.f8 (by decide),key h.f10 (by decide)⟩
theorem LyM.upd (h:LyM p s x t r4 r5 r6 r7 r8 r10 to F0 M0 M1)(d:Off r4 r5 r6 r7 r8 r10 r){e:nH}(hF:F0 r=none)(h0:M0 r=none):LyM p s x t r4 r5 r6 r7 r8 r10 to F0 M0 (M1.upd r e):=by
 obtain ⟨d4,d5,d6,d7,d8,d10⟩:=d;exact ⟨h.kp.new h0,h.old.upd hF,by rw [Hp.qK d4]; exact h.f4,by rw [Hp.qK d5]; exact h.f5,by rw [Hp.qK d6]; exact h.f6,by rw [Hp.qK d7]; exact h.f7,by rw [Hp.qK d8]; exact h.f8,by rw [Hp.qK d10]; exact h.f10⟩
end
def lyI (p:Pg)(s:dM)(x:Sm)(t:Sr)(r4 r5 r6 r7 r8 r10 r13:Nat)(to:Sc)(R:Qs × Int)(F0:Fz)(M0:Hp)(σ:Env)(F:Fz)(M:Hp):Prop:=
 F0=F/\LyM p s x t r4 r5 r6 r7 r8 r10 to F0 M0 M/\∃bad:Int,∃v:Sc,∃k rd:Int,∃a c,∃m1:List Bl,Ax.look σ 11=some (.int .i64 bad)/\Ax.look σ 12=some (.int .i64 k)/\Ax.look σ 14=some (.slice a m1.length c)/\Ax.look σ 15=some (.int .i64 rd)/\
  M r13=some ⟨v.cs,90,4⟩/\(¬bad=0->R=(s.q,bad))/\(bad=0->R=qQW p s.q (kD m1) to k v rd/\iP p m1/\fH 86 88 F0 M a c m1/\isS k=true/\GoodS p k v/\0<=rd/\rd<=1)
theorem k83 (p:Pg)(s:dM)(i:Nat)(x:Sm)(t:Sr)(n:Nat)(hp:p.rd F)(hs:s.rd F M)(ht:t.rd F M)(hold:Old F M)(hc:wY p=true)(hi:i < p.stmts.length)(hx:p.stmts[i]=x)(hq:OkQ p s.q n)(hop:x.op=1\/x.op=2\/x.op=3)(hn:n<=1000)(htl:t.rs.length<=100000/\t.ns.length<=100000) :
  aI prog 83 [p.val,s.val,x.val,t.val] F M (gQB (if (lJ p s.q.m x.to).2=0 then opQ p t.rs t.ns i x (lJ p s.q.m x.to).1 s.q else (s.q,(lJ p s.q.m x.to).2)) F M):=by
 have hst:=qKD (xY hc hi)
 rw [hx] at hst
 obtain ⟨_,_,sF,s1,s2,s3⟩:=hst
 have sF:=sF (by omega)
 rw [show zA x=x.to from if_pos (by omega),if_pos (by omega)] at sF
 obtain ⟨tn,htn,tn1,_⟩:=qJF sF
 obtain ⟨_,hm1,hm2⟩:=fH.small hq rfl hc
 have hfm:iP p s.blocks:=oG hq.fit
 have eno:∀e,lJ p s.q.m e=lJ p s.blocks e:=fun e=>yHZ p s.blocks e
 have evg:=fun h0=>yQG hc hfm sF h0
 generalize hR:(if (lJ p s.q.m x.to).2=0 then opQ p t.rs t.ns i x (lJ p s.q.m x.to).1 s.q else (s.q,(lJ p s.q.m x.to).2))=R
 rw [eno,htn] at hR
 rw [htn] at evg
 refine qZ hm func83 e83 (aA rfl) ?_
 simp only [c83,go_sem]
 intro r4 mW jP
 generalize eQ:M.upd r4 ⟨p.cs,43,7⟩=M1 at *
 obtain ⟨jA,fP,f4⟩:=nw eQ hold mW jP
 clear eQ
 simp only [go_sem]
 intro r5 lM gU
 have n5:M r5=none:=jA.free gU
 generalize eQ:M1.upd r5 ⟨s.cs,57,5⟩=M2 at *
 obtain ⟨eH,dB,f5⟩:=nw eQ fP lM gU
 clear eQ
 simp only [go_sem]
 intro r6 vI oI
 generalize eQ:M2.upd r6 ⟨x.cs,80,7⟩=M3 at *
 obtain ⟨iZ,eG,f6⟩:=nw eQ dB vI oI
 clear eQ
 simp only [go_sem]
 intro r7 wU qB
 generalize eQ:M3.upd r7 ⟨t.cs,64,2⟩=M4 at *
 obtain ⟨lY,iO,f7⟩:=nw eQ eG wU qB
 clear eQ
 simp only [go_sem]
 intro r8 hF8 rQ
 have vKD:=((jA.trans eH).trans iZ).trans lY
 have n8:M r8=none:=vKD.free rQ
 have f5':=lY _ _ (iZ _ _ f5)
 have d85:=(qJ rQ f5').1
 have d58:¬r8=r5:=fun h=>d85 h.symm
 have dZV:=d58
 generalize eQ:M4.upd r8 ⟨[.slice none 0 0,.slice none 0 0,.int .i64 0,.int .i64 0,.int .i64 0],57,5⟩=M5 at *
 obtain ⟨nU,iE,f8⟩:=nw eQ iO hF8 rQ
 clear eQ
 have kp:=vKD.trans nU
 have g4:=nU _ _ (lY _ _ (iZ _ _ (eH _ _ f4)))
 have g5:=nU _ _ f5'
 have g6:=nU _ _ (lY _ _ f6)
 have g7:=nU _ _ f7
 clear jA eH iZ lY nU fP dB eG iO jP gU oI qB rQ f4 f5 f6 f7 f5' vKD mW vI wU
 have b4:=qG (F:=F) g4
 have b5:=qG (F:=F) g5
 have b6:=qG (F:=F) g6
 have hs5:=hs.keep kp iE
 have ke:=k84 F M5 p s.bG s.bV s.blocks tn hp hs5.blocks hs5.bytes iE hc hfm tn1
 generalize lJ p s.blocks (tn:Int)=r0 at *
 obtain ⟨to,bad⟩:=r0
 simp only at evg hR
 simp only [go_sem,b4,b5,b6,htn]
 with_reducible refine qQ ke ?_
 simp only [go_sem]
 intro r10 qJG uF
 have n10:M r10=none:=kp.free uF
 have d10_8:=(qJ uF f8).1
 have d10_5:=(qJ uF g5).1
 simp only [setH,Hp.wZ,go_sem]
 generalize eQ:M5.upd r10 ⟨to.cs,90,4⟩=M6 at *
 obtain ⟨pO,uS,f10⟩:=nw eQ iE qJG uF
 clear eQ
 have L6:LyM p s x t r4 r5 r6 r7 r8 r10 to F M M6:=⟨kp.trans pO,uS,pO _ _ g4,pO _ _ g5,pO _ _ g6,pO _ _ g7,pO _ _ f8,f10⟩
 clear g4 g5 g6 g7 f8 f10 b4 b5 b6 hs5 kp iE pO uS uF ke
 have b5:=qG (F:=F) L6.f5
 have g8:=L6.f8
 by_cases hbad:bad=0
 rotate_left
 ·rw [if_neg hbad] at hR
  subst hR
  simp only [setH,go_sem,hbad,b5,g8]
  exact qX (L6.kp.new n8) ⟨rfl,Keep.refl _,hold,s,rfl,rfl,hs⟩
 subst hbad
 rw [if_pos rfl] at hR
 replace evg:=evg rfl
 have b6:=qG (F:=F) L6.f6
 simp only [go_sem,b6]
 intro r13 yQZ qJC
 have n13:M r13=none:=L6.kp.free qJC
 have o13:=L6.off qJC
 have L7:=L6.upd (e:=⟨[.bool false,.int .i64 0,.int .i64 0,.int .i64 0],90,4⟩) o13 yQZ n13
 have f13:(M6.upd r13 ⟨[.bool false,.int .i64 0,.int .i64 0,.int .i64 0],90,4⟩) r13=some ⟨z0.cs,90,4⟩:=Hp.qV _ _ _
 generalize M6.upd r13 ⟨[.bool false,.int .i64 0,.int .i64 0,.int .i64 0],90,4⟩=M7 at *
 clear b5 b6 g8 L6 qJC
 have b5:=qG (F:=F) L7.f5
 have kc:=xKG F M7 s.bG s.bV s.blocks (hs.blocks.keep L7.kp L7.old) (fun y hy=>dF.keep (hs.bytes y hy) L7.kp L7.old) L7.old (by omega) (fun y hy=>by have:=hm2 y hy; omega)
 simp only [go_sem,b5]
 with_reducible refine wW kc ?_
 rintro u F' M8 ⟨hG,nU,iE,a,c,m,rfl,hbk,own,hnew,_⟩
 replace hG:=hG.symm
 subst hG
 refine ⟨(fun h=>by cases h),?_⟩
 have L8:=L7.keep nU iE
 have g13:=nU _ _ f13
 have hmm:kD m=s.q.m:=xHE.1 hbk
 have hlen:m.length=s.blocks.length:=by have:=congrArg List.length hbk; simpa using this
 have jDQ:iP p m:=oG (by rw [hmm]; exact hq.fit)
 have gQE:∀g n' c',Value.slice a m.length c=.slice (some ⟨g,0,none⟩) n' c'->M g=none:=fun g n' c' e=>L7.kp.free (hnew g n' c' e)
 clear kc b5 L7 f13 nU iE hnew
 have b6:=qG (F:=F) L8.f6
 have b13:=qG (F:=F) g13
 have b4:=qG (F:=F) L8.f4
 have b5:=qG (F:=F) L8.f5
 have b7:=qG (F:=F) L8.f7
 have hsk:=hs.keep L8.kp L8.old
 simp only [go_sem,b6]
 refine gJ (lyI p s x t r4 r5 r6 r7 r8 r10 r13 to R F M) ?_ ?_
 ·rcases hop with h1 | h2 | h3
  ·-- SSet
   obtain ⟨k1,k2⟩:=s1 h1
   obtain ⟨en,hen,en1,_⟩:=qJF k2
   have ke:=k84 F M8 p s.bG s.bV s.blocks en hp hsk.blocks hsk.bytes L8.old hc hfm en1
   unfold opQ at hR
   rw [if_pos h1,eno,hen] at hR
   have hgs:=fun h0=>yQG hc hfm k2 h0
   rw [hen] at hgs
   generalize lJ p s.blocks (en:Int)=r1 at *
   obtain ⟨v,bad⟩:=r1
   simp only at hR hgs
   simp only [go_sem,b4,b5,b6,h1,hen]
   with_reducible refine qQ ke ?_
   simp only [setH,go_sem,g13]
   refine At.mk ⟨rfl,L8.upd o13 yQZ n13,bad,v,x.kind,0,a,c,m,(by simp only [go_sem, *] <;> rfl),(by simp only [go_sem, *] <;> rfl),(by simp only [go_sem, *] <;> rfl),(by simp only [go_sem, *] <;> rfl),Hp.qV _ _ _,fun h=>by rw [<-hR,if_neg h],fun h=>⟨by rw [<-hR,if_pos h,hmm],jDQ,oH own g13 (by decide) (by decide),k1,hgs h,by decide,by decide⟩⟩
  ·-- SRead
   have k2:=s2 h2
   have hk7:x.kind < 7/\1<=x.kind:=by simp only [isK,aC,decide_eq_true_eq] at k2; omega
   have htr:=ht.rs.keep L8.kp L8.old
   have hin:=hq.inp
   have kpk:=gQH F M8 t.rsA t.rsC t.rs s.inp htr hin.1 (by omega)
   have kw:=k52 F M8 x.kind
   rw [zV k2] at kw
   have how:=jJ (jQ x.kind)
   have kr:=qZA F M8 (rF t.rs s.inp) (iF x.kind) (by omega) (by omega)
   unfold opQ at hR
   rw [if_neg (by omega),if_pos h2] at hR
   simp only [go_sem,b5,b7,h2]
   with_reducible refine qQ kpk ?_
   simp only [go_sem]
   with_reducible refine qQ kw ?_
   simp only [go_sem]
   with_reducible refine qQ kr ?_
   simp only [setH,go_sem,g13]
   exact At.mk ⟨rfl,L8.upd o13 yQZ n13,0,⟨false,rF t.rs s.inp % 2 ^ (iF x.kind).toNat,0,0⟩,x.kind,1,a,c,m,(by simp only [go_sem, *] <;> rfl),(by simp only [go_sem, *] <;> rfl),(by simp only [go_sem, *] <;> rfl),(by simp only [go_sem, *] <;> rfl),Hp.qV _ _ _,fun h=>absurd rfl h,fun _=>⟨by rw [<-hR,hmm]; rfl,jDQ,oH own g13 (by decide) (by decide),yO k2,.inr ⟨k2,rfl,rfl,rfl,wI (jQ _)⟩,by decide,by decide⟩⟩
  ·-- SNew
   obtain ⟨h31,h32⟩:=s3 h3
   obtain ⟨k,hk⟩:=aG (show 0<=x.n by omega)
   have hlm:=jDQ.len
   have hkm:k < m.length:=by omega
   rw [hk] at h31 h32
   have htn:=ht.ns.keep L8.kp L8.old
   obtain ⟨_,_,_,hpz⟩:=yH hc
   have hpv:=yH hc
   unfold opQ at hR
   rw [if_neg (by omega),if_neg (by omega),if_pos h3,hk,show s.q.m=kD m from hmm.symm,(uT m _).1,yY hkm] at hR
   simp only [setH,go_sem,g13,h3]
   have eX:(⟨Value.bool true :: List.drop 1 z0.cs,90,4⟩:nH)=⟨(Sc.mk true 0 0 0).cs,90,4⟩:=rfl
   rw [eX]
   have L9:=L8.upd (e:=⟨(Sc.mk true 0 0 0).cs,90,4⟩) o13 yQZ n13
   have qGQ:=oH own g13 (e:=⟨(Sc.mk true 0 0 0).cs,90,4⟩) (by decide) (by decide)
   have yJZ:(M8.upd r13 ⟨(Sc.mk true 0 0 0).cs,90,4⟩) r13=some ⟨(Sc.mk true 0 0 0).cs,90,4⟩:=Hp.qV _ _ _
   generalize M8.upd r13 ⟨(Sc.mk true 0 0 0).cs,90,4⟩=M9 at *
   clear g13 L8 own eX b4 b5 b6 b7 b13 hsk htn
   have b4:=qG (F:=F) L9.f4
   have b6:=qG (F:=F) L9.f6
   have b7:=qG (F:=F) L9.f7
   have hdr:=qGQ.row.rd Bl.len (by omega)
   obtain ⟨g,cap,ea,hFg,yF,_⟩:=qGQ.put (by decide) hkm (x:=⟨3,none,0,[]⟩) (.inl ⟨rfl,rfl⟩) (fun y _=>nJ rfl)
   have hg0:M g=none:=gQE g _ _ (by rw [ea])
   have og:=L9.dZG yF
   have w2:k * 2+2<=(m.flatMap Bl.cs).length:=by rw [yG Bl.len]; omega
   have d1:=lF (f:=Bl.cs) (sz:=2) Bl.len m k hkm
   obtain ⟨d2,d3⟩:=Bl.row d1
   have hbb:=qG (F:=F) yF
   have hk0:(0:Int)<=k:=by omega
   have hk1:(k:Int) < m.length:=by omega
   have dZD:¬g=r13:=by rintro rfl; rw [yF] at yJZ; injection yJZ with e; injection e with _ e _; exact absurd e (by decide)
   have xDQ:¬r13=g:=fun e=>dZD e.symm
   have fin:∀(y:Bl) (v:Sc),gQ 5 By.cs 88 F M9 (.slice y.lA y.l.length y.lC) y.l->(∀z∈m,qWZ y z/\qWZ z y)->fH 86 88 F (M9.upd g ⟨(m.set k y).flatMap Bl.cs,86,cap * 2⟩) a c (m.set k y):=fun y v h1 h2=>by
    obtain ⟨g',cap',e1,_,e3,e4⟩:=qGQ.put (by decide) hkm h1 h2
    rw [ea] at e1
    injection e1 with e1
    injection e1 with e1
    subst e1
    rw [yF] at e3
    injection e3 with e3
    injection e3 with _ _ e3
    rw [e3]; exact e4
   subst ea
   by_cases wYA:(m[k]).st=0
   rotate_left
   ·rw [if_neg wYA] at hR
    simp only [go_sem,b6,hk,hk0,hk1,hbb,aB,aY,aK,d2,wYA]
    exact At.mk ⟨rfl,L9,10,⟨true,0,0,0⟩,7,0,some ⟨g,0,none⟩,c,m,(by simp only [go_sem, *] <;> rfl),(by simp only [go_sem, *] <;> rfl),(by simp only [go_sem, *] <;> rfl),(by simp only [go_sem, *] <;> rfl),yJZ,fun _=>hR.symm,fun h=>by cases h⟩
   rw [if_pos wYA] at hR
   obtain ⟨j,rfl⟩:∃j,k=p.vars.length+1+j:=⟨k - (p.vars.length+1),by omega⟩
   have hj:j < p.news.length:=by omega
   have ej1:i64.wrap (((p.vars.length+1+j:Nat):Int) - p.vars.length)=((1+j:Nat):Int):=by rw [dQ (by omega) (by omega)]; omega
   have ej2:i64.wrap (((1+j:Nat):Int) - 1)=j:=by rw [dQ (by omega) (by omega)]; omega
   have ej3:((p.vars.length+1+j:Nat):Int) - p.vars.length - 1=j:=by omega
   have kpk:=gQH F M9 t.nsA t.nsC t.ns j (ht.ns.keep L9.kp L9.old) (by omega) (by omega)
   have hcm:comes p t.ns ((p.vars.length+1+j:Nat):Int)=(decide (t.ns=[]) || decide (rF t.ns j % 2=1)):=by unfold comes; rw [ej3]
   have hsz:=xJK hj
   have hsz2:=jE hc ((p.vars.length+1+j:Nat):Int)
   generalize hkj:p.vars.length+1+j=k at *
   cases hcv:comes p t.ns (k:Int)
   ·-- it fails
    have hfit:iP p (m.set k ⟨3,none,0,[]⟩):=by
     have:=xZ jDQ (b:=k) (by omega) hkm (st:=3) (l:=[]) (.inr ⟨.inr rfl,rfl⟩) hsz2
     unfold setB at this; rw [aB] at this; exact this
    have hRR:R=qQW p s.q (kD (m.set k ⟨3,none,0,[]⟩)) to 7 ⟨true,0,0,0⟩ 0:=by
     rw [<-hR,hcv,qXE]
     unfold Go.Ax.mV setB
     rw [hcv,if_neg bK,if_neg bK,aB]; rfl
    rw [hcm] at hcv
    simp only [dU,decide_eq_false_iff_not] at hcv
    obtain ⟨c1,c2⟩:=hcv
    have cl:¬(t.ns.length:Int)=0:=fun h=>c1 (List.length_eq_zero_iff.1 (by omega))
    have w1:=iC (sz:=2) (f:=Bl.cs) Bl.len ⟨3,none,0,[]⟩ m k hkm
    simp only [go_sem,b4,b6,b7,hk,hk0,hk1,hbb,aB,aY,aK,d2,wYA,cl,ej1,ej2]
    with_reducible refine qQ kpk ?_
    simp only [setH,go_sem,jHE,c2,b6,hk,hk0,hk1,yF,w2,aB,aY]
    rw [show List.take (k * 2) (List.flatMap Bl.cs m)++[Value.int i64 3,Value.slice none 0 0]++List.drop (k * 2+2) (List.flatMap Bl.cs m)=(m.set k ⟨3,none,0,[]⟩).flatMap Bl.cs from w1]
    have jDW:=fin ⟨3,none,0,[]⟩ z0 (.inl ⟨rfl,rfl⟩) (fun y _=>nJ rfl)
    exact At.mk ⟨rfl,L9.upd og hFg hg0,0,⟨true,0,0,0⟩,7,0,some ⟨g,0,none⟩,c,m.set k ⟨3,none,0,[]⟩,(by simp only [go_sem, *] <;> rfl),(by simp only [go_sem, *] <;> rfl),by rw [aZ]; exact (by simp only [go_sem, *] <;> rfl),(by simp only [go_sem, *] <;> rfl),by rw [Hp.qK xDQ]; exact yJZ,fun h=>absurd rfl h,fun _=>⟨hRR,hfit,jDW,by decide,qQF hc (by have:=jI p; omega),by decide,by decide⟩⟩
   ·-- it comes
    have hfit:∀(a2:Option Addr) (c2:Nat),iP p (m.set k ⟨1,a2,c2,List.replicate (nP (yK p) k).toNat ⟨0,0,0,0,0⟩⟩):=fun a2 c2=>by
     have:=xZ jDQ (b:=k) (by omega) hkm (st:=1) (l:=List.replicate (nP (yK p) k).toNat ⟨0,0,0,0,0⟩) (.inl ⟨rfl,rfl⟩) hsz2
     unfold setB at this; rw [aB] at this
     have:=wVG this
     rw [qXE] at this
     exact oG (by rw [qXE]; exact this)
    have hRR:∀(a2:Option Addr) (c2:Nat),R=qQW p s.q (kD (m.set k ⟨1,a2,c2,List.replicate (nP (yK p) k).toNat ⟨0,0,0,0,0⟩⟩)) to 7 ⟨true,0,k,0⟩ 0:=fun a2 c2=>by
     rw [<-hR,hcv,qXE]
     unfold Go.Ax.mV setB
     rw [hcv,if_pos rfl,if_pos rfl,aB]; rfl
    rw [hcm] at hcv
    obtain ⟨nb,no,ncs,hna,hnb,nd⟩:=Ax.gW (hp.news M9 L9.old) hj
    have hj0:(0:Int)<=j:=by omega
    have hj1:(j:Int) < p.news.length:=by omega
    obtain ⟨w,hw⟩:=aG (show 0<=p.news[j] by rw [<-hsz]; exact hsz2.1)
    rw [hsz,hw,aB] at hRR hfit
    rw [hsz,hw] at hsz2
    rw [hw] at nd
    have kf:=k29 F M9 w (by omega)
    by_cases hn0:t.ns=[]
    focus
     have cl:(t.ns.length:Int)=0:=by rw [hn0]; rfl
     simp only [go_sem,b4,b6,b7,hk,hk0,hk1,hbb,aB,aY,aK,d2,wYA,cl,ej1,ej2,hna,hj0,hj1,hnb,nd]
    rotate_left
    focus
     have cl:¬(t.ns.length:Int)=0:=fun h=>hn0 (List.length_eq_zero_iff.1 (by omega))
     have c2:rF t.ns j % 2=1:=by simpa [hn0] using hcv
     simp only [go_sem,b4,b6,b7,hk,hk0,hk1,hbb,aB,aY,aK,d2,wYA,cl,ej1,ej2]
     with_reducible refine qQ kpk ?_
     simp only [go_sem,jHE,c2,b4,b6,hk,aB,aY,ej1,ej2,hna,hj0,hj1,hnb,nd]
    all_goals
     with_reducible refine wW kf ?_
     rintro u F' M10 hr
     have hown:=hr.own
     have vKY:∀g' n' c',u=.slice (some ⟨g',0,none⟩) n' c'->M9 g'=none:=fun g' n' c' e=>by
      obtain ⟨_,hr⟩:=hr
      rcases hr with ⟨_,h1,_⟩ | ⟨g2,cap2,_,h2,h1,_⟩
      ·rw [h1] at e; cases e
      ·rw [h1] at e; cases e; exact h2
     obtain ⟨hG,le,kq,oq,a2,c2,hu,rdq⟩:=hr.le By.len (by rw [bD]; omega)
     subst hu
     replace hG:=hG.symm
     subst hG
     refine ⟨(fun _=>le),?_⟩
     have L10:=L9.keep kq (oq L9.old)
     have uF:=kq _ _ yF
     have xDX:=kq _ _ yJZ
     have b610:=qG (F:=F) L10.f6
     have b1310:=qG (F:=F) xDX
     have vKA:=qGQ.keep kq
     have hy:=qGQ.xHF (x:=⟨1,a2,c2,List.replicate w ⟨0,0,0,0,0⟩⟩) (fun g' e=>vKY g' _ _ (by rw [show a2=some ⟨g',0,none⟩ from e]))
     obtain ⟨g2,cap2,e1,_,e3,xDZ⟩:=vKA.put (by decide) hkm hown hy
     injection e1 with e1
     injection e1 with e1
     subst e1
     rw [uF] at e3
     injection e3 with e3
     injection e3 with _ _ e3
     rw [<-e3] at xDZ
     have w1:=iC (sz:=2) (f:=Bl.cs) Bl.len ⟨1,a2,c2,List.replicate w ⟨0,0,0,0,0⟩⟩ m k hkm
     simp only [setH,go_sem,hk0,hk1,uF,w2,aB,aY]
     rw [show List.take (k * 2) (List.flatMap Bl.cs m)++[Value.int i64 1,Value.slice a2 (List.replicate w (⟨0,0,0,0,0⟩:By)).length c2]++List.drop (k * 2+2) (List.flatMap Bl.cs m)=(m.set k ⟨1,a2,c2,List.replicate w ⟨0,0,0,0,0⟩⟩).flatMap Bl.cs from w1]
     have L11:=L10.upd (e:=⟨(m.set k ⟨1,a2,c2,List.replicate w ⟨0,0,0,0,0⟩⟩).flatMap Bl.cs,86,cap * 2⟩) og hFg hg0
     have xDK:(M10.upd g ⟨(m.set k ⟨1,a2,c2,List.replicate w ⟨0,0,0,0,0⟩⟩).flatMap Bl.cs,86,cap * 2⟩) r13=some ⟨(Sc.mk true 0 0 0).cs,90,4⟩:=by rw [Hp.qK xDQ]; exact xDX
     generalize M10.upd g ⟨(m.set k ⟨1,a2,c2,List.replicate w ⟨0,0,0,0,0⟩⟩).flatMap Bl.cs,86,cap * 2⟩=M11 at *
     have dZY:=qG (F:=F) L11.f6
     simp only [setH,go_sem,dZY,hk,xDK]
     exact At.mk ⟨rfl,L11.upd o13 yQZ n13,0,⟨true,0,k,0⟩,7,0,some ⟨g,0,none⟩,c,m.set k ⟨1,a2,c2,List.replicate w ⟨0,0,0,0,0⟩⟩,(by simp only [go_sem, *] <;> rfl),(by simp only [go_sem, *] <;> rfl),by rw [aZ]; exact (by simp only [go_sem, *] <;> rfl),(by simp only [go_sem, *] <;> rfl),Hp.qV _ _ _,fun h=>absurd rfl h,fun _=>⟨hRR a2 c2,hfit a2 c2,oH xDZ xDK (by decide) (by decide),by decide,qQF hc (by have:=jI p; omega),by decide,by decide⟩⟩
 rintro σ' F' M9 hst ⟨hG,L9,bad,v,k,rd,a',c',m1,q11,q12,q14,q15,yJZ,hb1,hb2⟩
 subst hG
 have q4:=hst 4 rfl
 have q5:=hst 5 rfl
 have q8:=hst 8 rfl
 have q10:=hst 10 rfl
 have q13:=hst 13 rfl
 simp only [go_sem] at q4 q5 q8 q10 q13
 clear hst
 have b4:=qG (F:=F) L9.f4
 have b5:=qG (F:=F) L9.f5
 have b10:=qG (F:=F) L9.f10
 have b13:=qG (F:=F) yJZ
 have g8:=L9.f8
 by_cases hbad:bad=0
 rotate_left
 ·have:=hb1 hbad
  subst this
  simp only [setH,go_sem,q5,q8,q11,hbad,b5,g8]
  exact qX (L9.kp.new n8) ⟨rfl,Keep.refl _,hold,s,rfl,rfl,hs⟩
 subst hbad
 obtain ⟨hRq,xJG,qGQ,hk,hgv,rd0,rd1⟩:=hb2 rfl
 have hml:m1.length<=1000:=by
  have:=xJG.len
  have:=yH hc
  omega
 obtain ⟨o1,o2,_,_⟩:=qGQ.rd (by omega) (fun y hy=>by obtain ⟨i',hi',rfl⟩:=bZ hy; have:=(xJG.bytes i' hi').2.2.2; omega)
 have kst:=vKH F M9 p k v a' c' m1 to o1 o2 L9.old hc xJG hk evg
 simp only [go_sem,q4,q10,q11,q12,q13,q14,b4,b10,b13]
 with_reducible refine wW kst ?_
 rintro u F' M10 ⟨hG,pO,uS,a2,c2,m2,rfl,jDW,hset⟩
 replace hG:=hG.symm
 subst hG
 refine ⟨(fun h=>by cases h),?_⟩
 unfold qQW at hRq
 rw [wWW] at hRq
 have L10:=L9.keep pO uS
 have dZA:=qG (F:=F) L10.f5
 have gQF:=L10.f5
 have vKB:=L10.f8
 clear b4 b5 b10 b13 g8 kst
 generalize hwv:pV m1 (yJ p.ptr k) to=wv at *
 by_cases hw:wv=0
 rotate_left
 ·rw [if_neg hw] at hRq
  simp only [setH,go_sem,q5,q8,hw,dZA,vKB]
  exact qX (L10.kp.new n8) ⟨rfl,Keep.refl _,hold,s,by rw [hRq],by rw [hRq],hs⟩
 rw [if_pos hw] at hRq
 replace hset:=hset hw
 subst hw
 have hin:=hq.inp
 have ei:i64.wrap (s.inp+rd)=s.inp+rd:=dQ (by have:0<=s.inp:=hin.1; omega) (by have:s.inp<=n:=hin.2; omega)
 have eC:Value.slice a2 m2.length c2 :: List.drop 1 s.cs=(⟨a2,c2,m2,s.dV,s.dD,s.next,s.inp,s.p,s.w⟩:dM).cs:=rfl
 have eC2:List.take 2 (⟨a2,c2,m2,s.dV,s.dD,s.next,s.inp,s.p,s.w⟩:dM).cs++[Value.int .i64 (s.inp+rd)]++List.drop 3 (⟨a2,c2,m2,s.dV,s.dD,s.next,s.inp,s.p,s.w⟩:dM).cs=(⟨a2,c2,m2,s.dV,s.dD,s.next,s.inp+rd,s.p,s.w⟩:dM).cs:=rfl
 simp only [setH,Hp.wZ,go_sem,q5,q8,q15,gQF,vKB,eC,ei,eC2,d58]
 have kpE:∀e1 e2,Keep M ((M10.upd r5 e1).upd r8 e2):=fun e1 e2=>(L10.kp.new n5).new n8
 have oE:∀e1 e2,Old F ((M10.upd r5 e1).upd r8 e2):=fun e1 e2=>(L10.old.upd lM).upd hF8
 have gWW:∀e1 e2,fH 86 88 F ((M10.upd r5 e1).upd r8 e2) a2 c2 m2:=fun e1 e2=>by
  have h1:=oH jDW gQF (e:=e1) (by decide) (by decide)
  exact oH h1 (show (M10.upd r5 e1) r8=some ⟨_,57,5⟩ by rw [Hp.qK dZV]; exact vKB) (by decide) (by decide)
 have xDV:iP p m2:=oG (by rw [hset]; exact yHK hc (wVG xJG) hk evg (by rw [wWW]; exact hwv) hgv)
 obtain ⟨p1,p2,p3,p4⟩:=(gWW _ _).rd (by have:=xDV.len; have:=yH hc; omega) (fun y hy=>by obtain ⟨i',hi',rfl⟩:=bZ hy; have:=(xDV.bytes i' hi').2.2.2; omega)
 refine qW ⟨rfl,kpE _ _,oE _ _,⟨a2,c2,m2,s.dV,s.dD,s.next,s.inp+rd,s.p,s.w⟩,by rw [hRq],?_,⟨p1,p2,hs.next.keep (kpE _ _) (oE _ _),p3,hs.zero.2.1,p4⟩⟩
 rw [hRq]
 unfold dM.q
 rw [hset]
end Go.Proofs.Tryz.K
