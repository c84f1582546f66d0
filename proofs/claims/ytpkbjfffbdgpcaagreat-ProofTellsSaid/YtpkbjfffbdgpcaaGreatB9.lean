/- Parts B9: the machine's runs of small codes, contracts of functions, plain facts. -/
import Derived.Test.YtpkbjfffbdgpcaaGreatB8
open Nat renaming add_zero->aK,le_of_ble_eq_true->aA,zero_add->aY,zero_mul->dX
open Int renaming eq_ofNat_of_zero_le->aG,toNat_natCast->aB
open Bool renaming false_ne_true->bK
open List renaming all_eq_false->dP,all_eq_true->bW,append_assoc->fG,append_nil->fA,drop_eq_getElem_cons->dH,drop_eq_nil_of_le->dL,eq_of_mem_replicate->dK,getElem_mem->aH,getElem_of_mem->bZ,length_append->aO,length_map->bJ,length_replicate->bD,length_set->aZ,length_singleton->bM,length_take->dW,map_append->bP,mem_append->aW,mem_cons->aQ,mem_singleton->aX,not_mem_nil->aV,take_of_length_le->aJ,take_succ_eq_append_getElem->aF
open Option renaming map_some->cZ
open Go.Proofs.Tryz
open Go.IntKind (i64)
set_option linter.unusedVariables false
set_option linter.unusedSimpArgs false
set_option maxRecDepth 100000
set_option maxHeartbeats 2000000
namespace Go.Proofs.Tryz.K
open Go Go.Ax Go.Proofs.Tryz.S
set_option maxRecDepth 100000
set_option linter.unusedSimpArgs false
set_option linter.unusedVariables false
set_option maxHeartbeats 2000000
variable (F:Fz) (M:Hp)
theorem wKH {F:Fz}{M:Hp}{s:dM}{ti:TypeId}(h:fH 86 88 F M s.bG s.bV s.blocks)(hn:gQ 1 fV ti F M (.slice s.dV s.next.length s.dD) s.next)
  (h1:s.blocks.length<=1000000)(h2:∀y∈s.blocks,y.l.length<=1000000)(h3:s.next.length<=1000000):s.rd F M:=by
 obtain ⟨o1,o2,o3,o4⟩:=h.rd h1 h2;refine ⟨o1,o2,hn.rd wJ (by omega),o3,?_,o4⟩;intro e;rcases hn with ⟨h1,_⟩ | ⟨g,cap,h1,_⟩
 ·injection h1
 ·injection h1 with h1; rw [e] at h1; cases h1
theorem vU {α:Type}{sz:Nat}{f:α->List Value}{e:TypeId}{F:Fz}{N M':Hp}{v:Value}{l:List α}(h:yW sz f e F N M' v l)(kp:Keep N M') :
  ∃A,Keep N A/\Keep A M'/\(Old F N->Old F A)/\gQ sz f e F A v l/\∀r x,N r=none->M' r=some x->¬x.elem=e->A r=none:=by
 rcases h.own with ⟨h1,h2⟩ | ⟨g,cap,h1,h2,h3,h4,h5⟩
 ·exact ⟨N,Keep.refl _,kp,id,.inl ⟨h1,h2⟩,fun r x h _ _=>h⟩
 ·have hg:N g=none:=h.new g _ _ h1;refine ⟨N.upd g ⟨l.flatMap f,e,cap * sz⟩,(Keep.refl _).new hg,fun b y hb=>?_,fun o=>o.upd h2,.inr ⟨g,cap,h1,h2,Hp.qV _ _ _,h4,h5⟩,fun r x hr hx hne=>?_⟩
  ·by_cases hbg:b=g
   ·subst hbg; rw [Hp.qV] at hb; rw [<-hb]; exact h3
   ·rw [Hp.qK hbg] at hb; exact kp _ _ hb
  ·have:¬r=g:=by rintro rfl; rw [h3] at hx; injection hx with hx; exact hne (by rw [<-hx])
   rw [Hp.qK this]; exact hr
def yHJ (q:Qs)(F:Fz)(M:Hp)(u:Value)(F':Fz)(M':Hp):Prop:=F'=F/\Keep M M'/\Old F M'/\∃s':dM,u=s'.val/\s'.q=q/\s'.rd F M'
structure StM (p:Pg)(x:Sm)(t:Sr)(r3 r5 r6 r8:Nat)(F0:Fz)(M0 M:Hp):Prop where
 kp:Keep M0 M
 old:Old F0 M
 f3:M r3=some ⟨p.cs,43,7⟩
 f5:M r5=some ⟨t.cs,64,2⟩
 f6:M r6=some ⟨[.slice none 0 0,.slice none 0 0,.int .i64 0,.int .i64 0,.int .i64 0],57,5⟩
 f8:M r8=some ⟨x.cs,80,7⟩
section
variable {p:Pg} {x:Sm} {t:Sr} {r3 r5 r6 r8 r:Nat} {F0:Fz} {M0 M1 M2:Hp}
end
theorem k43 (p:Pg)(s:dM)(t:Sr)(n:Nat)(hp:p.rd F)(hs:s.rd F M)(ht:t.rd F M)(hold:Old F M)(hc:wY p=true)(hq:OkQ p s.q n)(hn:n<=1000)(htl:t.rs.length<=100000/\t.ns.length<=100000) :
  aI prog 43 [p.val,s.val,t.val] F M (yHJ (rV p t.rs t.ns s.q) F M):=by
 obtain ⟨_,hm1,hm2⟩:=fH.small hq rfl hc
 have hlen:s.next.length<=41 * (n+1):=hq.len
 refine qZ hm func43 e43 (aA rfl) ?_
 simp only [c43,go_sem]
 intro r3 hF3 dN
 generalize eQ:M.upd r3 ⟨p.cs,43,7⟩=M1 at *
 obtain ⟨fC,dA,f3⟩:=nw eQ hold hF3 dN
 clear eQ
 simp only [go_sem]
 intro r4 mW jP
 have n4:M r4=none:=fC.free jP
 generalize eQ:M1.upd r4 ⟨s.cs,57,5⟩=M2 at *
 obtain ⟨jA,fP,f4⟩:=nw eQ dA mW jP
 clear eQ
 have d43:=(qJ jP f3).1
 simp only [go_sem]
 intro r5 lM gU
 have d54:=(qJ gU f4).2
 generalize eQ:M2.upd r5 ⟨t.cs,64,2⟩=M3 at *
 obtain ⟨eH,dB,f5⟩:=nw eQ fP lM gU
 clear eQ
 simp only [go_sem]
 intro r6 vI oI
 have n6:M r6=none:=((fC.trans jA).trans eH).free oI
 have d64:=(qJ oI (eH _ _ f4)).2
 have d46:=(qJ oI (eH _ _ f4)).1
 generalize eQ:M3.upd r6 ⟨[.slice none 0 0,.slice none 0 0,.int .i64 0,.int .i64 0,.int .i64 0],57,5⟩=M4 at *
 obtain ⟨iZ,eG,f6⟩:=nw eQ dB vI oI
 clear eQ
 have kp:=((fC.trans jA).trans eH).trans iZ
 have g3:=iZ _ _ (eH _ _ (jA _ _ f3))
 have g4:=iZ _ _ (eH _ _ f4)
 have g5:=iZ _ _ f5
 clear fC jA eH iZ dA fP dB dN jP gU oI f3 f4 f5 hF3 lM
 have b4:=qG (F:=F) g4
 have kc:=aI.part kp eG (show aI prog 82 [s.val] F M (Makes F M fun u M'=>∃s':dM,u=s'.val/\s'.blocks.map zZ=s.blocks.map zZ/\s'.next=s.next/\s'.inp=s.inp/\s'.p=s.p/\s'.w=s.w/\
  fH 86 88 F M' s'.bG s'.bV s'.blocks/\gQ 1 fV 3 F M' (.slice s'.dV s'.next.length s'.dD) s'.next/\∀g,s'.bG=some ⟨g,0,none⟩->M g=none) from k82 F M s hs hold (by omega) (fun y hy=>by have:=hm2 y hy; omega))
 simp only [go_sem,b4]
 with_reducible refine wW kc ?_
 rintro u F' M5 ⟨hG,eH,dB,N,kN,oN,kNM,hNo,s1,rfl,hbk,e1,e2,e3,e4,own,xJV,hnew⟩
 replace hG:=hG.symm
 subst hG
 refine ⟨(fun h=>by cases h),?_⟩
 have hq1:s1.q=s.q:=by unfold dM.q; rw [xHE.1 hbk,e1,e2,e3,e4]
 have N4:N r4=none:=hNo r4 (by rw [g4]; simp) n4
 have N6:N r6=none:=hNo r6 (by rw [f6]; simp) n6
 have k3:=eH _ _ g3
 have k4:=eH _ _ g4
 have k5:=eH _ _ g5
 have k6:=eH _ _ f6
 rw [<-hq1] at hq ⊢
 have hlen1:s1.next.length<=41 * (n+1):=hq.len
 have kpM:=kp.trans eH
 clear hs hm1 hm2 hlen hbk e1 e2 e3 e4 hq1 kc b4 g3 g4 g5 f6 kp eH eG
 simp only [setH,go_sem,k4]
 have f3:(M5.upd r4 ⟨s1.cs,57,5⟩) r3=some ⟨p.cs,43,7⟩:=by rw [Hp.qK d43]; exact k3
 have f5:(M5.upd r4 ⟨s1.cs,57,5⟩) r5=some ⟨t.cs,64,2⟩:=by rw [Hp.qK d54]; exact k5
 have f6:(M5.upd r4 ⟨s1.cs,57,5⟩) r6=some ⟨[.slice none 0 0,.slice none 0 0,.int .i64 0,.int .i64 0,.int .i64 0],57,5⟩:=by rw [Hp.qK d64]; exact k6
 have f4:(M5.upd r4 ⟨s1.cs,57,5⟩) r4=some ⟨s1.cs,57,5⟩:=Hp.qV _ _ _
 have iZ:Keep N (M5.upd r4 ⟨s1.cs,57,5⟩):=kNM.new N4
 have eG:Old F (M5.upd r4 ⟨s1.cs,57,5⟩):=dB.upd mW
 generalize M5.upd r4 ⟨s1.cs,57,5⟩=M6 at *
 clear k3 k4 k5 k6 kpM dB
 obtain ⟨_,hm1,hm2⟩:=fH.small hq rfl hc
 have hfm:iP p s1.blocks:=oG hq.fit
 have rdN:s1.rd F N:=wKH own xJV (by omega) (fun y hy=>by have:=hm2 y hy; omega) (by omega)
 have b3:=qG (F:=F) f3
 have b4:=qG (F:=F) f4
 have ez:Value.agg #[.int .i64 0,.int .i64 0]=(⟨0,0⟩:Al).val:=rfl
 have dd:(s1.next.length:Int)=0↔s1.next.length=0:=by omega
  -- has it ended?
 by_cases h0:(s1.next.length:Int)=0
 ·have hR:rV p t.rs t.ns s1.q=s1.q:=by unfold rV; rw [if_pos (by unfold wB; simp [dM.q,dd.1 h0])]
  rw [hR]
  simp only [setH,go_sem,b4,h0,f6]
  exact qX (iZ.new N6) ⟨rfl,kN,oN,s1,rfl,rfl,rdN⟩
 by_cases h1:(⟨s1.p,s1.w⟩:Al)=⟨0,0⟩
 rotate_left
 ·have hR:rV p t.rs t.ns s1.q=s1.q:=by
   have:¬(s1.p=0/\s1.w=0):=fun h=>h1 (by rw [h.1,h.2])
   unfold rV; rw [if_pos (by unfold wB; rw [decide_eq_false (show ¬(s1.q.p=0/\s1.q.w=0) from this)]; simp)]
  rw [hR]
  simp only [setH,go_sem,b4,h0,h1,ez,f6]
  exact qX (iZ.new N6) ⟨rfl,kN,oN,s1,rfl,rfl,rdN⟩
 have hend:wB s1.q=false:=by
  injection h1 with h1 h2
  unfold wB; simp [dM.q,h1,h2]; intro h; exact h0 (dd.2 (by rw [h]; rfl))
 obtain ⟨it,rest,hnx,hp0,hw0⟩:=wWK hend
 have hit:=hq.next it (by rw [hnx]; exact List.mem_cons_self)
 obtain ⟨i,rfl⟩:=aG hit.1
 have hi:i < p.stmts.length:=by omega
 rw [step_eq hend hnx,wWZ hi]
 have hst:=qKD (xY hc hi)
 have hbo:=qVB hc hi
 have hqt:=hq.tail hnx
 have hnx:s1.next=(i:Int) :: rest:=hnx
 have rd6:=rdN.keep iZ eG
 obtain ⟨nb,no,ncs,hna,hnb,nd⟩:=Ax.gW rd6.next (i:=0) (by rw [hnx]; simp)
 simp only [hnx,List.getElem_cons_zero,dX,aK] at nd
 have nd':ncs[no+0]? = some (.int .i64 (i:Int)):=nd
 generalize hxe:p.stmts[i]=x at *
 generalize hRd:doQ p t.rs t.ns (i:Int) x ⟨s1.q.m,rest,s1.q.inp,s1.q.p,s1.q.w⟩=R
 have hpos:(0:Int) < s1.next.length:=by omega
 have gWX:(1:Int)<=s1.next.length:=by omega
 have gWZ:s1.next.length<=s1.dD:=by
  obtain ⟨_,ad,cap,hc',e,_⟩:=rdN.next
  injection e with _ _ e; omega
 have gWK:(s1.next.length:Int)<=s1.dD:=by omega
 simp only [setH,go_sem,b4,h0,h1,ez,hna,hnb,nd',hpos,gWX,f4]
  -- the state without its first
 have hrl:rest.length=s1.next.length - 1:=by rw [hnx]; simp
 have hdr:(s1.next.drop 1).take rest.length=rest:=by rw [hnx]; simp
 have jDX:∀M',gQ 1 fV 3 F M' (.slice s1.dV s1.next.length s1.dD) s1.next->dF 1 fV F M' (.slice (if (s1.dD:Int)=1 then some ⟨nb,no,none⟩ else some ⟨nb,no+1,none⟩) rest.length (s1.dD - 1)) rest:=fun M' ho=>by
  have hcut:=dF.cut (ho.rd wJ (by omega)) (lo:=1) (n:=rest.length) (by omega)
  rw [hdr,hna] at hcut
  simp only [cZ,Addr.add,Nat.mul_one,Int.natCast_one] at hcut
  exact hcut
 have hcut:=jDX N xJV
 generalize hs2:(⟨s1.bG,s1.bV,s1.blocks,if (s1.dD:Int)=1 then some ⟨nb,no,none⟩ else some ⟨nb,no+1,none⟩,s1.dD - 1,rest,s1.inp,s1.p,s1.w⟩:dM)=s2
 have ec:List.take 1 s1.cs++[Value.slice (if (s1.dD:Int)=1 then some ⟨nb,no,none⟩ else some ⟨nb,no+1,none⟩) (s1.next.length - 1) (s1.dD - 1)]++List.drop 2 s1.cs=s2.cs:=by
  rw [<-hs2,<-hrl]; rfl
 have rd2:s2.rd F N:=by
  rw [<-hs2]
  refine ⟨rdN.blocks,rdN.bytes,hcut,rdN.zero.1,fun e=>?_,rdN.zero.2.2⟩
  simp only at e; split at e <;> cases e
 have hnx2:∀M',(∀r x,N r=some x->¬x.elem=(86:Nat)->M' r=some x)->dF 1 fV F M' (.slice s2.dV s2.next.length s2.dD) s2.next:=fun M' fr=>by
  rw [<-hs2]; exact jDX M' (xJV.frame fr (by decide))
 have q2:s2.q=⟨s1.q.m,rest,s1.q.inp,s1.q.p,s1.q.w⟩:=by rw [<-hs2]; rfl
 have jKE:fH 86 88 F N s2.bG s2.bV s2.blocks:=by rw [<-hs2]; exact own
 have hnew2:∀g,s2.bG=some ⟨g,0,none⟩->M g=none:=by rw [<-hs2]; exact hnew
 rw [<-q2] at hRd hqt
 rw [ec]
 clear hs2 ec hdr hcut jDX rd6 hna hnb nd nd' own xJV hnew gWK gWZ b4 hm1 hm2 hfm rdN
 have f3':(M6.upd r4 ⟨s2.cs,57,5⟩) r3=some ⟨p.cs,43,7⟩:=by rw [Hp.qK d43]; exact f3
 have f5':(M6.upd r4 ⟨s2.cs,57,5⟩) r5=some ⟨t.cs,64,2⟩:=by rw [Hp.qK d54]; exact f5
 have f6':(M6.upd r4 ⟨s2.cs,57,5⟩) r6=some ⟨[.slice none 0 0,.slice none 0 0,.int .i64 0,.int .i64 0,.int .i64 0],57,5⟩:=by rw [Hp.qK d64]; exact f6
 have f4':(M6.upd r4 ⟨s2.cs,57,5⟩) r4=some ⟨s2.cs,57,5⟩:=Hp.qV _ _ _
 have lY:Keep N (M6.upd r4 ⟨s2.cs,57,5⟩):=iZ.new N4
 have iO:Old F (M6.upd r4 ⟨s2.cs,57,5⟩):=eG.upd mW
 generalize M6.upd r4 ⟨s2.cs,57,5⟩=M7 at *
 clear f3 f5 f6 f4 iZ eG b3
 have b3:=qG (F:=F) f3'
 have b4:=qG (F:=F) f4'
 have b5:=qG (F:=F) f5'
 obtain ⟨sb,so,scs,hsa,hsb,gWJ⟩:=(hp.stmts M7 iO).rows (by omega)
 obtain ⟨sd1,sd2⟩:=gWJ i hi
 have hx:p.stmts[i]=x:=hxe
 rw [hx] at sd2
 clear gWJ
 have hi0:(0:Int)<=i:=by omega
 have hi1:(i:Int) < p.stmts.length:=by omega
 simp only [go_sem,b3,hsa,hi0,hi1,aB,aK,hsb,sd1,sd2]
 intro r8 hF8 rQ
 have N8:N r8=none:=lY.free rQ
 have n8:M r8=none:=kN.free N8
 have S8:StM p x t r3 r5 r6 r8 F M (M7.upd r8 ⟨x.cs,80,7⟩):=
  ⟨(kN.trans lY).new n8,iO.upd hF8,by rw [Hp.qK (qJ rQ f3').1]; exact f3',by rw [Hp.qK (qJ rQ f5').1]; exact f5',by rw [Hp.qK (qJ rQ f6').1]; exact f6',Hp.qV _ _ _⟩
 have d48:=(qJ rQ f4').1
 have f4:(M7.upd r8 ⟨x.cs,80,7⟩) r4=some ⟨s2.cs,57,5⟩:=by rw [Hp.qK d48]; exact f4'
 have nU:Keep N (M7.upd r8 ⟨x.cs,80,7⟩):=lY.new N8
 have iE:=S8.old
 have g6:=S8.f6
 have b8:=qG (F:=F) S8.f8
 have b3:=qG (F:=F) S8.f3
 have b4:=qG (F:=F) f4
 have b5:=qG (F:=F) S8.f5
 generalize hW:(if R.2=0 then R.1 else (⟨R.1.m,R.1.next,R.1.inp,i,R.2⟩:Qs))=Wq
 have fin0:R.2=0->∀(s9:dM) (A M':Hp),s9.q=R.1->s9.rd F A->Keep M A->Old F A->Keep A M'->lK F M' (yHJ Wq F M) s9.val:=fun h0 s9 A M' hs9 rd9 kA oA kAM=>by
  rw [<-hW,if_pos h0]
  exact qX kAM ⟨rfl,kA,oA,s9,rfl,hs9,rd9⟩
 have fin1:∀w:Int,R.2=w->¬w=0->∀(s9:dM) (A M':Hp),s9.q=R.1->s9.rd F A->Keep M A->Old F A->Keep A M'->lK F M' (yHJ Wq F M) (⟨s9.bG,s9.bV,s9.blocks,s9.dV,s9.dD,s9.next,s9.inp,i,w⟩:dM).val:=fun w h1 h0 s9 A M' hs9 rd9 kA oA kAM=>by
  rw [<-hW,h1,if_neg h0]
  exact qX kAM ⟨rfl,kA,oA,⟨s9.bG,s9.bV,s9.blocks,s9.dV,s9.dD,s9.next,s9.inp,i,w⟩,rfl,by rw [<-hs9]; rfl,⟨rd9.blocks,rd9.bytes,rd9.next,rd9.zero⟩⟩
 have hec:∀(s9:dM) (w:Int),List.take 3 s9.cs++[Value.int .i64 (i:Int),Value.int .i64 w]=(⟨s9.bG,s9.bV,s9.blocks,s9.dV,s9.dD,s9.next,s9.inp,i,w⟩:dM).cs:=fun s9 w=>rfl
 obtain ⟨hop1,hop7,sF,_,_,_⟩:=hst
 by_cases gWG:x.op=1\/x.op=2\/x.op=3
 ·-- what is laid
  have hkl:=k83 F N p s2 i x t n hp rd2 (ht.keep kN oN) oN hc hi hxe hqt gWG hn htl
  have hRl:(if (lJ p s2.q.m x.to).2=0 then opQ p t.rs t.ns i x (lJ p s2.q.m x.to).1 s2.q else (s2.q,(lJ p s2.q.m x.to).2))=R:=by
   rw [<-hRd]; unfold doQ; rw [if_neg (show ¬x.op=7 by omega),show zA x=x.to from if_pos (by omega)]
  rw [hRl] at hkl
  have kl:=aI.part nU (by simpa only [] using iE) (show aI prog 83 [p.val,s2.val,x.val,t.val] F N (Makes F N fun u M'=>∃s':dM,u=.tuple #[s'.val,.int .i64 R.2]/\s'.q=R.1/\s'.rd F M') from hkl)
  simp only [setH,Hp.wZ,go_sem]
  generalize M7.upd r8 ⟨x.cs,80,7⟩=M8 at *
  rcases gWG with h | h | h
  all_goals
   simp only [go_sem,b8,b3,b4,b5,h]
   with_reducible refine wW kl ?_
   rintro u F' M9 ⟨hG,xE,mZ,N9,kN9,oN9,gWV,gWH,s9,rfl,hs9,rd9⟩
   replace hG:=hG.symm
   subst hG
   refine ⟨(fun h=>by cases h),?_⟩
   have N94:N9 r4=none:=gWH r4 (by rw [f4]; simp) N4
   have N96:N9 r6=none:=gWH r6 (by rw [g6]; simp) N6
   have k4:=xE _ _ f4
   have k6:=xE _ _ g6
   by_cases hbad:R.2=0
   ·simp only [setH,go_sem,hbad,k4,k6,d64]
    exact fin0 hbad s9 N9 _ hs9 rd9 (kN.trans kN9) oN9 ((gWV.new N94).new N96)
   ·simp only [setH,Hp.wZ,go_sem,hbad,k4,k6,d64,hec,fA]
    exact fin1 _ rfl hbad s9 N9 _ hs9 rd9 (kN.trans kN9) oN9 ((gWV.new N94).new N96)
 by_cases h7:x.op=7
 ·-- the end
  have hR7:R=(⟨s2.q.m,[],s2.q.inp,s2.q.p,s2.q.w⟩,0):=by rw [<-hRd]; unfold doQ; rw [if_pos h7]
  have h0:R.2=0:=by rw [hR7]
  have ec:List.take 1 s2.cs++[Value.slice none 0 0]++List.drop 2 s2.cs=(⟨s2.bG,s2.bV,s2.blocks,none,0,[],s2.inp,s2.p,s2.w⟩:dM).cs:=rfl
  simp only [setH,Hp.wZ,go_sem]
  generalize M7.upd r8 ⟨x.cs,80,7⟩=M8 at *
  simp only [setH,go_sem,h7,f4,g6,ec,d64]
  exact fin0 h0 ⟨s2.bG,s2.bV,s2.blocks,none,0,[],s2.inp,s2.p,s2.w⟩ N _ (by rw [hR7]; rfl) ⟨rd2.blocks,rd2.bytes,jX,rd2.zero.1,fun _=>rfl,rd2.zero.2.2⟩ kN oN ((nU.new N4).new N6)
 have sF:=sF h7
 obtain ⟨en,hen,en1,_⟩:=qJF sF
 have yJK:iP p s2.blocks:=oG hqt.fit
 have evg:=fun h0=>yQG hc yJK sF h0
 have hfe:zA x=x.e:=if_neg (by omega)
 rw [hfe] at hen evg
 have hRe:R=if (lJ p s2.blocks (en:Int)).2=0 then opQ p t.rs t.ns i x (lJ p s2.blocks (en:Int)).1 s2.q else (s2.q,(lJ p s2.blocks (en:Int)).2):=by
  rw [<-hRd]; unfold doQ
  rw [if_neg h7,hfe,hen,show lJ p s2.q.m (en:Int)=lJ p s2.blocks (en:Int) from yHZ _ _ _]
 rw [hen] at evg
 have rd8:=rd2.keep nU iE
 have ke:=k84 F _ p s2.bG s2.bV s2.blocks en hp rd8.blocks rd8.bytes iE hc yJK en1
 generalize lJ p s2.blocks (en:Int)=r0 at *
 obtain ⟨v,bad⟩:=r0
 simp only at hRe evg
 simp only [setH,Hp.wZ,go_sem]
 generalize M7.upd r8 ⟨x.cs,80,7⟩=M8 at *
 by_cases h4:x.op=4
 ·-- SFree
  simp only [go_sem,b8,b3,b4,h4,hen]
  with_reducible refine qQ ke ?_
  simp only [go_sem]
  intro r10 qJG uF
  have N10:N r10=none:=nU.free uF
  have gWD:=(qJ uF f4).1
  have gWY:=(qJ uF g6).1
  have gWA:=(qJ uF S8.f3).1
  have f4':(M8.upd r10 ⟨v.cs,90,4⟩) r4=some ⟨s2.cs,57,5⟩:=by rw [Hp.qK gWD]; exact f4
  have g6':(M8.upd r10 ⟨v.cs,90,4⟩) r6=some ⟨[.slice none 0 0,.slice none 0 0,.int .i64 0,.int .i64 0,.int .i64 0],57,5⟩:=by rw [Hp.qK gWY]; exact g6
  have f3':(M8.upd r10 ⟨v.cs,90,4⟩) r3=some ⟨p.cs,43,7⟩:=by rw [Hp.qK gWA]; exact S8.f3
  have f10:(M8.upd r10 ⟨v.cs,90,4⟩) r10=some ⟨v.cs,90,4⟩:=Hp.qV _ _ _
  have pO:Keep N (M8.upd r10 ⟨v.cs,90,4⟩):=nU.new N10
  have uS:Old F (M8.upd r10 ⟨v.cs,90,4⟩):=iE.upd qJG
  simp only [setH,Hp.wZ,go_sem]
  generalize M8.upd r10 ⟨v.cs,90,4⟩=M10 at *
  have b10:=qG (F:=F) f10
  have c4:=qG (F:=F) f4'
  have c3:=qG (F:=F) f3'
  have k4:=f4'
  have k6:=g6'
  by_cases hbad:bad=0
  rotate_left
  ·rw [if_neg hbad] at hRe
   have hR2:R.2=bad:=by rw [hRe]
   simp only [setH,go_sem,hbad,k4,k6,d64,hec,fA]
   exact fin1 bad hR2 hbad s2 N _ (by rw [hRe]) rd2 kN oN ((pO.new N4).new N6)
  subst hbad
  rw [if_pos rfl] at hRe
  have hv:=evg rfl
  rw [if_pos (by omega)] at hv
  obtain ⟨vb,vo,rfl,hvb,_,_⟩:=wM hv yJK hc
  unfold opQ at hRe
  rw [if_neg (by omega),if_neg (by omega),if_neg (by omega),if_pos h4] at hRe
  by_cases hb0:vb=0
  ·rw [if_pos (by rw [hb0]; rfl)] at hRe
   simp only [setH,go_sem,hb0,k6,c4,b10,fA]
   exact fin0 (by rw [hRe]) s2 N _ (by rw [hRe]) rd2 kN oN ((pO).new N6)
  rw [if_neg (show ¬(vb:Int)=0 by omega)] at hRe
  have hlm:=yJK.len
  have dZE:=rd2.keep pO uS
  obtain ⟨bb,bo,bcs,hba,hbb,gWB⟩:=dZE.blocks.rows (by omega)
  obtain ⟨bd1,bd2⟩:=gWB vb hvb
  clear gWB
  obtain ⟨bd2,bd3⟩:=Bl.row bd2
  have vb0:(0:Int)<=vb:=by omega
  have vb1:(vb:Int) < s2.blocks.length:=by omega
  have vbp:(0:Int) < vb:=by omega
  rw [show s2.q.m=kD s2.blocks from rfl,(uT s2.blocks (vb:Int)).1,yY hvb] at hRe
  by_cases c1:(vb:Int)<=p.vars.length
  ·rw [if_pos (.inl c1)] at hRe
   simp only [setH,go_sem,vbp,c1,k4,k6,c3,b10,d64,hec,fA]
   exact fin1 10 (by rw [hRe]) (by decide) s2 N _ (by rw [hRe]) rd2 kN oN ((pO.new N4).new N6)
  by_cases c2:(s2.blocks[vb]).st=1
  rotate_left
  ·rw [if_pos (.inr (.inl c2))] at hRe
   simp only [setH,go_sem,vbp,c1,c2,vb0,vb1,hba,hbb,bd2,aB,aK,k4,k6,c3,c4,b10,d64,hec,fA]
   rw [<-hba]
   exact fin1 10 (by rw [hRe]) (by decide) s2 N _ (by rw [hRe]) rd2 kN oN ((pO.new N4).new N6)
  by_cases c3':(vo:Int)=0
  rotate_left
  ·rw [if_pos (.inr (.inr c3'))] at hRe
   simp only [setH,go_sem,vbp,c1,c2,c3',vb0,vb1,hba,hbb,bd2,aB,aK,k4,k6,c3,c4,b10,d64,hec,fA]
   rw [<-hba]
   exact fin1 10 (by rw [hRe]) (by decide) s2 N _ (by rw [hRe]) rd2 kN oN ((pO.new N4).new N6)
  rw [if_neg (fun h=>by rcases h with h | h | h; exact c1 h; exact h c2; exact h c3')] at hRe
  obtain ⟨g,cap,ea,hFg,hNg,qGQ⟩:=jKE.put (by decide) hvb (x:=⟨2,none,0,[]⟩) (.inl ⟨rfl,rfl⟩) (fun y _=>nJ rfl)
  have yF:=pO _ _ hNg
  have w1:=iC (sz:=2) (f:=Bl.cs) Bl.len ⟨2,none,0,[]⟩ s2.blocks vb hvb
  have w2:vb * 2+2<=(s2.blocks.flatMap Bl.cs).length:=by rw [yG Bl.len]; omega
  rw [hba] at ea
  injection ea with ea
  injection ea with ea eo
  subst ea eo
  simp only [aY] at bd1 bd2
  have dg4:¬bb=r4:=by rintro rfl; rw [N4] at hNg; cases hNg
  have dg6:¬bb=r6:=by rintro rfl; rw [N6] at hNg; cases hNg
  have dZF:¬r4=bb:=fun h=>dg4 h.symm
  have gWC:¬r6=bb:=fun h=>dg6 h.symm
  simp only [setH,go_sem,vbp,c1,c2,c3',vb0,vb1,hba,hbb,bd2,aB,aY,aK,k6,c3,c4,b10,yF,w2,dZF,gWC]
  rw [show List.take (vb * 2) (List.flatMap Bl.cs s2.blocks)++[Value.int i64 2,Value.slice none 0 0]++List.drop (vb * 2+2) (List.flatMap Bl.cs s2.blocks)=(s2.blocks.set vb ⟨2,none,0,[]⟩).flatMap Bl.cs from w1]
  have es:s2.val=(⟨s2.bG,s2.bV,s2.blocks.set vb ⟨2,none,0,[]⟩,s2.dV,s2.dD,s2.next,s2.inp,s2.p,s2.w⟩:dM).val:=by
   simp only [dM.val,dM.cs,aZ]
  rw [es]
  have gWE:iP p (s2.blocks.set vb ⟨2,none,0,[]⟩):=by
   have:=xZ yJK (b:=vb) (by omega) hvb (st:=2) (l:=[]) (.inr ⟨.inl rfl,rfl⟩) (jE hc _)
   unfold setB at this; rw [aB] at this; exact this
  obtain ⟨p1,p2,p3,p4⟩:=qGQ.rd (by rw [aZ]; have:=yH hc; omega) (fun y hy=>by obtain ⟨i',hi',rfl⟩:=bZ hy; have:=(gWE.bytes i' hi').2.2.2; omega)
  refine fin0 (by rw [hRe]) ⟨s2.bG,s2.bV,s2.blocks.set vb ⟨2,none,0,[]⟩,s2.dV,s2.dD,s2.next,s2.inp,s2.p,s2.w⟩ (N.upd bb ⟨(s2.blocks.set vb ⟨2,none,0,[]⟩).flatMap Bl.cs,86,cap * 2⟩) _ ?_ ⟨p1,p2,hnx2 _ (fun r' y hy hne=>?_),p3,rd2.zero.2.1,p4⟩ (kN.new (hnew2 bb hba)) (oN.upd hFg) (pO.both.new (by rw [Hp.qK gWC]; exact N6))
  ·rw [hRe]
   show (⟨kD (s2.blocks.set vb ⟨2,none,0,[]⟩),s2.next,s2.inp,s2.p,s2.w⟩:Qs)=⟨setB (kD s2.blocks) vb 2 [],s2.next,s2.inp,s2.p,s2.w⟩
   rw [qXE]; unfold setB; rw [aB]; rfl
  ·have:¬r'=bb:=by rintro rfl; rw [hNg] at hy; injection hy with hy; exact hne (by rw [<-hy])
   rw [Hp.qK this]; exact hy
  -- SIf, dKQ
 have xDH:x.op=5\/x.op=6:=by omega
 obtain ⟨hbd,hed⟩:=hp.bodies x (by rw [<-hxe]; exact aH hi) M8 iE
 have hbz:=hp.zero.2.2 x (by rw [<-hxe]; exact aH hi)
 simp only [go_sem,b8,b3,b4,h4,h7,hen,show ¬x.op=1 by omega,show ¬x.op=2 by omega,show ¬x.op=3 by omega]
 with_reducible refine qQ ke ?_
 simp only [go_sem]
 intro r12 qHV sH
 have N12:N r12=none:=nU.free sH
 have gWF:=(qJ sH f4).1
 have gXQ:=(qJ sH g6).1
 have gXW:=(qJ sH S8.f8).1
 have f4':(M8.upd r12 ⟨v.cs,90,4⟩) r4=some ⟨s2.cs,57,5⟩:=by rw [Hp.qK gWF]; exact f4
 have g6':(M8.upd r12 ⟨v.cs,90,4⟩) r6=some ⟨[.slice none 0 0,.slice none 0 0,.int .i64 0,.int .i64 0,.int .i64 0],57,5⟩:=by rw [Hp.qK gXQ]; exact g6
 have f8':(M8.upd r12 ⟨v.cs,90,4⟩) r8=some ⟨x.cs,80,7⟩:=by rw [Hp.qK gXW]; exact S8.f8
 have f12:(M8.upd r12 ⟨v.cs,90,4⟩) r12=some ⟨v.cs,90,4⟩:=Hp.qV _ _ _
 have uH:Keep N (M8.upd r12 ⟨v.cs,90,4⟩):=nU.new N12
 have nV:Old F (M8.upd r12 ⟨v.cs,90,4⟩):=iE.upd qHV
 have hbd:=hbd.new (e:=⟨v.cs,90,4⟩) qHV sH
 have hed:=hed.new (e:=⟨v.cs,90,4⟩) qHV sH
 simp only [setH,Hp.wZ,go_sem]
 generalize M8.upd r12 ⟨v.cs,90,4⟩=M12 at *
 clear b3 b4 b5 b8
 have b12:=qG (F:=F) f12
 have b4:=qG (F:=F) f4'
 have b8:=qG (F:=F) f8'
 by_cases hbad:bad=0
 rotate_left
 ·rw [if_neg hbad] at hRe
  simp only [setH,go_sem,hbad,f4',g6',d64,hec,fA]
  exact fin1 bad (by rw [hRe]) hbad s2 N _ (by rw [hRe]) rd2 kN oN ((uH.new N4).new N6)
 subst hbad
 rw [if_pos rfl] at hRe
 unfold opQ at hRe
 rw [if_neg (by omega),if_neg (by omega),if_neg (by omega),if_neg h4] at hRe
 have xDD:=rd2.keep uH nV
 have fin2:∀(M14:Hp) (v':Value) (l:List Int),yW 1 fV 3 F N M14 v' l->Keep N M14->l.length<=1000000->M14 r4=some ⟨s2.cs,57,5⟩->M14 r6=some ⟨[.slice none 0 0,.slice none 0 0,.int .i64 0,.int .i64 0,.int .i64 0],57,5⟩->
   R=(⟨s2.q.m,l,s2.q.inp,s2.q.p,s2.q.w⟩,0)->∃a' c',v'=.slice a' l.length c'/\∀e1 e2,lK F ((M14.upd r4 e1).upd r6 e2) (yHJ Wq F M) (⟨s2.bG,s2.bV,s2.blocks,a',c',l,s2.inp,s2.p,s2.w⟩:dM).val:=fun M14 v' l mine qGX hl k4 k6 hR=>by
  obtain ⟨a',c',rfl⟩:=mine.shape
  obtain ⟨A,kNA,kAM,oA,jWD,hAn⟩:=vU mine qGX
  have A4:A r4=none:=hAn r4 _ N4 k4 (show ¬(57:Nat)=3 by decide)
  have A6:A r6=none:=hAn r6 _ N6 k6 (show ¬(57:Nat)=3 by decide)
  have rdA:=rd2.keep kNA (oA oN)
  refine ⟨a',c',rfl,fun e1 e2=>fin0 (by rw [hR]) ⟨s2.bG,s2.bV,s2.blocks,a',c',l,s2.inp,s2.p,s2.w⟩ A _ (by rw [hR]; rfl) ⟨rdA.blocks,rdA.bytes,jWD.rd wJ (by show l.length<=_; omega),rd2.zero.1,fun e=>?_,rd2.zero.2.2⟩ (kN.trans kNA) (oA oN) ((kAM.new A4).new A6)⟩
  rcases jWD with ⟨h1,_⟩ | ⟨g,cap,h1,_⟩
  ·injection h1
  ·injection h1 with h1; rw [show a'=none from e] at h1; cases h1
 have vKC:∀(a':Option Addr) (c':Nat) (l:List Int),List.take 1 s2.cs++[Value.slice a' l.length c']++List.drop 2 s2.cs=(⟨s2.bG,s2.bV,s2.blocks,a',c',l,s2.inp,s2.p,s2.w⟩:dM).cs:=fun _ _ _=>rfl
 have hnl:s2.next.length<=41 * (n+1):=hqt.len
 by_cases hv0:v.n=0
 ·rw [if_pos hv0] at hRe
  have kcp:=k28 F M12 x.ea x.ec x.els hed nV (by omega)
  simp only [go_sem,b8,b12,hv0]
  with_reducible refine wW kcp ?_
  rintro u F' M13 hr
  have mine:=hr.mine uH
  obtain ⟨hG,le,kq,oq,a2,c2,hu,rdq⟩:=hr.le wJ (by omega)
  subst hu
  replace hG:=hG.symm
  subst hG
  refine ⟨(fun h=>by cases h),?_⟩
  have c8:=qG (F:=F) (kq _ _ f8')
  have c12:=qG (F:=F) (kq _ _ f12)
  have c4:=qG (F:=F) (kq _ _ f4')
  have hsrc:=dF.src wJ (xDD.next.keep kq (oq nV)) rd2.zero.2.1
  rcases xDH with h | h
  all_goals
   simp only [go_sem,c8,c12,c4,hv0,h]
   refine kU wJ kJ (by decide) mine (uH.trans kq) hsrc (by omega) ?_
   rintro v' M14 fr qGX o14 wWV
   have k4:=fr _ _ (kq _ _ f4') (by decide:¬(57:Nat)=3)
   have k6:=fr _ _ (kq _ _ g6') (by decide:¬(57:Nat)=3)
   obtain ⟨a',c',rfl,hfin⟩:=fin2 M14 v' _ wWV qGX (by rw [aO]; omega) k4 k6 hRe
   generalize x.els++s2.next=Ln at hfin ⊢
   simp only [setH,go_sem,k4,k6,d64,vKC]
   exact hfin _ _
 ·rw [if_neg hv0] at hRe
  have kcp:=k28 F M12 x.ba x.bc x.body hbd nV (by omega)
  simp only [go_sem,b8,b12,hv0]
  with_reducible refine wW kcp ?_
  rintro u F' M13 hr
  have mine:=hr.mine uH
  obtain ⟨hG,le,kq,oq,a2,c2,hu,rdq⟩:=hr.le wJ (by omega)
  subst hu
  replace hG:=hG.symm
  subst hG
  refine ⟨(fun h=>by cases h),?_⟩
  have c8:=qG (F:=F) (kq _ _ f8')
  have c12:=qG (F:=F) (kq _ _ f12)
  have c4:=qG (F:=F) (kq _ _ f4')
  rcases xDH with h | h
  ·have hsrc:=dF.src wJ (xDD.next.keep kq (oq nV)) rd2.zero.2.1
   rw [if_neg (show ¬x.op=6 by omega),fA] at hRe
   simp only [go_sem,c8,c4,h]
   refine kU wJ kJ (by decide) mine (uH.trans kq) hsrc (by omega) ?_
   rintro v' M14 fr qGX o14 wWV
   have k4:=fr _ _ (kq _ _ f4') (by decide:¬(57:Nat)=3)
   have k6:=fr _ _ (kq _ _ g6') (by decide:¬(57:Nat)=3)
   obtain ⟨a',c',rfl,hfin⟩:=fin2 M14 v' _ wWV qGX (by rw [aO]; omega) k4 k6 hRe
   generalize x.body++s2.next=Ln at hfin ⊢
   simp only [setH,go_sem,k4,k6,d64,vKC]
   exact hfin _ _
  ·rw [if_pos h] at hRe
   simp only [go_sem,c8,c12,hv0,h]
   intro rb uK lW
   simp only [go_sem]
   have Nb:N rb=none:=(uH.trans kq).free lW
   refine kU (ys:=[(i:Int)]) wJ kJ (by decide) (mine.fresh lW) ((uH.trans kq).new Nb) ⟨rfl,.inr ⟨⟨rb,0,none⟩,1,rfl,.inr ⟨rb,0,_,rfl,wH,by rfl⟩⟩⟩ (by simp; omega) ?_
   rintro v1 M14 fr qGX o14 wWV
   have yHV:=o14 ((oq nV).upd uK)
   have frb:∀r' y,M13 r'=some y->¬y.elem=(3:Nat)->M14 r'=some y:=fun r' y hy hne=>fr r' y (by rw [Hp.qK (qJ lW hy).1]; exact hy) hne
   have k4:=frb _ _ (kq _ _ f4') (by decide:¬(57:Nat)=3)
   have k6:=frb _ _ (kq _ _ g6') (by decide:¬(57:Nat)=3)
   have e4:=qG (F:=F) k4
   have hsrc:=dF.src wJ ((rd2.keep qGX yHV).next) rd2.zero.2.1
   simp only [go_sem,e4]
   refine kU wJ kJ (by decide) wWV qGX hsrc (by rw [aO,bM]; omega) ?_
   rintro v' M15 fr2 qHD o15 vKE
   have k4:=fr2 _ _ k4 (by decide:¬(57:Nat)=3)
   have k6:=fr2 _ _ k6 (by decide:¬(57:Nat)=3)
   obtain ⟨a',c',rfl,hfin⟩:=fin2 M15 v' _ vKE qHD (by rw [aO,aO,bM]; omega) k4 k6 hRe
   generalize x.body++[(i:Int)]++s2.next=Ln at hfin ⊢
   simp only [setH,go_sem,k4,k6,d64,vKC]
   exact hfin _ _
end Go.Proofs.Tryz.K
namespace Go.Ax
open Go
theorem wWH {p:Pg}{i:Nat}(hi:i < (fZ p).m.length):((fZ p).m[i]=⟨0,none,0,[]⟩/\¬(1<=i/\i<=p.vars.length))\/((1<=i/\i<=p.vars.length)/\(fZ p).m[i]=⟨1,none,0,List.replicate (nP (yK p) i).toNat ⟨0,0,0,0,0⟩⟩):=by
 have e:(fZ p).m=[⟨0,none,0,[]⟩]++(p.vars.map (fun n=>(⟨1,none,0,List.replicate n.toNat ⟨0,0,0,0,0⟩⟩:Bl))++p.news.map (fun _=>(⟨0,none,0,[]⟩:Bl))):=rfl;have hg:(fZ p).m[i]=((fZ p).m[i]?).getD ⟨0,none,0,[]⟩:=by rw [List.getElem?_eq_getElem hi]; rfl
 rw [hg,e];by_cases h0:i=0
 ·subst h0; exact .inl ⟨rfl,by omega⟩
 rw [List.getElem?_append_right (by simp; omega),bM];by_cases h1:i<=p.vars.length
 ·right;refine ⟨⟨by omega,h1⟩,?_⟩;rw [List.getElem?_append_left (by rw [bJ]; omega),List.getElem?_map,List.getElem?_eq_getElem (by omega)];have hs:nP (yK p) i=p.vars[i - 1]:=by
   unfold nP yK;rw [aB,fG,List.getElem?_append_right (by simp; omega),bM,List.getElem?_append_left (by omega),List.getElem?_eq_getElem (by omega)]; rfl
  rw [hs]; rfl
 ·left;refine ⟨?_,by omega⟩;rw [List.getElem?_append_right (by rw [bJ]; omega),List.getElem?_map];cases p.news[i - 1 - (p.vars.map (fun n=>(⟨1,none,0,List.replicate n.toNat ⟨0,0,0,0,0⟩⟩:Bl))).length]? <;> rfl
theorem jWY (p:Pg):(fZ p).m.length=1+p.vars.length+p.news.length:=by simp [fZ]; omega
theorem qQK {p:Pg}(hc:wY p=true):OkQ p (fZ p) 0:=by
 have hm:=jWV hc;refine ⟨⟨jWY p,fun i hi=>?_,fun i hi hs=>?_,fun i hi hs=>?_,fun hi=>rfl,fun i hi=>?_,fun i hi i1 i2=>?_⟩,hm.2,by have:=hm.1; show p.main.length<=_; omega,by show (0:Int)<=0/\(0:Int)<=((0:Nat):Int); omega⟩
 all_goals rcases wWH hi with ⟨e,h⟩ | ⟨h,e⟩
 all_goals have hz:=jE hc (i:Int)
 ·rw [e]; exact ⟨fun x hx=>(by cases hx),by decide,by decide,by simp⟩
 ·rw [e];refine ⟨fun x hx=>?_,by show (0:Int)<=1; decide,by show (1:Int)<=3; decide,by simp; omega⟩;have:=dK hx; subst this; decide
 ·rw [e] at hs; cases hs
 ·rw [e]; simp only [bD]; omega
 ·rw [e]
 ·rw [e] at hs; exact absurd rfl hs
 ·rw [e]; rfl
 ·rw [e,bW]; intro x hx; have:=dK hx; subst this; simp [zL]
 ·exact absurd ⟨i1,i2⟩ h
 ·rw [e]
theorem gXX (p:Pg)(rs ns:List Int)(q:Qs):sK p rs ns 0 q=[q]:=rfl
theorem run_end {p:Pg}{rs ns:List Int}{q:Qs}(h:wB q=true):∀n,sK p rs ns n q=[q]
 | 0=>rfl
 | n+1=>by rw [wWG,if_pos h]
theorem yJG {p:Pg}(hc:wY p=true){rs ns:List Int}:∀(n k:Nat) (q:Qs),OkQ p q k->∀x∈sK p rs ns n q,OkQ p x (k+n)
 | 0,k,q,h,x,hx=>by rw [gXX] at hx; rw [aX.1 hx]; exact h
 | n+1,k,q,h,x,hx=>by
  have up:∀j,OkQ p q (k+j):=fun j=>by
   induction j with
   | zero=>exact h
   | succ j ih=>exact ih.up
  rw [wWG] at hx;split at hx
  ·rw [aX.1 hx]; exact up _
  ·rcases aQ.1 hx with rfl | hx
   ·exact up _
   ·have:=yJG hc n (k+1) _ (wWJ hc h) x hx;rw [show k+1+n=k+(n+1) by omega] at this; exact this
theorem yHH {p:Pg}{rs ns:List Int}{n i:Nat}{q:Qs}{q0:Qs}{pre:List Qs}(hi:i < n)(h:sK p rs ns n q0=pre++sK p rs ns (n - i) q)(he:wB q=false):sK p rs ns n q0=(pre++[q])++sK p rs ns (n - (i+1)) (rV p rs ns q):=by
 rw [h,show n - i=(n - (i+1))+1 by omega,wWG,if_neg (by rw [he]; exact bK),fG]; rfl
theorem yHD {p:Pg}{rs ns:List Int}{n i:Nat}{q:Qs}{q0:Qs}{pre:List Qs}(h:sK p rs ns n q0=pre++sK p rs ns (n - i) q)(he:wB q=true\/n<=i):sK p rs ns n q0=pre++[q]:=by
 rw [h];rcases he with he | he
 ·rw [run_end he]
 ·rw [show n - i=0 by omega]; rfl
end Go.Ax
namespace Go.Proofs.Tryz.K
open Go Go.Ax Go.Proofs.Tryz.S
variable (F:Fz) (M:Hp)
theorem jDZ {F:Fz}{M:Hp}{r:Nat}{x:dM}(hx:M r=some ⟨x.cs,57,5⟩):Src F M 5 (.slice (some ⟨r,0,none⟩) 1 1) 1 ([x].flatMap dM.cs):=
 ⟨rfl,.inr ⟨⟨r,0,none⟩,1,rfl,.inr ⟨r,0,_,rfl,qG hx,by simp [dM.fK]⟩⟩⟩
def xJY (l:List Qs)(F:Fz)(M:Hp)(u:Value)(F':Fz)(M':Hp):Prop:=
 F'=F/\Keep M M'/\Old F M'/\∃a c,∃L:List dM,u=.slice a L.length c/\L.map dM.q=l/\dF 5 dM.cs F M' (.slice a L.length c) L/\∀s∈L,s.rd F M'
def dKK (p:Pg)(t:Sr)(n:Nat)(r3 r4 r7:Nat)(F0:Fz)(M0:Hp)(i:Nat)(σ:Env)(F:Fz)(M:Hp):Prop:=
 F0=F/\Ax.look σ 9=some (.int .i64 i)/\∃A:Hp,∃s:dM,∃L:List dM,∃w,∃pre:List Qs,Keep M0 A/\Keep A M/\Old F A/\Old F M/\A r7=none/\M r3=some ⟨p.cs,43,7⟩/\M r4=some ⟨t.cs,64,2⟩/\M r7=some ⟨s.cs,57,5⟩/\
  s.rd F A/\(∀x∈L,x.rd F A)/\L.map dM.q=pre++[s.q]/\OkQ p s.q i/\Ax.look σ 8=some w/\yW 5 dM.cs 57 F A M w L/\sK p t.rs t.ns n (fZ p)=pre++sK p t.rs t.ns (n - i) s.q/\L.length<=i+1/\∀g m c,w=.slice (some ⟨g,0,none⟩) m c->¬r7=g
theorem k14 (p:Pg)(t:Sr)(n:Nat)(hp:p.rd F)(ht:t.rd F M)(hold:Old F M)(hc:wY p=true)(hn:n<=900)(htl:t.rs.length<=100000/\t.ns.length<=100000) :
  aI prog 14 [p.val,t.val,.int .i64 n] F M (xJY (sK p t.rs t.ns n (fZ p)) F M):=by
 refine qZ hm func14 e14 (aA rfl) ?_
 simp only [c14,go_sem]
 intro r3 hF3 dN
 generalize eQ:M.upd r3 ⟨p.cs,43,7⟩=M1 at *
 obtain ⟨fC,dA,f3⟩:=nw eQ hold hF3 dN
 clear eQ
 simp only [go_sem]
 intro r4 mW jP
 generalize eQ:M1.upd r4 ⟨t.cs,64,2⟩=M2 at *
 obtain ⟨jA,fP,f4⟩:=nw eQ dA mW jP
 clear eQ
 have kp:=fC.trans jA
 have f3:=jA _ _ f3
 clear fC jA dA dN jP
 have b3:=qG (F:=F) f3
 have hpre:=yH hc
 have kb:=aI.part kp fP (show aI prog 8 [p.val] F M (Makes F M fun u M'=>∃s:dM,u=s.val/\s.blocks.map zZ=(0,[]) :: p.vars.map wGY++p.news.map (fun _=>(0,[]))/\s.next=p.main/\s.inp=0/\s.p=0/\s.w=0/\s.rd F M') from k8 F M p hp hold (fun m hm=>by have:=hpre.2.2.2.1 m hm; omega))
 simp only [go_sem,b3]
 with_reducible refine wW kb ?_
 rintro u F' M3 ⟨hG,fC,dA,A,kA,oA,kAM,hAn,s,rfl,hbk,e1,e2,e3,e4,rds⟩
 replace hG:=hG.symm
 subst hG
 refine ⟨(fun h=>by cases h),?_⟩
 have hq:s.q=fZ p:=by
  have:kD s.blocks=(fZ p).m:=by
   have e1:kD s.blocks=(s.blocks.map zZ).map fun x=>⟨x.1,none,0,x.2⟩:=by unfold kD; rw [List.map_map]; rfl
   rw [e1,hbk]
   simp only [fZ,bP,List.map_cons,List.map_map]
   rfl
  unfold dM.q
  rw [this,e1,e2,e3,e4]; rfl
 have g3:=fC _ _ f3
 have g4:=fC _ _ f4
 clear hbk e1 e2 e3 e4 kb b3 f3 f4 kp fC fP
 simp only [go_sem]
 intro r7 wU qB
 have A7:A r7=none:=kAM.free qB
 have d73:=(qJ qB g3).1
 have d74:=(qJ qB g4).1
 simp only [setH,Hp.wZ,go_sem]
 intro rb uK lW
 have wVH:=yZ lW
 have Ab:A rb=none:=kAM.free wVH.2.2
 simp only [go_sem]
 have tZ:yW 5 dM.cs 57 F A ((M3.upd r7 ⟨s.cs,57,5⟩).upd rb ⟨s.cs,57,5⟩) (.slice (some ⟨rb,0,none⟩) 1 1) [s]:=yW.one uK Ab rfl
 refine wV n (dKK p t n r3 r4 r7 F M) ⟨rfl,(by simp only [go_sem, *] <;> rfl),A,s,[s],_,[],kA,(kAM.new A7).new Ab,oA,(dA.upd wU).upd uK,A7,by rw [Hp.qK (qJ lW (by rw [Hp.qK d73]; exact g3)).1,Hp.qK d73]; exact g3,by rw [Hp.qK (qJ lW (by rw [Hp.qK d74]; exact g4)).1,Hp.qK d74]; exact g4,by rw [Hp.qK wVH.2.1]; exact Hp.qV _ _ _,rds,fun x hx=>by rw [aX.1 hx]; exact rds,rfl,hq ▸ qQK hc,(by simp only [go_sem, *] <;> rfl),tZ,by rw [hq]; rfl,by simp,fun g m c e=>by injection e with e; injection e with e; injection e with e; rw [<-e]; exact wVH.2.1⟩ ?_
 clear qB lW wVH g3 g4 tZ kAM hAn kA oA rds hq A7 Ab
 rintro i σ F' M4 hi hst ⟨hG,q9,A,s,L,w,pre,kA,kAM,oA,oM,A7,g3,g4,g7,rds,rdL,hL,hok,q8,mine,hrun,hll,hgw⟩
 subst hG
 have q2:=hst 2 rfl
 have q3:=hst 3 rfl
 have q4:=hst 4 rfl
 have q7:=hst 7 rfl
 simp only [go_sem] at q2 q3 q4 q7
 clear hst
 have b3:=qG (F:=F) g3
 have b4:=qG (F:=F) g4
 have b7:=qG (F:=F) g7
  -- the end
 have fin:(wB s.q=true\/n<=i)->∀w',w=w'->lK F M4 (xJY (sK p t.rs t.ns n (fZ p)) F M) w':=fun he w' hw=>by
  subst hw
  obtain ⟨a',c',rfl⟩:=mine.shape
  obtain ⟨A',kAA,jDK,oA',jWD,_⟩:=vU mine kAM
  exact qX jDK ⟨rfl,kA.trans kAA,oA' oA,a',c',L,rfl,by rw [hL,yHD hrun he],jWD.rd dM.len (by omega),fun x hx=>(rdL x hx).keep kAA (oA' oA)⟩
 by_cases hin:(i:Int) < n
 rotate_left
 ·simp only [go_sem,q2,q8,q9,hin]
  exact fin (.inr (by omega)) _ rfl
 have ke:=k42 F M4 s
 have hee:(decide (s.next.length=0) || !decide (s.p=0/\s.w=0))=wB s.q:=rfl
 rw [hee] at ke
 simp only [go_sem,q2,q7,q9,hin,b7]
 with_reducible refine qQ ke ?_
 cases he:wB s.q
 rotate_left
 ·simp only [go_sem,q8]
  exact fin (.inl he) _ rfl
 have ks:=aI.part kAM oM (show aI prog 43 [p.val,s.val,t.val] F A (Makes F A fun u M'=>∃s':dM,u=s'.val/\s'.q=rV p t.rs t.ns s.q/\s'.rd F M') from k43 F A p s t i hp rds (ht.keep kA oA) oA hc hok (by omega) htl)
 simp only [go_sem,q3,q4,q7,b3,b4,b7]
 with_reducible refine wW ks ?_
 rintro u F' M5 ⟨hG,eH,dB,N,kN,oN,kNM,hNn,s2,rfl,hs2,rd2⟩
 replace hG:=hG.symm
 subst hG
 refine ⟨(fun h=>by cases h),?_⟩
 have N7:N r7=none:=hNn r7 (by rw [g7]; simp) A7
 have k3:=eH _ _ g3
 have k4:=eH _ _ g4
 have k7:=eH _ _ g7
 have mQ:yW 5 dM.cs 57 F N M5 w L:=by
  refine ⟨mine.own.keep eH,fun g m c e=>?_⟩
  have hg:=mine.new g m c e
  rcases mine.own with ⟨h1,_⟩ | ⟨g',cap,h1,_,h3,_⟩
  ·rw [h1] at e; cases e
  ·rw [h1] at e; injection e with e; injection e with e; injection e with e; subst e
   exact hNn g' (by rw [h3]; simp) hg
 simp only [setH,go_sem,k7,q7,q8]
 have f7:(M5.upd r7 ⟨s2.cs,57,5⟩) r7=some ⟨s2.cs,57,5⟩:=Hp.qV _ _ _
 have f3:(M5.upd r7 ⟨s2.cs,57,5⟩) r3=some ⟨p.cs,43,7⟩:=by
  rw [Hp.qK (fun e=>by rw [e,k7] at k3; injection k3 with k3; injection k3 with _ k3 _; exact absurd k3 (by decide))]; exact k3
 have f4:(M5.upd r7 ⟨s2.cs,57,5⟩) r4=some ⟨t.cs,64,2⟩:=by
  rw [Hp.qK (fun e=>by rw [e,k7] at k4; injection k4 with k4; injection k4 with _ k4 _; exact absurd k4 (by decide))]; exact k4
 have wQY:gQ 5 dM.cs 57 F (M5.upd r7 ⟨s2.cs,57,5⟩) w L:=by
  rcases mQ.own with h1 | ⟨g,cap,h1,h2,h3,h4⟩
  ·exact .inl h1
  ·exact .inr ⟨g,cap,h1,h2,by rw [Hp.qK (fun e=>hgw g _ _ h1 e.symm)]; exact h3,h4⟩
 have iZ:Keep N (M5.upd r7 ⟨s2.cs,57,5⟩):=kNM.new N7
 have eG:Old F (M5.upd r7 ⟨s2.cs,57,5⟩):=dB.upd wU
 generalize M5.upd r7 ⟨s2.cs,57,5⟩=M6 at *
 have c7:=qG (F:=F) f7
 try simp only [go_sem,q2,q3,q4,q7,q8,q9,c7]
 intro rb uK lW
 have Nb:N rb=none:=iZ.free lW
 have db7:=(qJ lW f7).1
 have db3:=(qJ lW f3).1
 have db4:=(qJ lW f4).1
 have ei:i64.wrap ((i:Int)+1)=i+1:=dQ (by omega) (by omega)
 simp only [go_sem]
 refine qYA (xs:=L) (ys:=[s2]) dM.len dM.plain (by decide) (wQY.new lW) (jDZ (Hp.qV _ _ _)) (by simp) (by simp; omega) ?_
 rintro g cap M7 hg hFg rfl jQY
 have hg7:¬r7=g:=by
  rcases hg with h | ⟨c,h⟩
  ·rintro rfl; rw [Hp.qK db7,f7] at h; cases h
  ·exact hgw g _ _ h
 have Ng:N g=none:=by
  rcases hg with h | ⟨c,h⟩
  ·rw [nX] at h; exact iZ.free h.2
  ·exact mQ.new g _ _ h
 have hg3:¬r3=g:=by
  rcases hg with h | ⟨c,h⟩
  ·rintro rfl; rw [Hp.qK db3,f3] at h; cases h
  ·rintro rfl
   rcases wQY with ⟨h1,_⟩ | ⟨g',cap',h1,_,h3,_⟩
   ·rw [h] at h1; cases h1
   ·rw [h] at h1; injection h1 with h1; injection h1 with h1; injection h1 with h1; subst h1
    rw [f3] at h3; injection h3 with h3; injection h3 with _ h3 _; exact absurd h3 (by decide)
 have hg4:¬r4=g:=by
  rcases hg with h | ⟨c,h⟩
  ·rintro rfl; rw [Hp.qK db4,f4] at h; cases h
  ·rintro rfl
   rcases wQY with ⟨h1,_⟩ | ⟨g',cap',h1,_,h3,_⟩
   ·rw [h] at h1; cases h1
   ·rw [h] at h1; injection h1 with h1; injection h1 with h1; injection h1 with h1; subst h1
    rw [f4] at h3; injection h3 with h3; injection h3 with _ h3 _; exact absurd h3 (by decide)
 have hin1:i < n:=by omega
 simp only [go_sem,q9,ei]
 refine ⟨hin1,rfl,(by simp only [go_sem, *] <;> rfl),N,s2,L++[s2],.slice (some ⟨g,0,none⟩) (L++[s2]).length cap,pre++[s.q],kA.trans kN,(iZ.new Nb).new Ng,oN,(eG.upd uK).upd hFg,N7,by rw [Hp.qK hg3,Hp.qK db3]; exact f3,by rw [Hp.qK hg4,Hp.qK db4]; exact f4,by rw [Hp.qK hg7,Hp.qK db7]; exact f7,rd2,fun x hx=>?_,?_,?_,(by simp only [go_sem, *] <;> rfl),⟨jQY,fun g' m c e=>?_⟩,?_,?_,fun g' m c e=>?_⟩
 ·rcases aW.1 hx with hx | hx
  ·exact (rdL x hx).keep kN oN
  ·rw [aX.1 hx]; exact rd2
 ·rw [bP,hL]; rfl
 ·rw [hs2]; exact wWJ hc hok
 ·injection e with e; injection e with e; injection e with e; rw [<-e]; exact Ng
 ·rw [hs2]; exact yHH hin1 hrun he
 ·rw [aO,bM]; omega
 ·injection e with e; injection e with e; injection e with e; rw [<-e]; exact hg7
def caI (l:List Al)(F0:Fz)(M0:Hp)(i:Nat)(σ:Env)(F:Fz)(M:Hp):Prop:=
 F0=F/\Keep M0 M/\Old F0 M/\Ax.look σ 4=some (.int .i64 i)/\∃w,Ax.look σ 3=some w/\yW 2 Al.cs 55 F0 M0 M w (l.take i)
theorem k30 (a:Option Addr)(c:Nat)(l:List Al)(h:dF 2 Al.cs F M (.slice a l.length c) l)(hold:Old F M)(hl:l.length<=100000) :
  aI prog 30 [.slice a l.length c] F M (Makes F M fun u M'=>∃a' c',u=.slice a' l.length c'/\dF 2 Al.cs F M' (.slice a' l.length c') l):=by
 refine qZ hm func30 e30 (aA rfl) ?_;simp only [c30,go_sem];refine wV l.length (caI l F M) ⟨rfl,Keep.refl _,hold,(by simp only [go_sem, *] <;> rfl),_,(by simp only [go_sem, *] <;> rfl),yW.nil⟩ ?_;rintro i σ F' M' hi hst ⟨rfl,kp,old,q4,w,q3,mine⟩;have q0:=hst 0 rfl;simp only [go_sem] at q0;clear hst;by_cases hil:(i:Int) < l.length;rotate_left
 ·rw [aJ (by omega)] at mine;obtain ⟨a',c',rfl⟩:=mine.shape;obtain ⟨A,kA,kAM,oA,own,_⟩:=vU mine kp;simp only [go_sem,q0,q3,q4,hil];exact qX kAM ⟨rfl,kA,oA hold,a',c',rfl,own.rd Al.len (by omega)⟩
 have hi0:(0:Int)<=i:=by omega
 have hi1:i < l.length:=by omega
 have ei:i64.wrap ((i:Int)+1)=i+1:=dQ (by omega) (by omega);obtain ⟨b,o,cs,rfl,hb,rows⟩:=(h.keep kp old).rows (by omega);obtain ⟨d1,d2⟩:=rows i hi1;clear rows;have t1:=aF hi1;generalize l[i]=x at *;simp only [go_sem,q0,q3,q4,hil,hi0,aB,hb,d1,d2];intro rb uK lW;simp only [go_sem];refine sU (xs:=l.take i) (ys:=[x]) Al.len Al.plain (by decide) (mine.fresh lW) (kp.new (kp.free lW)) ⟨rfl,.inr ⟨⟨rb,0,none⟩,1,rfl,.inr ⟨rb,0,_,rfl,wH,by simp [Al.fK]⟩⟩⟩ (by simp) (by simp; omega) ?_;rintro v' M2 _ _ nG ho2 xO;rw [<-t1] at xO;simp only [go_sem,q4,ei];exact ⟨hi1,rfl,nG,ho2 (old.upd uK),(by simp only [go_sem, *] <;> rfl),v',(by simp only [go_sem, *] <;> rfl),xO⟩
def ceI (l:List En)(F0:Fz)(M0:Hp)(i:Nat)(σ:Env)(F:Fz)(M:Hp):Prop:=
 F0=F/\Old F0 M/\Ax.look σ 4=some (.int .i64 i)/\∃A w,∃L:List En,Keep M0 A/\Keep A M/\Old F0 A/\Ax.look σ 3=some w/\yW 3 En.cs 51 F0 A M w L/\L.map En.pe=(l.take i).map En.pe/\∀x∈L,x.rd F0 A
def En.yJV (e:En):Prop:=e.cells.length<=3000/\e.news.length<=3000/\∀c∈e.cells,c.l.length<=3000
theorem k31 (a:Option Addr)(c:Nat)(l:List En)(h:dF 3 En.cs F M (.slice a l.length c) l)(hr:∀e∈l,e.rd F M)(hold:Old F M)(hl:l.length<=100000)(hs:∀e∈l,En.yJV e) :
  aI prog 31 [.slice a l.length c] F M (Makes F M fun u M'=>∃a' c',∃L:List En,u=.slice a' L.length c'/\L.map En.pe=l.map En.pe/\dF 3 En.cs F M' (.slice a' L.length c') L/\∀e∈L,e.rd F M'):=by
 refine qZ hm func31 e31 (aA rfl) ?_
 simp only [c31,go_sem]
 refine wV l.length (ceI l F M) ⟨rfl,hold,(by simp only [go_sem, *] <;> rfl),M,_,[],Keep.refl _,Keep.refl _,hold,(by simp only [go_sem, *] <;> rfl),yW.nil,rfl,(fun x hx=>by cases hx)⟩ ?_
 rintro i σ F' M' hi hst ⟨rfl,old,q4,A,w,L,kA,kAM,oA,q3,mine,hpe,hrd⟩
 have q0:=hst 0 rfl
 simp only [go_sem] at q0
 clear hst
 have hLl:L.length=i:=by have:=congrArg List.length hpe; simp at this; omega
 by_cases hil:(i:Int) < l.length
 rotate_left
 ·rw [aJ (by omega)] at hpe
  obtain ⟨a',c',rfl⟩:=mine.shape
  obtain ⟨A',kA',jDK,oA',own,_⟩:=vU mine kAM
  simp only [go_sem,q0,q3,q4,hil]
  exact qX jDK ⟨rfl,kA.trans kA',oA' oA,a',c',L,rfl,hpe,own.rd En.len (by omega),fun e he=>(hrd e he).keep kA' (oA' oA)⟩
 have hi0:(0:Int)<=i:=by omega
 have hi1:i < l.length:=by omega
 have ei:i64.wrap ((i:Int)+1)=i+1:=dQ (by omega) (by omega)
 obtain ⟨b,o,cs,rfl,hb,rows⟩:=(h.keep (kA.trans kAM) old).rows (by omega)
 obtain ⟨d1,d2⟩:=rows i hi1
 clear rows
 have t1:=aF hi1
 have hx:=hr _ (aH hi1)
 have hxs:=hs _ (aH hi1)
 generalize l[i]=x at *
 simp only [go_sem,q0,q3,q4,hil,hi0,aB,hb,d1,d2]
 have kc:=aI.part kAM old (show aI prog 59 [x.val] F A (Makes F A fun u M'=>∃e':En,u=e'.val/\e'.pe=x.pe/\e'.rd F M') from k59 F A x (hx.keep kA oA) oA ⟨by have:=hxs.1; omega,by have:=hxs.2.1; omega⟩ (fun y hy=>by have:=hxs.2.2 y hy; omega))
 with_reducible refine wW kc ?_
 rintro u F' M1 ⟨hG,oV,kY,N,kN,oN,kNM,hNn,e',rfl,he',rd'⟩
 replace hG:=hG.symm
 subst hG
 refine ⟨(fun h=>by cases h),?_⟩
 simp only [go_sem]
 intro rb uK lW
 simp only [go_sem]
 have qWC:yW 3 En.cs 51 F N M1 w L:=by
  refine ⟨mine.own.keep oV,fun g m c e=>?_⟩
  have hg:=mine.new g m c e
  rcases mine.own with ⟨h1,_⟩ | ⟨g',cap,h1,_,h3,_⟩
  ·rw [h1] at e; cases e
  ·rw [h1] at e; injection e with e; injection e with e; injection e with e; subst e
   exact hNn g' (by rw [h3]; simp) hg
 refine sU (xs:=L) (ys:=[e']) En.len En.plain (by decide) (qWC.fresh lW) (kNM.new (kNM.free lW)) ⟨rfl,.inr ⟨⟨rb,0,none⟩,1,rfl,.inr ⟨rb,0,_,rfl,wH,by simp [En.fK]⟩⟩⟩ (by simp) (by simp; omega) ?_
 rintro v' M2 _ _ nG ho2 xO
 simp only [go_sem,q4,ei]
 refine ⟨hi1,rfl,ho2 (kY.upd uK),(by simp only [go_sem, *] <;> rfl),N,v',L++[e'],kA.trans kN,nG,oN,(by simp only [go_sem, *] <;> rfl),xO,?_,fun y hy=>?_⟩
 ·rw [t1,bP,bP,hpe]; simp [he']
 ·rcases aW.1 hy with hy | hy
  ·exact (hrd y hy).keep kN oN
  ·rw [aX.1 hy]; exact rd'
end Go.Proofs.Tryz.K
namespace Go.Ax
open Go
structure Pr where
 un:Bool
 al:List Al
 en:List Pe
 n:Int
instance Pr.dec:DecidableEq Pr:=fun x y=>decidable_of_iff (x.un=y.un/\x.al=y.al/\x.en=y.en/\x.n=y.n) (by cases x; cases y; simp)
def Rp.pr (r:Rp):Pr:=⟨r.un,r.al,r.en.map En.pe,r.n⟩
def jWA (l:List Al)(i:Nat):Bool:=
 match i with
 | 0=>true
 | k+1=>match l[k]?,l[k+1]? with
  | some a,some b=>decide (a.p < b.p) || (decide (a.p=b.p) && decide (a.w < b.w))
  | _,_=>true
def wVD (l:List Al)(n:Nat)(i:Nat):Bool:=
 match l[i]? with
 | some a=>(decide (0<=a.p) && decide (a.p < n)) && (decide (1<=a.w) && decide (a.w<=10)) && jWA l i
 | none=>true
def pR (l:List Al)(n:Nat)(k:Nat):Bool:=(List.range k).all (wVD l n)
theorem qVC {l:List Al}{n k:Nat}:pR l n (k+1)=(pR l n k && wVD l n k):=by
 unfold pR; rw [List.range_succ,List.all_append]; simp
theorem wKD {l:List Al}{n i:Nat}(h:i < l.length)(ho:wVD l n i=false):pR l n l.length=false:=by
 unfold pR;rw [dP];exact ⟨i,List.mem_range.2 h,by rw [ho]; exact bK⟩
def jB (p:Pg)(r:Pr):Bool:=
 if r.un=true then decide (r.al.length=0) && decide (r.en.length=0)
 else decide (r.en.length=p.stmts.length+1) && pR r.al p.stmts.length r.al.length && r.en.all (pJ p)
def yQY (l:List Pe)(i:Int):Pe:=(l[i.toNat]?).getD ⟨true,[],[]⟩
def zD (p:Pg)(q:Qs):Int:=match q.next with | []=>p.stmts.length | i :: _=>i
def uU (p:Pg)(r:Pr)(q:Qs):Bool:=if q.p=0/\q.w=0 then oC p (yQY r.en (zD p q)) q.m else decide (⟨q.p,q.w⟩∈r.al)
def vV (f:Qs->Bool):List Qs->Nat->Int
 | [],_=>-1
 | q :: l,i=>if f q=true then vV f l (i+1) else i
def pW (p:Pg)(r:Pr)(l:List Qs):Int:=if r.un=true then -1 else vV (uU p r) l 0
theorem yQA {f:Qs->Bool}:∀(l:List Qs) (k i:Nat) (hi:i < l.length),(∀j (hj:j < i),f (l[j]'(by omega))=true)->f l[i]=false->vV f l k=(k+i:Nat)
 | [],k,i,hi,_,_=>by simp at hi
 | q :: l,k,0,hi,_,h=>by
  unfold vV;rw [if_neg (by rw [show f q=false from h]; exact bK)]; rfl
 | q :: l,k,i+1,hi,h1,h=>by
  unfold vV;have h0:=h1 0 (by omega);rw [if_pos (show f q=true from h0)];have:=yQA l (k+1) i (by simpa using hi) (fun j hj=>h1 (j+1) (by omega)) h;rw [this]; congr 1; omega
theorem wWD {f:Qs->Bool}:∀(l:List Qs) (k:Nat),(∀q∈l,f q=true)->vV f l k = -1
 | [],k,_=>rfl
 | q :: l,k,h=>by
  unfold vV;rw [if_pos (h q List.mem_cons_self)];exact wWD l (k+1) (fun x hx=>h x (List.mem_cons_of_mem _ hx))
structure kF where
 s:Sc
 w:Int
def kF.cs (s:kF):List Value:=s.s.cs++[.int .i64 s.w]
def kF.val (s:kF):Value:=.agg s.cs.toArray
@[go_sem] theorem kF.oW {s:kF}:Value.agg s.cs.toArray=s.val:=rfl
@[go_sem] theorem kF.jM {s:kF}:Value.cells.match_1 (fun _=>Array Value) s.val (fun cs=>cs) (fun u=>#[u])=s.cs.toArray:=rfl
@[go_sem] theorem kF.gI {s:kF}:s.val.cells=s.cs.toArray:=rfl
@[go_sem] theorem kF.iY {s:kF}:s.cs.toArray.size=5:=rfl
@[go_sem] theorem kF.lU {s:kF}:s.cs.length=5:=rfl
@[go_sem] theorem kF.yD {s:kF}:wQ s.cs=True:=by
 apply eq_true;intro u hu;have e:s.cs=[.bool s.s.p,.int .i64 s.s.n,.int .i64 s.s.b,.int .i64 s.s.o,.int .i64 s.w]:=rfl;rw [e] at hu;simp only [aQ,aV,or_false] at hu;rcases hu with rfl | rfl | rfl | rfl | rfl <;> rfl
theorem kF.len (s:kF):s.cs.length=5:=rfl
@[go_sem] theorem kF.fK {s:kF}:s.cs.take 5=s.cs:=rfl
@[go_sem] theorem kF.take0 {s:kF}:s.cs.take 0=[]:=rfl
@[go_sem] theorem kF.jC {s:kF}:s.cs.drop 5=[]:=rfl
@[go_sem] theorem kF.ld {s:kF}:rd true 5 s.cs 0=some s.val:=rfl
@[go_sem] theorem kF.lds {s:kF}:rd true 4 s.cs 0=some (s.s.val):=rfl
@[go_sem] theorem kF.xG {s:kF}:s.cs[0]? = some (.bool s.s.p):=rfl
@[go_sem] theorem kF.ld0 {s:kF}:rd false 1 s.cs 0=some (.bool s.s.p):=rfl
@[go_sem] theorem kF.xH {s:kF}:s.cs[1]? = some (.int .i64 s.s.n):=rfl
@[go_sem] theorem kF.ld1 {s:kF}:rd false 1 s.cs 1=some (.int .i64 s.s.n):=rfl
@[go_sem] theorem kF.qWQ {s:kF}:s.cs[2]? = some (.int .i64 s.s.b):=rfl
@[go_sem] theorem kF.ld2 {s:kF}:rd false 1 s.cs 2=some (.int .i64 s.s.b):=rfl
@[go_sem] theorem kF.qZV {s:kF}:s.cs[3]? = some (.int .i64 s.s.o):=rfl
@[go_sem] theorem kF.ld3 {s:kF}:rd false 1 s.cs 3=some (.int .i64 s.s.o):=rfl
@[go_sem] theorem kF.get4 {s:kF}:s.cs[4]? = some (.int .i64 s.w):=rfl
@[go_sem] theorem kF.ld4 {s:kF}:rd false 1 s.cs 4=some (.int .i64 s.w):=rfl
theorem kF.row {cs:List Value}{p:Nat}{s:kF}(h0:p+5<=cs.length)(h:(cs.drop p).take 5=s.cs):cs[p+4]? = some (.int .i64 s.w)/\rd true 4 cs p=some s.s.val/\rd true 5 cs p=some s.val:=by
 have key:∀j,j < 5->cs[p+j]? = s.cs[j]?:=fun j hj=>by
  rw [<-h,List.getElem?_take_of_lt hj,List.getElem?_drop]
 have e:(cs.drop p).take 4=s.s.cs:=by
  have:(s.cs.take 4)=s.s.cs:=rfl;rw [<-this,<-h,List.take_take]; rfl
 refine ⟨key 4 (by decide),?_,?_⟩
 ·unfold rd; simp only []; rw [if_pos (by omega),e]; rfl
 ·unfold rd; simp only []; rw [if_pos (by omega),h]; rfl
@[go_sem] theorem kF.mk_cs {s:Sc} {x:Value} {w:Int}:List.take 4 (s.cs++[x])++[Value.int .i64 w]++List.drop 5 (s.cs++[x])=(⟨s,w⟩:kF).cs:=rfl
structure Mc where
 p:Pg
 a:Option Addr
 c:Nat
 m:List Bl
 lA:Option Addr
 lC:Nat
 l:List kF
def Mc.cs (s:Mc):List Value:=s.p.cs++[.slice s.a s.m.length s.c,.slice s.lA s.l.length s.lC]
def Mc.val (s:Mc):Value:=.agg s.cs.toArray
@[go_sem] theorem Mc.oW {s:Mc}:Value.agg s.cs.toArray=s.val:=rfl
@[go_sem] theorem Mc.jM {s:Mc}:Value.cells.match_1 (fun _=>Array Value) s.val (fun cs=>cs) (fun u=>#[u])=s.cs.toArray:=rfl
@[go_sem] theorem Mc.gI {s:Mc}:s.val.cells=s.cs.toArray:=rfl
@[go_sem] theorem Mc.iY {s:Mc}:s.cs.toArray.size=9:=rfl
@[go_sem] theorem Mc.lU {s:Mc}:s.cs.length=9:=rfl
@[go_sem] theorem Mc.yD {s:Mc}:wQ s.cs=True:=by
 apply eq_true;intro u hu;have e:s.cs=[.bool s.p.big,.int .i64 s.p.ptr,.slice s.p.vA s.p.vars.length s.p.vC,.slice s.p.nA s.p.news.length s.p.nC,.slice s.p.eA s.p.exprs.length s.p.eC,.slice s.p.sA s.p.stmts.length s.p.sC,.slice s.p.mA s.p.main.length s.p.mC,.slice s.a s.m.length s.c,.slice s.lA s.l.length s.lC]:=rfl;rw [e] at hu;simp only [aQ,aV,or_false] at hu;rcases hu with rfl | rfl | rfl | rfl | rfl | rfl | rfl | rfl | rfl <;> rfl
@[go_sem] theorem Mc.fK {s:Mc}:s.cs.take 9=s.cs:=rfl
@[go_sem] theorem Mc.take0 {s:Mc}:s.cs.take 0=[]:=rfl
@[go_sem] theorem Mc.jC {s:Mc}:s.cs.drop 9=[]:=rfl
@[go_sem] theorem Mc.ld {s:Mc}:rd true 9 s.cs 0=some s.val:=rfl
@[go_sem] theorem Mc.ldp {s:Mc}:rd true 7 s.cs 0=some (s.p.val):=rfl
@[go_sem] theorem Mc.lda {s:Mc}:rd true 2 s.cs 0=some (.agg #[.bool s.p.big,.int .i64 s.p.ptr]):=rfl
@[go_sem] theorem Mc.xG {s:Mc}:s.cs[0]? = some (.bool s.p.big):=rfl
@[go_sem] theorem Mc.ld0 {s:Mc}:rd false 1 s.cs 0=some (.bool s.p.big):=rfl
@[go_sem] theorem Mc.xH {s:Mc}:s.cs[1]? = some (.int .i64 s.p.ptr):=rfl
@[go_sem] theorem Mc.ld1 {s:Mc}:rd false 1 s.cs 1=some (.int .i64 s.p.ptr):=rfl
@[go_sem] theorem Mc.qWQ {s:Mc}:s.cs[2]? = some (.slice s.p.vA s.p.vars.length s.p.vC):=rfl
@[go_sem] theorem Mc.ld2 {s:Mc}:rd false 1 s.cs 2=some (.slice s.p.vA s.p.vars.length s.p.vC):=rfl
@[go_sem] theorem Mc.qZV {s:Mc}:s.cs[3]? = some (.slice s.p.nA s.p.news.length s.p.nC):=rfl
@[go_sem] theorem Mc.ld3 {s:Mc}:rd false 1 s.cs 3=some (.slice s.p.nA s.p.news.length s.p.nC):=rfl
@[go_sem] theorem Mc.get4 {s:Mc}:s.cs[4]? = some (.slice s.p.eA s.p.exprs.length s.p.eC):=rfl
@[go_sem] theorem Mc.ld4 {s:Mc}:rd false 1 s.cs 4=some (.slice s.p.eA s.p.exprs.length s.p.eC):=rfl
@[go_sem] theorem Mc.yXY {s:Mc}:s.cs[5]? = some (.slice s.p.sA s.p.stmts.length s.p.sC):=rfl
@[go_sem] theorem Mc.ld5 {s:Mc}:rd false 1 s.cs 5=some (.slice s.p.sA s.p.stmts.length s.p.sC):=rfl
@[go_sem] theorem Mc.yYF {s:Mc}:s.cs[6]? = some (.slice s.p.mA s.p.main.length s.p.mC):=rfl
@[go_sem] theorem Mc.ld6 {s:Mc}:rd false 1 s.cs 6=some (.slice s.p.mA s.p.main.length s.p.mC):=rfl
@[go_sem] theorem Mc.jQJ {s:Mc}:s.cs[7]? = some (.slice s.a s.m.length s.c):=rfl
@[go_sem] theorem Mc.ld7 {s:Mc}:rd false 1 s.cs 7=some (.slice s.a s.m.length s.c):=rfl
@[go_sem] theorem Mc.jGX {s:Mc}:s.cs[8]? = some (.slice s.lA s.l.length s.lC):=rfl
@[go_sem] theorem Mc.ld8 {s:Mc}:rd false 1 s.cs 8=some (.slice s.lA s.l.length s.lC):=rfl
structure Dr where
 p:Pg
 t:Sr
 s:dM
def Dr.cs (s:Dr):List Value:=s.p.cs++(s.t.cs++s.s.cs)
def Dr.val (s:Dr):Value:=.agg s.cs.toArray
@[go_sem] theorem Dr.oW {s:Dr}:Value.agg s.cs.toArray=s.val:=rfl
@[go_sem] theorem Dr.jM {s:Dr}:Value.cells.match_1 (fun _=>Array Value) s.val (fun cs=>cs) (fun u=>#[u])=s.cs.toArray:=rfl
@[go_sem] theorem Dr.gI {s:Dr}:s.val.cells=s.cs.toArray:=rfl
@[go_sem] theorem Dr.iY {s:Dr}:s.cs.toArray.size=14:=rfl
@[go_sem] theorem Dr.lU {s:Dr}:s.cs.length=14:=rfl
@[go_sem] theorem Dr.yD {s:Dr}:wQ s.cs=True:=by
 apply eq_true;intro u hu;have e:s.cs=[.bool s.p.big,.int .i64 s.p.ptr,.slice s.p.vA s.p.vars.length s.p.vC,.slice s.p.nA s.p.news.length s.p.nC,.slice s.p.eA s.p.exprs.length s.p.eC,.slice s.p.sA s.p.stmts.length s.p.sC,.slice s.p.mA s.p.main.length s.p.mC,.slice s.t.rsA s.t.rs.length s.t.rsC,.slice s.t.nsA s.t.ns.length s.t.nsC,.slice s.s.bG s.s.blocks.length s.s.bV,.slice s.s.dV s.s.next.length s.s.dD,.int .i64 s.s.inp,.int .i64 s.s.p,.int .i64 s.s.w]:=rfl;rw [e] at hu;simp only [aQ,aV,or_false] at hu;rcases hu with rfl | rfl | rfl | rfl | rfl | rfl | rfl | rfl | rfl | rfl | rfl | rfl | rfl | rfl <;> rfl
@[go_sem] theorem Dr.fK {s:Dr}:s.cs.take 14=s.cs:=rfl
@[go_sem] theorem Dr.take0 {s:Dr}:s.cs.take 0=[]:=rfl
@[go_sem] theorem Dr.jC {s:Dr}:s.cs.drop 14=[]:=rfl
@[go_sem] theorem Dr.ld {s:Dr}:rd true 14 s.cs 0=some s.val:=rfl
@[go_sem] theorem Dr.ldp {s:Dr}:rd true 7 s.cs 0=some (s.p.val):=rfl
@[go_sem] theorem Dr.ldt {s:Dr}:rd true 2 s.cs 7=some (s.t.val):=rfl
@[go_sem] theorem Dr.lds {s:Dr}:rd true 5 s.cs 9=some (s.s.val):=rfl
@[go_sem] theorem Dr.lda {s:Dr}:rd true 2 s.cs 0=some (.agg #[.bool s.p.big,.int .i64 s.p.ptr]):=rfl
@[go_sem] theorem Dr.xG {s:Dr}:s.cs[0]? = some (.bool s.p.big):=rfl
@[go_sem] theorem Dr.ld0 {s:Dr}:rd false 1 s.cs 0=some (.bool s.p.big):=rfl
@[go_sem] theorem Dr.xH {s:Dr}:s.cs[1]? = some (.int .i64 s.p.ptr):=rfl
@[go_sem] theorem Dr.ld1 {s:Dr}:rd false 1 s.cs 1=some (.int .i64 s.p.ptr):=rfl
@[go_sem] theorem Dr.qWQ {s:Dr}:s.cs[2]? = some (.slice s.p.vA s.p.vars.length s.p.vC):=rfl
@[go_sem] theorem Dr.ld2 {s:Dr}:rd false 1 s.cs 2=some (.slice s.p.vA s.p.vars.length s.p.vC):=rfl
@[go_sem] theorem Dr.qZV {s:Dr}:s.cs[3]? = some (.slice s.p.nA s.p.news.length s.p.nC):=rfl
@[go_sem] theorem Dr.ld3 {s:Dr}:rd false 1 s.cs 3=some (.slice s.p.nA s.p.news.length s.p.nC):=rfl
@[go_sem] theorem Dr.get4 {s:Dr}:s.cs[4]? = some (.slice s.p.eA s.p.exprs.length s.p.eC):=rfl
@[go_sem] theorem Dr.ld4 {s:Dr}:rd false 1 s.cs 4=some (.slice s.p.eA s.p.exprs.length s.p.eC):=rfl
@[go_sem] theorem Dr.yXY {s:Dr}:s.cs[5]? = some (.slice s.p.sA s.p.stmts.length s.p.sC):=rfl
@[go_sem] theorem Dr.ld5 {s:Dr}:rd false 1 s.cs 5=some (.slice s.p.sA s.p.stmts.length s.p.sC):=rfl
@[go_sem] theorem Dr.yYF {s:Dr}:s.cs[6]? = some (.slice s.p.mA s.p.main.length s.p.mC):=rfl
@[go_sem] theorem Dr.ld6 {s:Dr}:rd false 1 s.cs 6=some (.slice s.p.mA s.p.main.length s.p.mC):=rfl
@[go_sem] theorem Dr.jQJ {s:Dr}:s.cs[7]? = some (.slice s.t.rsA s.t.rs.length s.t.rsC):=rfl
@[go_sem] theorem Dr.ld7 {s:Dr}:rd false 1 s.cs 7=some (.slice s.t.rsA s.t.rs.length s.t.rsC):=rfl
@[go_sem] theorem Dr.jGX {s:Dr}:s.cs[8]? = some (.slice s.t.nsA s.t.ns.length s.t.nsC):=rfl
@[go_sem] theorem Dr.ld8 {s:Dr}:rd false 1 s.cs 8=some (.slice s.t.nsA s.t.ns.length s.t.nsC):=rfl
@[go_sem] theorem Dr.xZH {s:Dr}:s.cs[9]? = some (.slice s.s.bG s.s.blocks.length s.s.bV):=rfl
@[go_sem] theorem Dr.ld9 {s:Dr}:rd false 1 s.cs 9=some (.slice s.s.bG s.s.blocks.length s.s.bV):=rfl
@[go_sem] theorem Dr.zYQ {s:Dr}:s.cs[10]? = some (.slice s.s.dV s.s.next.length s.s.dD):=rfl
@[go_sem] theorem Dr.dWW {s:Dr}:rd false 1 s.cs 10=some (.slice s.s.dV s.s.next.length s.s.dD):=rfl
@[go_sem] theorem Dr.zYW {s:Dr}:s.cs[11]? = some (.int .i64 s.s.inp):=rfl
@[go_sem] theorem Dr.dWX {s:Dr}:rd false 1 s.cs 11=some (.int .i64 s.s.inp):=rfl
@[go_sem] theorem Dr.zYX {s:Dr}:s.cs[12]? = some (.int .i64 s.s.p):=rfl
@[go_sem] theorem Dr.dWZ {s:Dr}:rd false 1 s.cs 12=some (.int .i64 s.s.p):=rfl
@[go_sem] theorem Dr.zYZ {s:Dr}:s.cs[13]? = some (.int .i64 s.s.w):=rfl
@[go_sem] theorem Dr.dWK {s:Dr}:rd false 1 s.cs 13=some (.int .i64 s.s.w):=rfl
@[go_sem] theorem kF.zJW {s:kF}:List.take 4 s.cs=s.s.cs:=rfl
@[go_sem] theorem Mc.take2 {s:Mc}:List.take 2 s.cs=[.bool s.p.big,.int .i64 s.p.ptr]:=rfl
@[go_sem] theorem Mc.wDZ {s:Mc}:List.take 7 s.cs=s.p.cs:=rfl
@[go_sem] theorem Dr.take2 {s:Dr}:List.take 2 s.cs=[.bool s.p.big,.int .i64 s.p.ptr]:=rfl
@[go_sem] theorem Dr.wDZ {s:Dr}:List.take 7 s.cs=s.p.cs:=rfl
@[go_sem] theorem Dr.taket {s:Dr}:List.take 2 (List.drop 7 s.cs)=s.t.cs:=rfl
@[go_sem] theorem Dr.takes {s:Dr}:List.take 5 (List.drop 9 s.cs)=s.s.cs:=rfl
@[go_sem] theorem Mc.mk1 {p:Pg} {x y z:Value}:List.take 7 (p.cs++[x,y])++[z]++List.drop 8 (p.cs++[x,y])=p.cs++[z,y]:=rfl
@[go_sem] theorem Mc.mk2 {p:Pg} {x y z:Value}:List.take 8 (p.cs++[x,y])++[z]++List.drop 9 (p.cs++[x,y])=p.cs++[x,z]:=rfl
@[go_sem] theorem Mc.mk3 {p:Pg} {x y:Value}:(List.take 7 (p.cs++[x,y])).length=7:=rfl
@[go_sem] theorem Mc.mk4 {p:Pg} {x y:Value}:(List.drop 8 (p.cs++[x,y])).length=1:=rfl
@[go_sem] theorem Mc.mk5 {p:Pg} {x y:Value}:(List.take 8 (p.cs++[x,y])).length=8:=rfl
@[go_sem] theorem Mc.mk6 {p:Pg} {x y:Value}:(List.drop 9 (p.cs++[x,y])).length=0:=rfl
theorem xJA (p:Pg)(m:List Bl)(c:Pc):nT p (kD m) c=nT p m c:=by
 unfold nT zDG; rw [(uT m c.b).1,(uT m c.b).2]
theorem vKF (p:Pg)(m:List Bl)(news:List Int)(i:Nat):qWX p (kD m) news i=qWX p m news i:=by
 unfold qWX; rw [(uT m _).1]
theorem yQB (p:Pg)(e:Pe)(m:List Bl):oC p e (kD m)=oC p e m:=by
 unfold oC;rw [show nT p (kD m)=nT p m from funext fun c=>xJA p m c,show qWX p (kD m) e.news=qWX p m e.news from funext fun i=>vKF p m e.news i]
theorem yQC {p:Pg}{q:Qs}(h:∀k∈q.next,0<=k/\k < p.stmts.length):0<=zD p q/\zD p q<=p.stmts.length:=by
 unfold zD;split
 ·omega
 ·rename_i i l e;have:=h i (by rw [e]; exact List.mem_cons_self);omega
def uAt (u:List Bool)(i:Nat):Bool:=(u[i]?).getD false
structure Closed (p:Pg)(u:List Bool)(lo e:Nat):Prop where
 len:u.length=e+1
 top:uAt u e=true
 one:∀i (hi:i < p.exprs.length),lo<=i->i<=e->uAt u i=true->0 < bH (p.exprs[i]).op->uAt u (p.exprs[i]).a.toNat=true
 two:∀i (hi:i < p.exprs.length),lo<=i->i<=e->uAt u i=true->1 < bH (p.exprs[i]).op->uAt u (p.exprs[i]).b.toNat=true
def dY (u:List Bool)(lo:Nat):List Nat:=((List.range u.length).drop lo).filter (uAt u)
theorem jWB {u:List Bool}{lo:Nat}(h:u.length<=lo):dY u lo=[]:=by
 unfold dY; rw [dL (by rw [List.length_range]; exact h)]; rfl
theorem wWY {u:List Bool}{lo:Nat}(h:lo < u.length):dY u lo=(if uAt u lo=true then [lo] else [])++dY u (lo+1):=by
 unfold dY;rw [dH (by rw [List.length_range]; exact h),List.getElem_range,List.filter_cons];split <;> rfl
theorem wVY {u:List Bool}{i j:Nat}(h:i < u.length):uAt (u.set i true) j=(decide (i=j) || uAt u j):=by
 unfold uAt;rw [List.getElem?_set];by_cases e:i=j
 ·rw [if_pos e]; subst e; simp [h]
 ·rw [if_neg e]; simp [e]
theorem jWC {u:List Bool}{i lo:Nat}(h:i < lo)(hl:lo<=u.length):dY (u.set i true) lo=dY u lo:=by
 unfold dY;rw [aZ];apply List.filter_congr;intro x hx;obtain ⟨k,hk,rfl⟩:=bZ hx;rw [List.getElem_drop,List.getElem_range,wVY (by omega)];have:¬i=lo+k:=by omega
 simp [this]
theorem qGZ {u:List Bool}{i:Nat}:i∈dY u 0↔i < u.length/\uAt u i=true:=by
 unfold dY; rw [List.drop_zero,List.mem_filter,List.mem_range]
theorem jDJ (u:List Bool):(dY u 0).Pairwise (· < ·):=by
 unfold dY; rw [List.drop_zero]; exact List.Pairwise.filter _ List.pairwise_lt_range
theorem jWE {u:List Bool}{k j:Nat}(hk:k < (dY u 0).length)(hj:j < (dY u 0)[k])(hu:uAt u j=true)(hl:j < u.length):∃i,∃hi:i < (dY u 0).length,i < k/\(dY u 0)[i]=j:=by
 obtain ⟨i,hi,e⟩:=bZ (qGZ.2 ⟨hl,hu⟩);refine ⟨i,hi,?_,e⟩;rcases Nat.lt_or_ge i k with h | h
 ·exact h
 ·rcases Nat.lt_or_ge k i with h2 | h2
  ·have:=List.pairwise_iff_getElem.1 (jDJ u) k i hk hi h2;omega
  ·have:i=k:=by omega
   subst this; omega
theorem wWA {u:List Bool}{e:Nat}(hl:u.length=e+1)(hu:uAt u e=true):e∈dY u 0:=qGZ.2 ⟨by omega,hu⟩
theorem qGK (u:List Bool)(lo:Nat):(dY u lo).length<=u.length:=by
 unfold dY;exact Nat.le_trans (List.length_filter_le _ _) (by rw [List.length_drop,List.length_range]; omega)
structure Rev {α:Type}(l w:List α)(i:Nat):Prop where
 len:w.length=l.length
 at_:∀j,j < l.length->w[j]? = if j < i\/l.length - 1 - j < i then l[l.length - 1 - j]? else l[j]?
theorem Rev.zero {α:Type}(l:List α):Rev l l 0:=⟨rfl,fun j hj=>by rw [if_neg (by omega)]⟩
theorem Rev.step {α:Type}{l w:List α}{i:Nat}(h:Rev l w i)(hi:i < l.length - 1 - i)(h1:i < w.length)(h2:l.length - 1 - i < w.length):Rev l ((w.set i w[l.length - 1 - i]).set (l.length - 1 - i) w[i]) (i+1):=by
 have hl:=h.len;refine ⟨by rw [aZ,aZ,hl],fun j hj=>?_⟩;have e1:some w[i]=l[i]?:=by rw [<-List.getElem?_eq_getElem h1,h.at_ i (by omega),if_neg (by omega)]
 have e2:some w[l.length - 1 - i]=l[l.length - 1 - i]?:=by rw [<-List.getElem?_eq_getElem h2,h.at_ _ (by omega),if_neg (by omega)]
 by_cases c1:j=l.length - 1 - i
 ·subst c1;rw [List.getElem?_set_self (by rw [aZ]; exact h2),if_pos (by omega),e1]
  congr 1; omega
 rw [List.getElem?_set_ne (by omega)];by_cases c2:j=i
 ·subst c2;rw [List.getElem?_set_self h1,if_pos (by omega),e2]
 rw [List.getElem?_set_ne (by omega),h.at_ j hj];by_cases c3:j < i\/l.length - 1 - j < i
 ·rw [if_pos c3,if_pos (by omega)]
 ·rw [if_neg c3,if_neg (by omega)]
theorem Rev.done {α:Type}{l w:List α}{i:Nat}(h:Rev l w i)(hi:¬(i:Int) < (l.length:Int) - 1 - i):w=l.reverse:=by
 apply List.ext_getElem?;intro j;by_cases hj:j < l.length
 ·rw [h.at_ j hj,List.getElem?_reverse hj];by_cases c:j < i\/l.length - 1 - j < i
  ·rw [if_pos c]
  ·rw [if_neg c]; congr 1; omega
 ·rw [List.getElem?_eq_none (by rw [h.len]; omega),List.getElem?_eq_none (by rw [List.length_reverse]; omega)]
def wVA (s:Sc):Prop:=(s.p=true/\s.n=0/\0<=s.b)\/(s.p=false/\s.b=0)
theorem GoodS.spell {p:Pg}{k:Int}{s:Sc}(h:GoodS p k s):wVA s:=by
 rcases h with ⟨_,h1,h2,h3,_⟩ | ⟨_,h1,h2,_⟩
 ·exact .inl ⟨h1,h2,h3.1⟩
 ·exact .inr ⟨h1,h2⟩
theorem xJB {n:Nat}{s:Sc}(h:s.p=false):(iK false n s).reverse=iK true n s:=by
 apply List.ext_getElem?;intro j;by_cases hj:j < n
 ·rw [List.getElem?_reverse (by rw [jV]; exact hj),jV];unfold iK;rw [List.getElem?_map,List.getElem?_map,List.getElem?_range (by omega),List.getElem?_range hj];simp only [cZ,pK,h,Bool.false_eq_true,if_false,if_true]
 ·rw [List.getElem?_eq_none (by rw [List.length_reverse,jV]; omega),List.getElem?_eq_none (by rw [jV]; omega)]
theorem xJC {n:Nat}{s:Sc}{big:Bool}(h:s.p=true):iK false n s=iK big n s:=by
 unfold iK;apply List.map_congr_left;intro i _;simp [pK,h]
theorem xJE:∀i:Nat,i < 4->band .i64 (sW .i64 0 (8 * (i:Int))) 255=0:=by decide
def uP (r:Sc × Int):kF:=⟨r.1,r.2⟩
def xB (t:Int × Int):kF:=⟨⟨false,t.1,0,0⟩,t.2⟩
def qGJ (p:Pg)(m:List Bl)(x:Xp)(a:Sc):kF:=
 if x.op=3 then uP (rE p.big p.ptr x.kind m a) else if x.op=4 then xB (yX (bF p.exprs x.a) a.n % 2 ^ (iF x.kind).toNat,0)
 else if bF p.exprs x.a=7 then xB (if a.b=0 then 1 else 0,0) else xB (qWW x.op (bF p.exprs x.a) a.n)
def qGG (p:Pg)(m:List Bl)(x:Xp)(a b:Sc):kF:=
 if x.op=20 then uP (rU m a b.n) else if x.op=21 then xB (nD a b) else if x.op=22 then xB (if a=b then 1 else 0,0)
 else xB (rO x.op (bF p.exprs x.a) a.n b.n)
def exF (p:Pg)(m:List Bl)(x:Xp)(a b:kF):kF:=
 if x.op=1 then ⟨⟨decide (x.kind=7),x.n,0,0⟩,0⟩ else if x.op=2 then ⟨⟨true,0,x.n,0⟩,0⟩ else if ¬a.w=0 then a else if x.op<=7 then qGJ p m x a.s
 else if ¬b.w=0 then b else qGG p m x a.s b.s
def qWE (y:kF):kF:=if y.w=0 then y else ⟨z0,y.w⟩
theorem zero_num (t:Int × Int):qWE (xB t)=uP (qWK t):=by
 unfold qWE xB qWK uP;by_cases h:t.2=0
 ·simp [h]
 ·simp [h]
theorem wVB {p:Pg}{k:Int}{r:Sc × Int}(h:vS p k r):qWE (uP r)=uP r:=by
 unfold qWE uP;rcases h with ⟨h,_⟩ | ⟨h1,h2⟩
 ·rw [if_pos h]
 ·split
  ·rfl
  ·rw [h2]
theorem xJF {p:Pg}(hc:wY p=true){m:List Bl}(hm:iP p m){i:Nat}{x:Xp}(hx:iV p.vars.length p.exprs i x=true){ra rb:Sc × Int}{fa fb:kF}
  (ga:0 < bH x.op->vS p (bF p.exprs x.a) ra/\fa=uP ra)(gb:1 < bH x.op->vS p (bF p.exprs x.b) rb/\fb=uP rb) :
  qWE (exF p m x fa fb)=uP (exV p m x ra rb):=by
 obtain ⟨o1,o22,_,_⟩:=oD hx;have hgood:=yHW hc hm hx (fun h=>(ga h).1) (fun h=>(gb h).1);by_cases e1:x.op=1
 ·have m0:bH x.op=0:=by rw [e1]; decide
  have ev:exV p m x ra rb=iJ p m x ra.1 rb.1:=by
   unfold exV; rw [if_neg (fun h=>absurd h.1 (by rw [m0]; decide)),if_neg (fun h=>absurd h.1 (by rw [m0]; decide))]
  rw [ev];unfold iJ exF;rw [if_pos e1,if_pos e1]; rfl
 by_cases e2:x.op=2
 ·have m0:bH x.op=0:=by rw [e2]; decide
  have ev:exV p m x ra rb=iJ p m x ra.1 rb.1:=by
   unfold exV; rw [if_neg (fun h=>absurd h.1 (by rw [m0]; decide)),if_neg (fun h=>absurd h.1 (by rw [m0]; decide))]
  rw [ev];unfold iJ exF;rw [if_neg e1,if_neg e1,if_pos e2,if_pos e2]; rfl
 have mo:0 < bH x.op:=by
  unfold bH; rw [if_neg (by omega)]; split <;> omega
 obtain ⟨ga1,rfl⟩:=ga mo;have key:∀y:kF,y=uP (exV p m x ra rb)->qWE y=uP (exV p m x ra rb):=fun y hy=>by rw [hy]; exact wVB hgood
 by_cases ha:ra.2=0;rotate_left
 ·have ev:exV p m x ra rb=(z0,ra.2):=by unfold exV; rw [if_pos ⟨mo,ha⟩]
  rw [ev];unfold exF;rw [if_neg e1,if_neg e2,if_pos (show ¬(uP ra).w=0 from ha)];unfold qWE;rw [if_neg (show ¬(uP ra).w=0 from ha)]; rfl
 by_cases h7:x.op<=7
 ·obtain ⟨mn,_,_,h56⟩:=qJA hx (by omega) h7;have ev:exV p m x ra rb=iJ p m x ra.1 rb.1:=by
   unfold exV; rw [if_neg (fun h=>h.2 ha),if_neg (fun h=>absurd h.1 (by rw [mn]; decide))]
  have ef:exF p m x (uP ra) fb=qGJ p m x ra.1:=by
   unfold exF;rw [if_neg e1,if_neg e2,if_neg (show ¬¬(uP ra).w=0 from fun h=>h ha),if_pos h7]; rfl
  rw [ev] at hgood key ⊢;rw [ef];unfold qGJ iJ;rw [if_neg e1,if_neg e2];by_cases e3:x.op=3
  ·rw [if_pos e3,if_pos e3];unfold iJ at hgood;rw [if_neg e1,if_neg e2,if_pos e3] at hgood;exact wVB hgood
  rw [if_neg e3,if_neg e3];by_cases e4:x.op=4
  ·rw [if_pos e4,if_pos e4]; rfl
  rw [if_neg e4,if_neg e4];by_cases e7:x.op=7
  ·rw [if_pos e7];split
   ·rfl
   ·rw [zero_num,e7]
  ·obtain ⟨hk,hka⟩:=h56 (by omega);rw [if_neg e7,if_pos (show x.op=5\/x.op=6 by omega),hka,if_neg (jHQ hk).1,zero_num]
 obtain ⟨mn,_,_,h19⟩:=qJB hx (by omega);obtain ⟨gb1,rfl⟩:=gb (by omega);by_cases hb:rb.2=0;rotate_left
 ·have ev:exV p m x ra rb=(z0,rb.2):=by unfold exV; rw [if_neg (fun h=>h.2 ha),if_pos ⟨by omega,hb⟩]
  rw [ev];unfold exF;rw [if_neg e1,if_neg e2,if_neg (show ¬¬(uP ra).w=0 from fun h=>h ha),if_neg h7,if_pos (show ¬(uP rb).w=0 from hb)];unfold qWE;rw [if_neg (show ¬(uP rb).w=0 from hb)]; rfl
 have ev:exV p m x ra rb=iJ p m x ra.1 rb.1:=by
  unfold exV; rw [if_neg (fun h=>h.2 ha),if_neg (fun h=>h.2 hb)]
 have ef:exF p m x (uP ra) (uP rb)=qGG p m x ra.1 rb.1:=by
  unfold exF;rw [if_neg e1,if_neg e2,if_neg (show ¬¬(uP ra).w=0 from fun h=>h ha),if_neg h7,if_neg (show ¬¬(uP rb).w=0 from fun h=>h hb)]; rfl
 rw [ev] at hgood key ⊢;rw [ef];unfold qGG iJ;rw [if_neg e1,if_neg e2,if_neg (show ¬x.op=3 by omega),if_neg (show ¬x.op=4 by omega),if_neg (show ¬x.op=7 by omega),if_neg (show ¬(x.op=5\/x.op=6) by omega)];by_cases e20:x.op=20
 ·rw [if_pos e20,if_pos e20];unfold iJ at hgood;rw [if_neg e1,if_neg e2,if_neg (show ¬x.op=3 by omega),if_neg (show ¬x.op=4 by omega),if_neg (show ¬x.op=7 by omega),if_neg (show ¬(x.op=5\/x.op=6) by omega),if_pos e20] at hgood;exact wVB hgood
 rw [if_neg e20,if_neg e20];by_cases e21:x.op=21
 ·rw [if_pos e21,if_pos e21,zero_num]
 rw [if_neg e21,if_neg e21];by_cases e22:x.op=22
 ·rw [if_pos e22,if_pos e22]; rfl
 rw [if_neg e22,if_neg e22,zero_num]
def qGV (a:Option Addr)(m:List Bl)(q:Nat):Prop:=a=some ⟨q,0,none⟩\/∃x∈m,x.lA=some ⟨q,0,none⟩
theorem yQE {l bs:List By}{off:Nat}(h:off+bs.length<=l.length):(l.flatMap By.cs).take (off * 5)++bs.flatMap By.cs++(l.flatMap By.cs).drop (off * 5+bs.length * 5)=(splice l off bs).flatMap By.cs:=by
 unfold splice;have key:∀k,k<=l.length->(l.flatMap By.cs).take (k * 5)=(l.take k).flatMap By.cs/\(l.flatMap By.cs).drop (k * 5)=(l.drop k).flatMap By.cs:=fun k hk=>by
  have h1:((l.take k).flatMap By.cs).length=k * 5:=by rw [yG By.len,dW]; congr 1; omega
  have h2:l.flatMap By.cs=(l.take k).flatMap By.cs++(l.drop k).flatMap By.cs:=by rw [<-List.flatMap_append,List.take_append_drop]
  rw [h2,List.take_left' h1,List.drop_left' h1];exact ⟨rfl,rfl⟩
 have t1:=(key off (by omega)).1;have t2:=(key (off+bs.length) (by omega)).2;rw [Nat.add_mul] at t2;rw [t1,t2,List.flatMap_append,List.flatMap_append]
theorem qQJ {m:List Bl}{b:Nat}{st:Int}{a:Option Addr}{c:Nat}{l:List By}:kD (m.set b ⟨st,a,c,l⟩)=setB (kD m) b st l:=by
 rw [qXE]; unfold setB; rw [aB]; rfl
theorem jDG {a:Option Addr}{m:List Bl}{b:Nat}(hb:b < m.length){x:Bl}(hx:x.lA=(m[b]).lA)(q:Nat)(h:qGV a (m.set b x) q):qGV a m q:=by
 rcases h with h | ⟨y,hy,e⟩
 ·exact .inl h
 ·rcases List.mem_or_eq_of_mem_set hy with hy | rfl
  ·exact .inr ⟨y,hy,e⟩
  ·exact .inr ⟨_,aH hb,by rw [<-hx]; exact e⟩
end Go.Ax
namespace Go.Ax
open Go
set_option linter.unusedVariables false
set_option linter.unusedSimpArgs false
abbrev gXD:Sh:=.cons 1 uJ (.cons 1 uJ .nil)
abbrev gXY:Sh:=.cons 1 .bool (.cons 1 (.slice 2 16 vXB) (.cons 1 (.slice 3 56 zVK) (.cons 1 (.int .i64) .nil)))
abbrev gXA:Sh:=.cons 1 (.int .i64) (.cons 1 (.int .i64) (.cons 1 (.int .i64) .nil))
abbrev xGQ:Sh:=.cons 1 (.slice 7 136 zVV) (.cons 1 uJ .nil)
abbrev xGW:Sh:=.cons 2 xGQ (.cons 1 (.slice 5 72 zVX) (.cons 1 (.slice 2 48 gXD) .nil))
abbrev xGX:Sh:=.cons 4 xGW (.cons 1 (.slice 3 24 gXA) .nil)
abbrev qHE:Sh:=.cons 5 xGX (.cons 1 (.slice 4 64 gXY) (.cons 1 uJ .nil))
def cfC (x:Int × Int × Int):List Value:=[.int .i64 x.1,.int .i64 x.2.1,.int .i64 x.2.2]
structure bC where
 pA:Option Addr
 pC:Nat
 p:List Pg
 nA:Option Addr
 nC:Nat
 n:List Int
 sA:Option Addr
 sC:Nat
 s:List dM
 tA:Option Addr
 tC:Nat
 t:List Sr
 cA:Option Addr
 cC:Nat
 c:List (Int × Int × Int)
 eA:Option Addr
 eC:Nat
 e:List Rp
 mA:Option Addr
 mC:Nat
 m:List Int
def bC.c2 (q:bC):List Value:=[.slice q.pA q.p.length q.pC,.slice q.nA q.n.length q.nC]
def bC.v2 (q:bC):Value:=.agg q.c2.toArray
@[go_sem] theorem bC.gDX {q:bC}:Value.agg q.c2.toArray=q.v2:=rfl
@[go_sem] theorem bC.vJQ {q:bC}:Value.cells.match_1 (fun _=>Array Value) q.v2 (fun cs=>cs) (fun u=>#[u])=q.c2.toArray:=rfl
@[go_sem] theorem bC.gXB {q:bC}:q.v2.cells=q.c2.toArray:=rfl
@[go_sem] theorem bC.gDZ {q:bC}:q.c2.toArray.size=2:=rfl
@[go_sem] theorem bC.dKJ {q:bC}:q.c2.length=2:=rfl
@[go_sem] theorem bC.gXC {q:bC}:wQ q.c2=True:=by
 apply eq_true;intro u hu;simp only [bC.c2,aQ,aV,or_false] at hu;rcases hu with rfl | rfl <;> rfl
@[go_sem] theorem bC.dKG {q:bC}:q.c2.take 2=q.c2:=rfl
@[go_sem] theorem bC.gDK {q:bC}:q.c2.drop 2=[]:=rfl
@[go_sem] theorem bC.gDJ {q:bC}:q.c2[0]? = some (.slice q.pA q.p.length q.pC):=rfl
@[go_sem] theorem bC.gDG {q:bC}:q.c2[1]? = some (.slice q.nA q.n.length q.nC):=rfl
def bC.c4 (q:bC):List Value:=[.slice q.pA q.p.length q.pC,.slice q.nA q.n.length q.nC,.slice q.sA q.s.length q.sC,.slice q.tA q.t.length q.tC]
def bC.v4 (q:bC):Value:=.agg q.c4.toArray
@[go_sem] theorem bC.gDV {q:bC}:Value.agg q.c4.toArray=q.v4:=rfl
@[go_sem] theorem bC.vJW {q:bC}:Value.cells.match_1 (fun _=>Array Value) q.v4 (fun cs=>cs) (fun u=>#[u])=q.c4.toArray:=rfl
@[go_sem] theorem bC.gXE {q:bC}:q.v4.cells=q.c4.toArray:=rfl
@[go_sem] theorem bC.gDH {q:bC}:q.c4.toArray.size=4:=rfl
@[go_sem] theorem bC.dKV {q:bC}:q.c4.length=4:=rfl
@[go_sem] theorem bC.gXF {q:bC}:wQ q.c4=True:=by
 apply eq_true;intro u hu;simp only [bC.c4,aQ,aV,or_false] at hu;rcases hu with rfl | rfl | rfl | rfl <;> rfl
@[go_sem] theorem bC.dKH {q:bC}:q.c4.take 4=q.c4:=rfl
@[go_sem] theorem bC.gDD {q:bC}:q.c4.drop 4=[]:=rfl
@[go_sem] theorem bC.c4_c2 {q:bC}:List.take 2 q.c4=q.c2:=rfl
@[go_sem] theorem bC.gDY {q:bC}:q.c4[0]? = some (.slice q.pA q.p.length q.pC):=rfl
@[go_sem] theorem bC.gDA {q:bC}:q.c4[1]? = some (.slice q.nA q.n.length q.nC):=rfl
@[go_sem] theorem bC.gDB {q:bC}:q.c4[2]? = some (.slice q.sA q.s.length q.sC):=rfl
@[go_sem] theorem bC.gDC {q:bC}:q.c4[3]? = some (.slice q.tA q.t.length q.tC):=rfl
def bC.c5 (q:bC):List Value:=[.slice q.pA q.p.length q.pC,.slice q.nA q.n.length q.nC,.slice q.sA q.s.length q.sC,.slice q.tA q.t.length q.tC,.slice q.cA q.c.length q.cC]
def bC.v5 (q:bC):Value:=.agg q.c5.toArray
@[go_sem] theorem bC.gDE {q:bC}:Value.agg q.c5.toArray=q.v5:=rfl
@[go_sem] theorem bC.vJX {q:bC}:Value.cells.match_1 (fun _=>Array Value) q.v5 (fun cs=>cs) (fun u=>#[u])=q.c5.toArray:=rfl
@[go_sem] theorem bC.gZQ {q:bC}:q.v5.cells=q.c5.toArray:=rfl
@[go_sem] theorem bC.gDF {q:bC}:q.c5.toArray.size=5:=rfl
@[go_sem] theorem bC.dKD {q:bC}:q.c5.length=5:=rfl
@[go_sem] theorem bC.gZW {q:bC}:wQ q.c5=True:=by
 apply eq_true;intro u hu;simp only [bC.c5,aQ,aV,or_false] at hu;rcases hu with rfl | rfl | rfl | rfl | rfl <;> rfl
@[go_sem] theorem bC.dKY {q:bC}:q.c5.take 5=q.c5:=rfl
@[go_sem] theorem bC.gYQ {q:bC}:q.c5.drop 5=[]:=rfl
@[go_sem] theorem bC.c5_c2 {q:bC}:List.take 2 q.c5=q.c2:=rfl
@[go_sem] theorem bC.c5_c4 {q:bC}:List.take 4 q.c5=q.c4:=rfl
@[go_sem] theorem bC.gYW {q:bC}:q.c5[0]? = some (.slice q.pA q.p.length q.pC):=rfl
@[go_sem] theorem bC.gYX {q:bC}:q.c5[1]? = some (.slice q.nA q.n.length q.nC):=rfl
@[go_sem] theorem bC.gYZ {q:bC}:q.c5[2]? = some (.slice q.sA q.s.length q.sC):=rfl
@[go_sem] theorem bC.gYK {q:bC}:q.c5[3]? = some (.slice q.tA q.t.length q.tC):=rfl
@[go_sem] theorem bC.gYJ {q:bC}:q.c5[4]? = some (.slice q.cA q.c.length q.cC):=rfl
def bC.cs (q:bC):List Value:=[.slice q.pA q.p.length q.pC,.slice q.nA q.n.length q.nC,.slice q.sA q.s.length q.sC,.slice q.tA q.t.length q.tC,.slice q.cA q.c.length q.cC,.slice q.eA q.e.length q.eC,.slice q.mA q.m.length q.mC]
def bC.val (q:bC):Value:=.agg q.cs.toArray
@[go_sem] theorem bC.gYG {q:bC}:Value.agg q.cs.toArray=q.val:=rfl
@[go_sem] theorem bC.vJZ {q:bC}:Value.cells.match_1 (fun _=>Array Value) q.val (fun cs=>cs) (fun u=>#[u])=q.cs.toArray:=rfl
@[go_sem] theorem bC.gZX {q:bC}:q.val.cells=q.cs.toArray:=rfl
@[go_sem] theorem bC.iY {q:bC}:q.cs.toArray.size=7:=rfl
@[go_sem] theorem bC.lU {q:bC}:q.cs.length=7:=rfl
@[go_sem] theorem bC.yD {q:bC}:wQ q.cs=True:=by
 apply eq_true;intro u hu;simp only [bC.cs,aQ,aV,or_false] at hu;rcases hu with rfl | rfl | rfl | rfl | rfl | rfl | rfl <;> rfl
@[go_sem] theorem bC.dKA {q:bC}:q.cs.take 7=q.cs:=rfl
@[go_sem] theorem bC.gYV {q:bC}:q.cs.drop 7=[]:=rfl
@[go_sem] theorem bC.cs_c2 {q:bC}:List.take 2 q.cs=q.c2:=rfl
@[go_sem] theorem bC.cs_c4 {q:bC}:List.take 4 q.cs=q.c4:=rfl
@[go_sem] theorem bC.cs_c5 {q:bC}:List.take 5 q.cs=q.c5:=rfl
@[go_sem] theorem bC.gYH {q:bC}:q.cs[0]? = some (.slice q.pA q.p.length q.pC):=rfl
@[go_sem] theorem bC.gYD {q:bC}:q.cs[1]? = some (.slice q.nA q.n.length q.nC):=rfl
@[go_sem] theorem bC.gYY {q:bC}:q.cs[2]? = some (.slice q.sA q.s.length q.sC):=rfl
@[go_sem] theorem bC.gYA {q:bC}:q.cs[3]? = some (.slice q.tA q.t.length q.tC):=rfl
@[go_sem] theorem bC.gYB {q:bC}:q.cs[4]? = some (.slice q.cA q.c.length q.cC):=rfl
@[go_sem] theorem bC.gYC {q:bC}:q.cs[5]? = some (.slice q.eA q.e.length q.eC):=rfl
@[go_sem] theorem bC.gYE {q:bC}:q.cs[6]? = some (.slice q.mA q.m.length q.mC):=rfl
structure Sr.inB (B:Nat->Option (List Value))(s:Sr):Prop where
 many:s.rs.length<=140737488351232/\s.ns.length<=140737488351232
 rd:∀F M,Ext B F M->s.rd F M
structure Rp.inB (B:Nat->Option (List Value))(r:Rp):Prop where
 many:r.al.length<=140737488351232/\r.en.length<=140737488351232
 al:∀F M,Ext B F M->dF 2 Al.cs F M (.slice r.alA r.al.length r.alC) r.al
 en:∀F M,Ext B F M->dF 3 En.cs F M (.slice r.enA r.en.length r.enC) r.en
 ens:∀e∈r.en,e.inB B
theorem Rp.inB.rd {B:Nat->Option (List Value)}{r:Rp}(h:r.inB B){F:Fz}{M:Hp}(hB:Ext B F M):r.rd F M:=⟨h.al F M hB,h.en F M hB,fun e he=>(h.ens e he).rd F M hB⟩
section
variable {B:Nat->Option (List Value)}
theorem vJK {x:List Value}(h:Rd B vXB x):∃s:Al,x=s.cs:=by
 obtain ⟨x0,c,rfl,h0,h⟩:=dR h;obtain ⟨x1,c,rfl,h1,h⟩:=dR h;obtain rfl:=nO h;obtain ⟨n0,rfl,_⟩:=uN h0;obtain ⟨n1,rfl,_⟩:=uN h1;exact ⟨⟨n0,n1⟩,rfl⟩
theorem gZZ {x:List Value}(h:Rd B gXD x):∃s:Sr,x=s.cs/\s.inB B:=by
 obtain ⟨x0,c,rfl,h0,h⟩:=dR h;obtain ⟨x1,c,rfl,h1,h⟩:=dR h;obtain rfl:=nO h;obtain ⟨a,cap,l,rfl,g1,g2,g3,g4⟩:=wQZ h0;obtain ⟨a',cap',l',rfl,k1,k2,k3,k4⟩:=wQZ h1;exact ⟨⟨a,cap,l,a',cap',l'⟩,rfl,⟨g2,k2⟩,fun F M hB=>⟨g4 F M hB,k4 F M hB⟩⟩
theorem gZK {x:List Value}(h:Rd B gXA x):∃s:Int × Int × Int,x=cfC s:=by
 obtain ⟨x0,c,rfl,h0,h⟩:=dR h;obtain ⟨x1,c,rfl,h1,h⟩:=dR h;obtain ⟨x2,c,rfl,h2,h⟩:=dR h;obtain rfl:=nO h;obtain ⟨n0,rfl,_⟩:=uN h0;obtain ⟨n1,rfl,_⟩:=uN h1;obtain ⟨n2,rfl,_⟩:=uN h2;exact ⟨(n0,n1,n2),rfl⟩
theorem gZJ {x:List Value}(h:Rd B gXY x):∃s:Rp,x=s.cs/\s.inB B:=by
 obtain ⟨x0,c,rfl,h0,h⟩:=dR h;obtain ⟨x1,c,rfl,h1,h⟩:=dR h;obtain ⟨x2,c,rfl,h2,h⟩:=dR h;obtain ⟨x3,c,rfl,h3,h⟩:=dR h;obtain rfl:=nO h;obtain ⟨b0,rfl⟩:=vXA h0;obtain ⟨a,cap,l,rfl,g1,g2,g3,g4⟩:=qZE (f:=Al.cs) (Q:=fun _=>True) h1 (by decide) (by decide) (fun x _ hx=>by obtain ⟨s,hs⟩:=vJK hx; exact ⟨s,hs,trivial⟩);obtain ⟨a',cap',l',rfl,k1,k2,k3,k4⟩:=qZE (f:=En.cs) (Q:=En.inB B) h2 (by decide) (by decide) (fun x _ hx=>zVA hx);obtain ⟨n3,rfl,_⟩:=uN h3;exact ⟨⟨b0,a,cap,l,a',cap',l',n3⟩,rfl,⟨g2,k2⟩,g4,k4,k3⟩
structure bC.inB (B:Nat->Option (List Value))(q:bC):Prop where
 p:∀F M,Ext B F M->dF 7 Pg.cs F M (.slice q.pA q.p.length q.pC) q.p
 ps:∀x∈q.p,x.inB B
 s:∀F M,Ext B F M->dF 5 dM.cs F M (.slice q.sA q.s.length q.sC) q.s
 ss:∀x∈q.s,x.inB B
 t:∀F M,Ext B F M->dF 2 Sr.cs F M (.slice q.tA q.t.length q.tC) q.t
 ts:∀x∈q.t,x.inB B
 e:∀F M,Ext B F M->dF 4 Rp.cs F M (.slice q.eA q.e.length q.eC) q.e
 es:∀x∈q.e,x.inB B
 zero:(q.tA=none->q.tC=0)/\(q.eA=none->q.eC=0)
 many:(q.p.length<=140737488351232/\q.n.length<=140737488351232)/\(q.s.length<=140737488351232/\q.t.length<=140737488351232)/\q.c.length<=140737488351232/\q.e.length<=140737488351232/\q.m.length<=140737488351232
theorem jDV {cs:List Value}(h:Rd B qHE cs):∃q:bC,cs=q.cs/\q.inB B:=by
 obtain ⟨y5,c,rfl,hy5,h19,h⟩:=yR h;obtain ⟨xe,c,rfl,he,h⟩:=dR h;obtain ⟨xm,c,rfl,hm,h⟩:=dR h;obtain rfl:=nO h;obtain ⟨y4,c,rfl,hy4,h13,h⟩:=yR h19;obtain ⟨xc,c,rfl,hc,h⟩:=dR h;obtain rfl:=nO h;obtain ⟨y2,c,rfl,hy2,h12,h⟩:=yR h13;obtain ⟨xs,c,rfl,hs,h⟩:=dR h;obtain ⟨xt,c,rfl,ht,h⟩:=dR h;obtain rfl:=nO h;obtain ⟨xp,c,rfl,hp,h⟩:=dR h12;obtain ⟨xn,c,rfl,hn,h⟩:=dR h;obtain rfl:=nO h;obtain ⟨a1,c1,l1,rfl,p1,p2,p3,p4⟩:=qZE (f:=Pg.cs) (Q:=Pg.inB B) hp (by decide) (by decide) (fun x _ hx=>zVC hx);obtain ⟨a2,c2,l2,rfl,q1,q2,q3,q4⟩:=wQZ hn;obtain ⟨a3,c3,l3,rfl,r1,r2,r3,r4⟩:=qZE (f:=dM.cs) (Q:=dM.inB B) hs (by decide) (by decide) (fun x _ hx=>vXC hx);obtain ⟨a4,c4,l4,rfl,s1,s2,s3,s4⟩:=qZE (f:=Sr.cs) (Q:=Sr.inB B) ht (by decide) (by decide) (fun x _ hx=>gZZ hx);obtain ⟨a5,c5,l5,rfl,t1,t2,t3,t4⟩:=qZE (f:=cfC) (Q:=fun _=>True) hc (by decide) (by decide) (fun x _ hx=>by obtain ⟨s,hs⟩:=gZK hx; exact ⟨s,hs,trivial⟩);obtain ⟨a6,c6,l6,rfl,u1,u2,u3,u4⟩:=qZE (f:=Rp.cs) (Q:=Rp.inB B) he (by decide) (by decide) (fun x _ hx=>gZJ hx);obtain ⟨a7,c7,l7,rfl,v1,v2,v3,v4⟩:=wQZ hm;exact ⟨⟨a1,c1,l1,a2,c2,l2,a3,c3,l3,a4,c4,l4,a5,c5,l5,a6,c6,l6,a7,c7,l7⟩,rfl,p4,p3,r4,r3,s4,s3,u4,u3,⟨s1,u1⟩,⟨p2,q2⟩,⟨r2,s2⟩,t2,u2,v2⟩
end
end Go.Ax
namespace Go.Proofs.Tryz.K
open Go Go.Ax Go.Proofs.Tryz.S
variable (F:Fz) (M:Hp)
def hvJ (T:Int)(v w:Nat)(P:Nat->Prop)(F0:Fz)(M0:Hp)(i:Nat)(σ:Env)(F:Fz)(M:Hp):Prop:=
 F0=F/\M0=M/\Ax.look σ v=some (.int .i64 i)/\∃n:Int,Ax.look σ w=some (.int .i64 n)/\0<=n/\n<=2251799813685248/\(n<=T->P i)
def hvK (T:Int)(w:Nat)(P:Prop)(F0:Fz)(M0:Hp)(σ:Env)(F:Fz)(M:Hp):Prop:=
 F0=F/\M0=M/\∃n:Int,Ax.look σ w=some (.int .i64 n)/\0<=n/\n<=4503599627370496/\(n<=T->P)
def dKE (P:Prop)(F:Fz)(M:Hp)(v:Value)(F':Fz)(M':Hp):Prop:=F'=F/\M'=M/\∃n:Int,v=.int .i64 n/\0<=n/\n<=2251799813685248/\(n<=3000->P)
def hvR (P:Prop)(F:Fz)(M:Hp)(u:Value)(F':Fz)(M':Hp):Prop:=F'=F/\M'=M/\∃b:Bool,u=.bool b/\(b=false->P)
theorem yJH (e:En)(h:e.rd F M)(hl:e.cells.length<=140737488351232/\e.news.length<=140737488351232)(hb:∀c∈e.cells,c.l.length<=140737488351232) :
  aI prog 18 [e.val] F M (dKE (En.yJV e) F M):=by
 refine qZ hm func18 e18 (aA rfl) ?_;have e0:i64.wrap ((e.cells.length:Int)+e.news.length)=e.cells.length+e.news.length:=dQ (by omega) (by omega);simp only [c18,go_sem];intro r1 hF1 hM1;have h1:e.rd F (M.upd r1 ⟨e.cs,51,3⟩):=h.new hF1 hM1;have f1:(M.upd r1 ⟨e.cs,51,3⟩) r1=some ⟨e.cs,51,3⟩:=Hp.qV _ _ _;have oV:Keep M (M.upd r1 ⟨e.cs,51,3⟩):=(by repeat' first | exact Keep.refl _ | (refine Keep.new ?_ (by simp only [*])))
 generalize M.upd r1 ⟨e.cs,51,3⟩=M1 at *;have b1:=qG (F:=F) f1;simp only [go_sem,b1,e0];refine wV e.cells.length (hvJ 3000 4 3 (fun i=>e.cells.length<=3000/\e.news.length<=3000/\∀c∈e.cells.take i,c.l.length<=3000) F M1) ⟨rfl,rfl,(by simp only [go_sem, *] <;> rfl),_,(by simp only [go_sem, *] <;> rfl),by omega,by omega,fun h=>⟨by omega,by omega,fun b hb=>by simp at hb⟩⟩ ?_;rintro i σ F' M' hi hst ⟨rfl,rfl,q4,n,q3,n0,n1,hP⟩;have q1:=hst 1 rfl;simp only [go_sem] at q1;clear hst;have hP:n<=3000->e.cells.length<=3000/\e.news.length<=3000/\∀c∈e.cells.take i,c.l.length<=3000:=hP;by_cases hil:(i:Int) < e.cells.length;rotate_left
 ·rw [aJ (by omega)] at hP;simp only [go_sem,q1,q3,q4,b1,hil];exact qX oV ⟨rfl,rfl,n,rfl,n0,n1,hP⟩
 by_cases hn:n < 1048576;rotate_left
 ·simp only [go_sem,q1,q3,q4,b1,hil,hn];exact qX oV ⟨rfl,rfl,n,rfl,n0,n1,fun h=>by omega⟩
 have hi0:(0:Int)<=i:=by omega
 have hi1:i < e.cells.length:=by omega
 have ei:i64.wrap ((i:Int)+1)=i+1:=dQ (by omega) (by omega);obtain ⟨b,o,cs,ea,hbk,rows⟩:=h1.cells.rows (by omega);obtain ⟨d1,d2⟩:=rows i hi1;obtain ⟨_,_,_,_,_,_,_,_,_,d2⟩:=Go.Ax.Cl.row d2;have d2':cs[o+i * 10+3+6]? = some (.slice (e.cells[i]).lA (e.cells[i]).l.length (e.cells[i]).lC):=d2;clear rows;have hx:=hb _ (aH hi1);have t1:=aF hi1;generalize e.cells[i]=x at *;have en:i64.wrap (n+(x.l.length:Int))=n+x.l.length:=dQ (by omega) (by omega);simp only [go_sem,q1,q3,q4,b1,hil,hn,hi0,ea,aB,hbk,d2',ei,en];refine ⟨hi1,rfl,rfl,(by simp only [go_sem, *] <;> rfl),n+x.l.length,(by simp only [go_sem, *] <;> rfl),by omega,by omega,fun h=>⟨(hP (by omega)).1,(hP (by omega)).2.1,fun y hy=>?_⟩⟩;rw [t1] at hy;rcases aW.1 hy with hy | hy
 ·exact (hP (by omega)).2.2 y hy
 ·rw [aX.1 hy]; omega
def l12 (q:bC):Prop:=(∀x∈q.p,x.few)/\q.p.length<=2500
theorem k87 (q:bC)(h:q.inB F)(hold:Old F M):aI prog 87 [q.v2] F M (hvR (l12 q) F M):=by
 refine qZ hm func87 e87 (aA rfl) ?_
 obtain ⟨m1,_⟩:=h.many
 have e0:i64.wrap ((q.p.length:Int)+q.n.length)=q.p.length+q.n.length:=dQ (by omega) (by omega)
 simp only [c87,go_sem]
 intro r1 hF1 hM1
 generalize eQ:M.upd r1 ⟨q.c2,25,2⟩=M1 at *
 obtain ⟨oV,kY,f1⟩:=nw eQ hold hF1 hM1
 clear eQ
 have b1:=qG (F:=F) f1
 simp only [go_sem,b1,e0]
 refine wV q.p.length (hvJ 900 4 3 (fun i=>(∀x∈q.p.take i,x.few)/\q.p.length<=2500) F M1) ⟨rfl,rfl,(by simp only [go_sem, *] <;> rfl),_,(by simp only [go_sem, *] <;> rfl),by omega,by omega,fun h=>⟨fun b hb=>by simp at hb,by omega⟩⟩ ?_
 rintro i σ F' M' hi hst ⟨rfl,rfl,q4,n,q3,n0,n1,hP⟩
 have q1:=hst 1 rfl
 simp only [go_sem] at q1
 clear hst
 have hP:n<=900->(∀x∈q.p.take i,x.few)/\q.p.length<=2500:=hP
 have fin:∀n:Int,(n<=900->l12 q)->lK F M1 (hvR (l12 q) F M) (.bool (decide (900 < n))):=fun n hn=>qX oV ⟨rfl,rfl,_,rfl,fun h=>hn (by simpa using h)⟩
 by_cases hil:(i:Int) < q.p.length
 rotate_left
 ·rw [aJ (by omega)] at hP
  simp only [go_sem,q1,q3,q4,b1,hil]
  exact fin n hP
 by_cases hn:n < 1048576
 rotate_left
 ·simp only [go_sem,q1,q3,q4,b1,hil,hn]
  exact fin n (fun h=>by omega)
 have hi0:(0:Int)<=i:=by omega
 have hi1:i < q.p.length:=by omega
 have ei:i64.wrap ((i:Int)+1)=i+1:=dQ (by omega) (by omega)
 obtain ⟨b,o,cs,ea,hbk,d1,d2⟩:=dF.at (h.p F M1 (Ext.old kY)) hi1
 have hx:=h.ps _ (aH hi1)
 have t1:=aF hi1
 generalize q.p[i]=x at *
 simp only [go_sem,q1,q3,q4,b1,hil,hn,hi0,ea,aB,hbk,d1,d2]
 with_reducible refine wW (dWQ F M1 x hx kY) ?_
 rintro u F' M' ⟨hG,hM,w,rfl,w0,w1,hw⟩
 subst hG hM
 refine ⟨(fun h=>by cases h),?_⟩
 have en:i64.wrap (n+w)=n+w:=dQ (by omega) (by omega)
 simp only [go_sem,q4,ei,en]
 refine ⟨hi1,rfl,rfl,(by simp only [go_sem, *] <;> rfl),n+w,(by simp only [go_sem, *] <;> rfl),by omega,by omega,fun h=>⟨fun y hy=>?_,(hP (by omega)).2⟩⟩
 rw [t1] at hy
 rcases aW.1 hy with hy | hy
 ·exact (hP (by omega)).1 y hy
 ·rw [aX.1 hy]; exact hw (by omega)
def l13 (q:bC):Prop:=l12 q/\q.t.length<=1500/\∀x∈q.t,x.rs.length<=1500/\x.ns.length<=1500
theorem k46 (q:bC)(h:q.inB F)(hold:Old F M):aI prog 46 [q.v4] F M (hvR (l13 q) F M):=by
 refine qZ hm func46 e46 (aA rfl) ?_
 obtain ⟨_,m1,_⟩:=h.many
 have e0:i64.wrap ((q.s.length:Int)+q.t.length)=q.s.length+q.t.length:=dQ (by omega) (by omega)
 simp only [c46,go_sem]
 intro r1 hF1 hM1
 generalize eQ:M.upd r1 ⟨q.c4,29,4⟩=M1 at *
 obtain ⟨oV,kY,f1⟩:=nw eQ hold hF1 hM1
 clear eQ
 have b1:=qG (F:=F) f1
 simp only [go_sem,b1,e0]
 refine kQ (hvK 1500 3 (q.t.length<=1500) F M1) ?_ ?_
 ·refine wV q.s.length (hvJ 1500 4 3 (fun _=>q.t.length<=1500) F M1) ⟨rfl,rfl,(by simp only [go_sem, *] <;> rfl),_,(by simp only [go_sem, *] <;> rfl),by omega,by omega,fun h=>by show q.t.length<=1500; omega⟩ ?_
  rintro i σ F' M' hi hst ⟨rfl,rfl,q4,n,q3,n0,n1,hP⟩
  have q1:=hst 1 rfl
  simp only [go_sem] at q1
  clear hst
  have hP:n<=1500->q.t.length<=1500:=hP
  by_cases hil:(i:Int) < q.s.length
  rotate_left
  ·simp only [go_sem,q1,q4,b1,hil]
   exact At.mk ⟨rfl,rfl,n,q3,n0,by omega,hP⟩
  by_cases hn:n < 1048576
  rotate_left
  ·simp only [go_sem,q1,q3,q4,b1,hil,hn]
   exact At.mk ⟨rfl,rfl,n,q3,n0,by omega,hP⟩
  have hi0:(0:Int)<=i:=by omega
  have hi1:i < q.s.length:=by omega
  have ei:i64.wrap ((i:Int)+1)=i+1:=dQ (by omega) (by omega)
  obtain ⟨b,o,cs,ea,hbk,d1,d2⟩:=dF.at (h.s F M1 (Ext.old kY)) hi1
  have hx:=h.ss _ (aH hi1)
  generalize q.s[i]=x at *
  simp only [go_sem,q1,q3,q4,b1,hil,hn,hi0,ea,aB,hbk,d1,d2]
  with_reducible refine wW (k86 F M1 x (hx.rd F M1 (Ext.old kY)) hx.many hx.bytes) ?_
  rintro u F' M' ⟨hG,hM,w,rfl,w0,w1,hw⟩
  subst hG hM
  refine ⟨(fun h=>by cases h),?_⟩
  have en:i64.wrap (n+w)=n+w:=dQ (by omega) (by omega)
  simp only [go_sem,q4,ei,en]
  exact ⟨hi1,rfl,rfl,(by simp only [go_sem, *] <;> rfl),n+w,(by simp only [go_sem, *] <;> rfl),by omega,by omega,fun h=>hP (by omega)⟩
 rintro σ1 F' M' hst ⟨hG,hM,n,q3,n0,n1,hP⟩
 subst hG hM
 have q1:=hst 1 rfl
 simp only [go_sem] at q1
 clear hst
 simp only [go_sem]
 refine kQ (hvK 1500 3 (q.t.length<=1500/\∀x∈q.t,x.rs.length<=1500/\x.ns.length<=1500) F M1) ?_ ?_
 ·refine wV q.t.length (fun i σ F' M'=>(F=F'/\M1=M')/\Ax.look σ 5=some (.int .i64 i)/\∃n:Int,Ax.look σ 3=some (.int .i64 n)/\0<=n/\n<=4503599627370496/\(n<=1500->q.t.length<=1500/\∀x∈q.t.take i,x.rs.length<=1500/\x.ns.length<=1500)) ⟨⟨rfl,rfl⟩,(by simp only [go_sem, *] <;> rfl),n,(by simp only [go_sem, *] <;> rfl),n0,by omega,fun h=>⟨hP h,fun b hb=>by simp at hb⟩⟩ ?_
  clear hP n0 n1
  rintro i σ F' M' hi hst ⟨⟨rfl,rfl⟩,q5,n,q3,n0,n1,hP⟩
  have s1:=hst 1 rfl
  simp only [go_sem,q1] at s1
  clear hst
  by_cases hil:(i:Int) < q.t.length
  rotate_left
  ·rw [aJ (by omega)] at hP
   simp only [go_sem,s1,q5,b1,hil]
   exact At.mk ⟨rfl,rfl,n,q3,n0,n1,hP⟩
  by_cases hn:n < 1048576
  rotate_left
  ·simp only [go_sem,s1,q3,q5,b1,hil,hn]
   exact At.mk ⟨rfl,rfl,n,q3,n0,n1,fun h=>by omega⟩
  have hi0:(0:Int)<=i:=by omega
  have hi1:i < q.t.length:=by omega
  have ei:i64.wrap ((i:Int)+1)=i+1:=dQ (by omega) (by omega)
  obtain ⟨b,o,cs,ea,hbk,d1,d2⟩:=dF.at (h.t F M1 (Ext.old kY)) hi1
  obtain ⟨d3,d4⟩:=Go.Ax.Sr.row d2
  have hx:=(h.ts _ (aH hi1)).many
  have t1:=aF hi1
  generalize q.t[i]=x at *
  have en:i64.wrap (n+(x.rs.length:Int))=n+x.rs.length:=dQ (by omega) (by omega)
  have en2:i64.wrap (n+(x.rs.length:Int)+x.ns.length)=n+x.rs.length+x.ns.length:=dQ (by omega) (by omega)
  simp only [go_sem,s1,q3,q5,b1,hil,hn,hi0,ea,aB,aK,hbk,d3,d4,en,en2,ei]
  refine ⟨hi1,⟨rfl,rfl⟩,(by simp only [go_sem, *] <;> rfl),n+x.rs.length+x.ns.length,(by simp only [go_sem, *] <;> rfl),by omega,by omega,fun h=>⟨(hP (by omega)).1,fun y hy=>?_⟩⟩
  rw [t1] at hy
  rcases aW.1 hy with hy | hy
  ·exact (hP (by omega)).2 y hy
  ·rw [aX.1 hy]; omega
 clear hP n0 n1
 rintro σ2 F' M' hst ⟨hG,hM,n,q3,n0,n1,hP⟩
 subst hG hM
 have t1:=hst 1 rfl
 simp only [go_sem,q1] at t1
 clear hst
 have kh:=k87 F M1 q h kY
 by_cases hn:1500 < n
 ·simp only [go_sem,q3,hn]
  exact qX oV ⟨rfl,rfl,true,rfl,fun h=>by cases h⟩
 ·simp only [go_sem,t1,q3,hn,b1]
  with_reducible refine wW kh ?_
  rintro u F' M' ⟨hG,hM,b,rfl,hb⟩
  subst hG hM
  refine ⟨(fun h=>by cases h),?_⟩
  cases b
  ·simp only [go_sem]
   exact qX oV ⟨rfl,rfl,false,rfl,fun h=>⟨hb rfl,hP (by omega)⟩⟩
  ·simp only [go_sem]
   exact qX oV ⟨rfl,rfl,true,rfl,fun h=>by cases h⟩
theorem k19 (q:bC)(h:q.inB F)(hold:Old F M):aI prog 19 [q.v5] F M (hvR (l13 q) F M):=by
 refine qZ hm func19 e19 (aA rfl) ?_
 simp only [c19,go_sem]
 intro r1 hF1 hM1
 generalize eQ:M.upd r1 ⟨q.c5,32,5⟩=M1 at *
 obtain ⟨oV,kY,f1⟩:=nw eQ hold hF1 hM1
 clear eQ
 have b1:=qG (F:=F) f1
 have kh:=k46 F M1 q h kY
 by_cases hn:(100:Int) < q.c.length
 ·simp only [go_sem,b1,hn]
  exact qX oV ⟨rfl,rfl,true,rfl,fun h=>by cases h⟩
 ·simp only [go_sem,b1,hn]
  with_reducible refine wW kh ?_
  rintro u F' M' ⟨hG,hM,b,rfl,hb⟩
  subst hG hM
  refine ⟨(fun h=>by cases h),?_⟩
  cases b
  ·simp only [go_sem]
   exact qX oV ⟨rfl,rfl,false,rfl,fun h=>hb rfl⟩
  ·simp only [go_sem]
   exact qX oV ⟨rfl,rfl,true,rfl,fun h=>by cases h⟩
def lE (r:Rp):Prop:=r.al.length<=3000/\r.en.length<=3000/\∀e∈r.en,En.yJV e
theorem k4 (q:bC)(h:q.inB F)(hold:Old F M):aI prog 4 [q.val] F M (hvR (l13 q/\q.e.length<=3000/\∀r∈q.e,lE r) F M):=by
 refine qZ hm func4 e4 (aA rfl) ?_
 obtain ⟨_,_,_,m1,m2⟩:=h.many
 have e0:i64.wrap ((q.e.length:Int)+q.m.length)=q.e.length+q.m.length:=dQ (by omega) (by omega)
 simp only [c4,go_sem]
 intro r1 hF1 hM1
 generalize eQ:M.upd r1 ⟨q.cs,35,7⟩=M1 at *
 obtain ⟨oV,kY,f1⟩:=nw eQ hold hF1 hM1
 clear eQ
 have b1:=qG (F:=F) f1
 simp only [go_sem,b1,e0]
 refine kQ (hvK 3000 3 (q.e.length<=3000/\∀r∈q.e,lE r) F M1) ?_ ?_
 ·refine wV q.e.length (fun i σ F' M'=>(F=F'/\M1=M')/\Ax.look σ 4=some (.int .i64 i)/\∃n:Int,Ax.look σ 3=some (.int .i64 n)/\0<=n/\n<=4503599627370496/\(n<=3000->q.e.length<=3000/\∀r∈q.e.take i,lE r)) ⟨⟨rfl,rfl⟩,(by simp only [go_sem, *] <;> rfl),_,(by simp only [go_sem, *] <;> rfl),by omega,by omega,fun h=>⟨by omega,fun b hb=>by simp at hb⟩⟩ ?_
  rintro i σ F' M' hi hst ⟨⟨rfl,rfl⟩,q4,n,q3,n0,n1,hP⟩
  have q1:=hst 1 rfl
  simp only [go_sem] at q1
  clear hst
  by_cases hil:(i:Int) < q.e.length
  rotate_left
  ·rw [aJ (by omega)] at hP
   simp only [go_sem,q1,q4,b1,hil]
   exact At.mk ⟨rfl,rfl,n,q3,n0,n1,hP⟩
  by_cases hn:n < 1048576
  rotate_left
  ·simp only [go_sem,q1,q3,q4,b1,hil,hn]
   exact At.mk ⟨rfl,rfl,n,q3,n0,n1,fun h=>by omega⟩
  have hi0:(0:Int)<=i:=by omega
  have hi1:i < q.e.length:=by omega
  have ei:i64.wrap ((i:Int)+1)=i+1:=dQ (by omega) (by omega)
  obtain ⟨b,o,cs,ea,hbk,d1,d2⟩:=dF.at (h.e F M1 (Ext.old kY)) hi1
  obtain ⟨_,d3,d4,_⟩:=Go.Ax.Rp.row d2
  have hx:=h.es _ (aH hi1)
  have t1:=aF hi1
  generalize q.e[i]=x at *
  obtain ⟨x1,x2⟩:=hx.many
  have en:i64.wrap (n+(x.al.length:Int))=n+x.al.length:=dQ (by omega) (by omega)
  have en2:i64.wrap (n+(x.al.length:Int)+x.en.length)=n+x.al.length+x.en.length:=dQ (by omega) (by omega)
  simp only [go_sem,q1,q3,q4,b1,hil,hn,hi0,ea,aB,hbk,d3,d4,en,en2]
  refine kQ (fun σ' F' M'=>(F=F'/\M1=M')/\∃n:Int,Ax.look σ' 3=some (.int .i64 n)/\0<=n/\n<=4503599627370496/\(n<=3000->q.e.length<=3000/\∀r∈q.e.take (i+1),lE r)) ?_ ?_
  ·refine wV x.en.length (fun k σ F' M'=>(F=F'/\M1=M')/\Ax.look σ 5=some (.int .i64 k)/\∃n:Int,Ax.look σ 3=some (.int .i64 n)/\0<=n/\n<=4503599627370496/\(n<=3000->(q.e.length<=3000/\∀r∈q.e.take i,lE r)/\x.al.length<=3000/\x.en.length<=3000/\∀e∈x.en.take k,En.yJV e)) ⟨⟨rfl,rfl⟩,(by simp only [go_sem, *] <;> rfl),_,(by simp only [go_sem, *] <;> rfl),by omega,by omega,fun h=>⟨hP (by omega),by omega,by omega,fun b hb=>by simp at hb⟩⟩ ?_
   have hfin:∀n:Int,(n<=3000->(q.e.length<=3000/\∀r∈q.e.take i,lE r)/\x.al.length<=3000/\x.en.length<=3000/\∀e∈x.en,En.yJV e)->n<=3000->q.e.length<=3000/\∀r∈q.e.take (i+1),lE r:=fun n hn h=>⟨(hn h).1.1,fun y hy=>by
    rw [t1] at hy
    rcases aW.1 hy with hy | hy
    ·exact (hn h).1.2 y hy
    ·rw [aX.1 hy]; exact (hn h).2⟩
   clear n0 n1 hP en en2
   rintro k σ F' M' hk hst ⟨⟨rfl,rfl⟩,q5,n,q3,n0,n1,hP⟩
   have s1:=hst 1 rfl
   have s4:=hst 4 rfl
   simp only [go_sem,q1,q4] at s1 s4
   clear hst
   by_cases hkl:(k:Int) < x.en.length
   rotate_left
   ·have e:x.en.take k=x.en:=aJ (by omega)
    rw [e] at hP
    simp only [go_sem,s1,s4,q5,b1,hi0,hil,ea,aB,hbk,d4,hkl]
    exact At.mk ⟨⟨rfl,rfl⟩,n,q3,n0,n1,hfin n hP⟩
   by_cases hn:n < 1048576
   rotate_left
   ·simp only [go_sem,s1,s4,q3,q5,b1,hi0,hil,ea,aB,hbk,d4,hkl,hn]
    exact At.mk ⟨⟨rfl,rfl⟩,n,q3,n0,n1,fun h=>by omega⟩
   have hk0:(0:Int)<=k:=by omega
   have hk1:k < x.en.length:=by omega
   have ek:i64.wrap ((k:Int)+1)=k+1:=dQ (by omega) (by omega)
   obtain ⟨b',o',cs',ea',hbk',d1',d2'⟩:=dF.at (hx.en F M1 (Ext.old kY)) hk1
   have hy:=hx.ens _ (aH hk1)
   have t2:=aF hk1
   generalize x.en[k]=y at *
   simp only [go_sem,s1,s4,q3,q5,b1,hi0,hil,ea,aB,hbk,d4,hkl,hn,hk0,ea',hbk',d1',d2']
   with_reducible refine wW (yJH F M1 y (hy.rd F M1 (Ext.old kY)) hy.many hy.ptrs) ?_
   rintro u F' M' ⟨hG,hM,w,rfl,w0,w1,hw⟩
   subst hG hM
   refine ⟨(fun h=>by cases h),?_⟩
   have en:i64.wrap (n+w)=n+w:=dQ (by omega) (by omega)
   simp only [go_sem,q5,ek,en]
   refine ⟨hk1,⟨rfl,rfl⟩,(by simp only [go_sem, *] <;> rfl),n+w,(by simp only [go_sem, *] <;> rfl),by omega,by omega,fun h=>?_⟩
   obtain ⟨p1,p2,p3,p4⟩:=hP (by omega)
   refine ⟨p1,p2,p3,fun z hz=>?_⟩
   rw [t2] at hz
   rcases aW.1 hz with hz | hz
   ·exact p4 z hz
   ·rw [aX.1 hz]; exact hw (by omega)
  clear hP n0 n1
  rintro σ1 F' M' hst ⟨⟨hG,hM⟩,n,q3,n0,n1,hP⟩
  subst hG hM
  have s4:=hst 4 rfl
  simp only [go_sem,q4] at s4
  clear hst
  simp only [go_sem,s4,ei]
  exact ⟨hi1,⟨rfl,rfl⟩,(by simp only [go_sem, *] <;> rfl),n,q3,n0,n1,hP⟩
 rintro σ2 F' M' hst ⟨hG,hM,n,q3,n0,n1,hP⟩
 subst hG hM
 have t1:=hst 1 rfl
 simp only [go_sem] at t1
 clear hst
 have kh:=k19 F M1 q h kY
 by_cases hn:3000 < n
 ·simp only [go_sem,q3,hn]
  exact qX oV ⟨rfl,rfl,true,rfl,fun h=>by cases h⟩
 ·simp only [go_sem,t1,q3,hn,b1]
  with_reducible refine wW kh ?_
  rintro u F' M' ⟨hG,hM,b,rfl,hb⟩
  subst hG hM
  refine ⟨(fun h=>by cases h),?_⟩
  cases b
  ·simp only [go_sem]
   exact qX oV ⟨rfl,rfl,false,rfl,fun h=>⟨hb rfl,hP (by omega)⟩⟩
  ·simp only [go_sem]
   exact qX oV ⟨rfl,rfl,true,rfl,fun h=>by cases h⟩
end Go.Proofs.Tryz.K
