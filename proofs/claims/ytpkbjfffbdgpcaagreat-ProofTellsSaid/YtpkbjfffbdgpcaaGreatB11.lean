/- Parts B11: the machine's runs of small codes, contracts of functions, plain facts. -/
import Derived.Test.YtpkbjfffbdgpcaaGreatB10
open Nat renaming add_zero->aK,le_of_ble_eq_true->aA,zero_add->aY,zero_mul->dX
open Int renaming eq_ofNat_of_zero_le->aG,toNat_natCast->aB
open Bool renaming and_eq_false_iff->bI,and_eq_true->aC,eq_iff_iff->dG,false_ne_true->bK,true_and->bQ
open List renaming all_eq_false->dP,all_eq_true->bW,append_nil->fA,getElem_mem->aH,getElem_of_mem->bZ,length_append->aO,length_map->bJ,length_set->aZ,length_singleton->bM,map_append->bP,mem_append->aW,mem_cons->aQ,mem_map_of_mem->eF,mem_singleton->aX,not_mem_nil->aV,take_of_length_le->aJ,take_succ_eq_append_getElem->aF
open Option renaming map_some->cZ
open Go.Proofs.Tryz
open Go.IntKind (i64)
set_option maxRecDepth 100000
set_option linter.unusedSimpArgs false
set_option linter.unusedVariables false
set_option maxHeartbeats 2000000
namespace Go.Proofs.Tryz.K
open Go Go.Ax Go.Proofs.Tryz.S
variable (F:Fz) (M:Hp)
theorem yJY {p:Pg}{k:Int}{s:Sc}(h:GoodS p k s):k=7↔s.p=true:=by
 rcases h with ⟨h1,h2,_⟩ | ⟨h1,h2,_⟩
 ·exact ⟨fun _=>h2,fun _=>h1⟩
 ·exact ⟨fun h=>absurd h (jHQ h1).1,fun h=>by rw [h2] at h; cases h⟩
theorem doR.back {p:Pg}{t:Sr}{r:Nat}{s:dM}{R:Qs × Int}{F F':Fz}{M M1 M':Hp}{u:Value}(kp:Keep M M1)(h:doR p t r s R F M1 u F' M'):doR p t r s R F M u F' M':=by
 obtain ⟨h1,h2,h3,s',h4,h5,h6⟩:=h;exact ⟨h1,h2,h3,s',h4,h5,Mv.back kp h6.1,h6.2⟩
theorem doR.same {p:Pg}{t:Sr}{r:Nat}{s:dM}{F:Fz}{M M1:Hp}{b:Int}(kp:Keep M M1)(o:Old F M1)(h:DrM r p t s F M1):doR p t r s (s.q,b) F M (.int .i64 b) F M1:=
 ⟨rfl,o,rfl,s,h,rfl,⟨fun q x hq _=>kp q x hq,fun _ h=>.inl h⟩,rfl⟩
theorem jYX {r:Nat}{p:Pg}{t:Sr}{s:dM}{F:Fz}{M:Hp}(h:DrM r p t s F M)(hfm:iP p s.blocks)(hc:wY p=true):dF 2 Bl.cs F M (.slice s.bG s.blocks.length s.bV) s.blocks/\∀y∈s.blocks,y.rd F M:=by
 have hml:=hfm.len;have hpre:=yH hc;obtain ⟨h1,h2,_,_⟩:=h.own.rd (by omega) (fun y hy=>by obtain ⟨i',hi',rfl⟩:=bZ hy; have:=(hfm.bytes i' hi').2.2.2; omega);exact ⟨h1,h2⟩
theorem dGC (r:Nat)(p:Pg)(t:Sr)(s:dM)(x:Sm)(to:Sc)(hD:DrM r p t s F M)(hold:Old F M)(hp:p.rd F)(hc:wY p=true)(hfm:iP p s.blocks)(hk:isS x.kind=true)(he:xP p.exprs x.e x.kind=true)(hs:GoodS p 7 to) :
  aI prog 145 [.pointer (some ⟨r,0,none⟩),x.val,to.val] F M (doR p t r s (if (lJ p s.q.m x.e).2=0 then qQW p s.q s.q.m to x.kind (lJ p s.q.m x.e).1 0 else (s.q,(lJ p s.q.m x.e).2)) F M):=by
 refine qZ hm func145 kZK (aA rfl) ?_
 obtain ⟨e,hee,he1,he2⟩:=qJF he
 rw [show lJ p s.q.m x.e=lJ p s.blocks x.e from yHZ _ _ _]
 have hgv:=yJW hc hfm he
 rw [hee] at hgv ⊢
 simp only [c145,go_sem]
 intro r4 mW jP
 generalize eQ:M.upd r4 ⟨x.cs,80,7⟩=M1 at *
 obtain ⟨jA,fP,f4⟩:=nw eQ hold mW jP
 clear eQ
 simp only [go_sem]
 intro r5 lM gU
 generalize eQ:M1.upd r5 ⟨to.cs,90,4⟩=M2 at *
 obtain ⟨eH,dB,f5⟩:=nw eQ fP lM gU
 clear eQ
 have kp:=jA.trans eH
 have D2:=hD.keep kp
 have f4:=eH _ _ f4
 have br:=qG (F:=F) D2.d
 have b4:=qG (F:=F) f4
 have b5:=qG (F:=F) f5
 obtain ⟨rd1,rd2⟩:=jYX D2 hfm hc
 have kv:=gZB F M2 p s.bG s.bV s.blocks e hp rd1 rd2 dB hc hfm he1
 simp only [go_sem,br,b4,hee]
 with_reducible refine qQ kv ?_
 generalize lJ p s.blocks (e:Int)=rv at *
 obtain ⟨v,bad⟩:=rv
 simp only [go_sem]
 intro r7 wU qB
 simp only [setH,Hp.wZ,go_sem]
 generalize eQ:M2.upd r7 ⟨v.cs,90,4⟩=M3 at *
 obtain ⟨lY,iO,f7⟩:=nw eQ dB wU qB
 clear eQ
 have D3:=D2.keep lY
 have c4:=qG (F:=F) (lY _ _ f4)
 have c5:=qG (F:=F) (lY _ _ f5)
 have c7:=qG (F:=F) f7
 by_cases hb:bad=0
 rotate_left
 ·rw [if_neg hb]
  simp only [go_sem,hb]
  exact qW (doR.same (kp.trans lY) iO D3)
 subst hb
 rw [if_pos rfl]
 have hg:GoodS p x.kind v:=by
  rcases hgv with ⟨_,h⟩ | ⟨h,_⟩
  ·exact h
  ·exact absurd (show (1:Int)<=0 from h.1) (by decide)
 have kl:=vJE F M3 r p t s to v x.kind D3 iO hc hfm hk hs hg.spell (yJY hg)
 simp only [go_sem,c4,c5,c7]
 with_reducible refine wW kl ?_
 intro u F' M4 hR
 have hR:=doR.back (kp.trans lY) hR
 refine ⟨(fun h=>by cases h),?_⟩
 simp only [go_sem]
 exact qW hR
theorem jYZ (x:Int):(x.tmod 2=0)↔¬x % 2=1:=by
 constructor
 ·intro h;have:=Int.dvd_of_tmod_eq_zero h;omega
 ·intro h;exact Int.tmod_eq_zero_of_dvd (by omega)
theorem yHC {l:List Int}{k:Int}(hk:0<=k)(h0:¬l=[]):∃i:Nat,∃hi:i < l.length,k.tmod l.length=i/\rF l k=l[i]:=by
 have hpos:0 < l.length:=List.length_pos_iff.2 h0;obtain ⟨kn,rfl⟩:=aG hk;have em:(kn:Int).tmod l.length=((kn % l.length:Nat):Int):=by rw [Int.tmod_eq_emod_of_nonneg (by omega)]; rfl
 have hlt:=Nat.mod_lt kn hpos;refine ⟨kn % l.length,hlt,em,?_⟩;unfold rF;rw [if_neg h0,em,aB,List.getElem?_eq_getElem hlt]; rfl
theorem dGE (r:Nat)(p:Pg)(t:Sr)(s:dM)(n:Int)(hD:DrM r p t s F M)(hold:Old F M)(hc:wY p=true)(ht:Sr.rdF F t)(hn:(p.vars.length:Int) < n/\n<=1000) :
  aI prog 182 [.pointer (some ⟨r,0,none⟩),.int .i64 n] F M (Same F M (.bool (comes p t.ns n))):=by
 refine qZ hm func182 kKA (aA rfl) ?_;have hpre:=yH hc;have br:=qG (F:=F) hD.d;have w1:i64.wrap (n - 1)=n - 1:=dQ (by omega) (by omega);have w2:i64.wrap (n - 1 - (p.vars.length:Int))=n - 1 - p.vars.length:=dQ (by omega) (by omega);have hrd:=(ht M hold).ns;have eC:comes p t.ns n=(decide (t.ns=[]) || decide (rF t.ns (n - 1 - p.vars.length) % 2=1)):=by
  unfold comes;rw [show n - (p.vars.length:Int) - 1=n - 1 - p.vars.length by omega]
 rw [eC];by_cases h0:t.ns=[]
 ·have hl0:(t.ns.length:Int)=0:=by rw [h0]; rfl
  simp only [c182,go_sem,br,hl0];exact qW ⟨by rw [h0]; simp,rfl,rfl⟩
 have hl0:¬(t.ns.length:Int)=0:=fun h=>h0 (List.length_eq_zero_iff.1 (by omega))
 obtain ⟨i,hi,em,ep⟩:=yHC (show 0<=n - 1 - (p.vars.length:Int) by omega) h0;rw [ep];obtain ⟨b,o,cs,ea,hb,d1⟩:=Ax.gW hrd hi;have i0:(0:Int)<=i:=by omega
 have i1:(i:Int) < t.ns.length:=by omega
 have ho:=jYZ t.ns[i];by_cases hm:(t.ns[i]).tmod 2=0
 ·simp only [c182,go_sem,br,hl0,w1,w2,em,ea,i0,i1,aB,hb,d1,hm];exact qW ⟨by rw [decide_eq_false h0,decide_eq_false (ho.1 hm)]; rfl,rfl,rfl⟩
 ·have h1:t.ns[i] % 2=1:=Decidable.byContradiction fun h=>hm (ho.2 h)
  simp only [c182,go_sem,br,hl0,w1,w2,em,ea,i0,i1,aB,hb,d1,hm];exact qW ⟨by rw [decide_eq_false h0,decide_eq_true h1]; rfl,rfl,rfl⟩
theorem dGF (r:Nat)(p:Pg)(t:Sr)(s:dM)(x:Sm)(to:Sc)(hD:DrM r p t s F M)(hF:F r=none)(hold:Old F M)(hc:wY p=true)(hfm:iP p s.blocks)(ht:Sr.rdF F t)(hk:isK x.kind=true)(hs:GoodS p 7 to)(hi:0<=s.inp/\s.inp<=1000) :
  aI prog 146 [.pointer (some ⟨r,0,none⟩),x.val,to.val] F M (doR p t r s (qQW p s.q s.q.m to x.kind ⟨false,rF t.rs s.q.inp % 2 ^ (iF x.kind).toNat,0,0⟩ 1) F M):=by
 refine qZ hm func146 kZJ (aA rfl) ?_
 have xGG:s.q.inp=s.inp:=rfl
 rw [xGG]
 have hw:=jJ (jQ x.kind)
 simp only [c146,go_sem]
 intro r4 mW jP
 generalize eQ:M.upd r4 ⟨x.cs,80,7⟩=M1 at *
 obtain ⟨jA,fP,f4⟩:=nw eQ hold mW jP
 clear eQ
 simp only [go_sem]
 intro r5 lM gU
 generalize eQ:M1.upd r5 ⟨to.cs,90,4⟩=M2 at *
 obtain ⟨eH,dB,f5⟩:=nw eQ fP lM gU
 clear eQ
 have kp:=jA.trans eH
 have D2:=hD.keep kp
 have br:=qG (F:=F) D2.d
 have b4:=qG (F:=F) (eH _ _ f4)
 have b5:=qG (F:=F) f5
 have hrd:=(ht M2 dB).rs
 simp only [go_sem,br]
 refine gJ (fun σ' F' M'=>F=F'/\M2=M'/\Ax.look σ' 7=some (.int .i64 (rF t.rs s.inp))) ?_ ?_
 ·by_cases h0:t.rs=[]
  ·have hl0:¬(0:Int) < t.rs.length:=by rw [h0]; decide
   have ep:rF t.rs s.inp=0:=by unfold rF; rw [if_pos h0]
   rw [ep]
   simp only [go_sem,hl0]
   exact At.mk ⟨rfl,rfl,(by simp only [go_sem, *] <;> rfl)⟩
  ·have hpos:0 < t.rs.length:=List.length_pos_iff.2 h0
   have hl0:(0:Int) < t.rs.length:=by omega
   have hl1:¬(t.rs.length:Int)=0:=by omega
   obtain ⟨i,hi',em,ep⟩:=yHC hi.1 h0
   rw [ep]
   obtain ⟨b,o,cs,ea,hb,d1⟩:=Ax.gW hrd hi'
   have i0:(0:Int)<=i:=by omega
   have i1:(i:Int) < t.rs.length:=by omega
   simp only [go_sem,br,hl0,hl1,em,ea,i0,i1,aB,hb,d1]
   exact At.mk ⟨rfl,rfl,(by simp only [go_sem, *] <;> rfl)⟩
 rintro σ2 F' M' hst ⟨hG,hMM,t7⟩
 subst hG hMM
 have t0:=hst 0 rfl
 have t4:=hst 4 rfl
 have t5:=hst 5 rfl
 simp only [go_sem] at t0 t4 t5
 clear hst
 generalize rF t.rs s.inp=n at *
 have hmod:=wI (x:=n) (jQ x.kind)
 have hgv:GoodS p x.kind ⟨false,n % 2 ^ (iF x.kind).toNat,0,0⟩:=.inr ⟨hk,rfl,rfl,rfl,hmod⟩
 have kl:=vJE F M2 r p t s to ⟨false,n % 2 ^ (iF x.kind).toNat,0,0⟩ x.kind D2 dB hc hfm (yO hk) hs hgv.spell (yJY hgv)
 simp only [go_sem,t0,t4,t5,t7,b4,b5]
 with_reducible refine qQ (qHZ F M2 x.kind hk) ?_
 simp only [go_sem]
 with_reducible refine qQ (wDK F M2 n (iF x.kind) (by omega) (by omega)) ?_
 simp only [go_sem]
 refine vW kl ?_
 rintro u F' M3 ⟨hG,dA,rfl,s3,D3,hq3,mv,ha3⟩
 replace hG:=hG.symm
 subst hG
 simp only [go_sem]
 unfold qQW at hq3 ⊢
 by_cases hw0:pV s.q.m (yJ p.ptr x.kind) to=0
 rotate_left
 ·rw [if_neg hw0] at hq3 ⊢
  simp only [go_sem,hw0]
  exact qW ⟨rfl,dA,rfl,s3,D3,hq3,Mv.back kp mv,ha3⟩
 rw [if_pos hw0] at hq3 ⊢
 have e1:s3.inp=s.inp:=by
  have h:s3.inp=s.inp+0:=congrArg Qs.inp hq3
  omega
 have ei:i64.wrap (s3.inp+1)=s3.inp+1:=dQ (by omega) (by omega)
 have b3:=qG (F:=F) D3.d
 have eC:List.take 11 (Dr.mk p t s3).cs++[Value.int .i64 (s3.inp+1)]++List.drop 12 (Dr.mk p t s3).cs=(Dr.mk p t ⟨s3.bG,s3.bV,s3.blocks,s3.dV,s3.dD,s3.next,s3.inp+1,s3.p,s3.w⟩).cs:=rfl
 have D4:=D3.put s3.dV s3.dD s3.next (s3.inp+1) s3.p s3.w D3.next D3.nz
 simp only [setH,go_sem,t0,hw0,b3,ei,D3.d,eC]
 refine qW ⟨rfl,dA.upd hF,rfl,_,D4,?_,Mv.back kp (mv.trans (Mv.drU fun q h=>h)),ha3⟩
 have h1:kD s3.blocks=wWQ p s.q.m to x.kind ⟨false,n % 2 ^ (iF x.kind).toNat,0,0⟩:=congrArg Qs.m hq3
 have h2:s3.next=s.q.next:=congrArg Qs.next hq3
 have h4:s3.p=s.q.p:=congrArg Qs.p hq3
 have h5:s3.w=s.q.w:=congrArg Qs.w hq3
 show (⟨kD s3.blocks,s3.next,s3.inp+1,s3.p,s3.w⟩:Qs)=⟨wWQ p s.q.m to x.kind ⟨false,n % 2 ^ (iF x.kind).toNat,0,0⟩,s.q.next,s.q.inp+1,s.q.p,s.q.w⟩
 rw [h1,h2,h4,h5,e1]
 rfl
theorem yJA {M:Hp}{a:Option Addr}{m:List Bl}{b g:Nat}{x:Bl}{e:nH}(ha:a=some ⟨g,0,none⟩)(hx:∀q,x.lA=some ⟨q,0,none⟩->M q=none):Mv (qGV a m) M (qGV a (m.set b x)) (M.upd g e):=
 ⟨fun q y hq hs=>by
  have:¬q=g:=by rintro rfl; exact hs (.inl ha)
  rw [Hp.qK this]; exact hq,fun q hq=>by
  rcases hq with h | ⟨y,hy,e⟩
  ·exact .inl (.inl h)
  ·rcases List.mem_or_eq_of_mem_set hy with hy | rfl
   ·exact .inl (.inr ⟨y,hy,e⟩)
   ·exact .inr (hx q e)⟩
theorem DrM.pK {r:Nat}{p:Pg}{t:Sr}{s:dM}{F:Fz}{M:Hp}(h:DrM r p t s F M){b:Nat}(hb:b < s.blocks.length){x:Bl}(hx:gQ 5 By.cs 88 F M (.slice x.lA x.l.length x.lC) x.l)(hd:∀y∈s.blocks,qWZ x y/\qWZ y x) :
  ∃g cap,s.bG=some ⟨g,0,none⟩/\F g=none/\M g=some ⟨s.blocks.flatMap Bl.cs,86,cap * 2⟩/\DrM r p t ⟨s.bG,s.bV,s.blocks.set b x,s.dV,s.dD,s.next,s.inp,s.p,s.w⟩ F (M.upd g ⟨(s.blocks.set b x).flatMap Bl.cs,86,cap * 2⟩):=by
 obtain ⟨g,cap,ea,hF,hM,own⟩:=h.own.put (by decide) hb hx hd;refine ⟨g,cap,ea,hF,hM,h.mem own (aZ) fun q y hq hs=>?_⟩;have:¬q=g:=by rintro rfl; exact hs (.inl ea)
 rw [Hp.qK this]; exact hq
def jYK (p:Pg)(a:Sc)(q:Qs):Qs × Int:=
 if a.b=0 then (q,0) else if a.b<=p.vars.length\/¬(jD q.m a.b).st=1\/¬a.o=0 then (q,10) else (⟨setB q.m a.b 2 [],q.next,q.inp,q.p,q.w⟩,0)
theorem dVQ (r:Nat)(p:Pg)(t:Sr)(s:dM)(v:Sc)(hD:DrM r p t s F M)(hold:Old F M)(hc:wY p=true)(hfm:iP p s.blocks)(hs:GoodS p 7 v) :
  aI prog 148 [.pointer (some ⟨r,0,none⟩),v.val] F M (doR p t r s (jYK p v s.q) F M):=by
 refine qZ hm func148 kZV (aA rfl) ?_;have hpre:=yH hc;have hml:=hfm.len;obtain ⟨vb,vo,rfl,hvb,_,_⟩:=wM hs hfm hc;simp only [c148,go_sem];intro r3 hF3 dN;generalize eQ:M.upd r3 ⟨(Sc.mk true 0 vb vo).cs,90,4⟩=M1 at *;obtain ⟨fC,dA,f3⟩:=nw eQ hold hF3 dN;clear eQ;have D1:=hD.keep fC;have br:=qG (F:=F) D1.d;have b3:=qG (F:=F) f3;unfold jYK;by_cases hb0:vb=0
 ·rw [if_pos (show (vb:Int)=0 by omega)];have yJB:(vb:Int)=0:=by omega
  simp only [go_sem,b3,yJB];exact qW (doR.same fC dA D1)
 have yJB:¬(vb:Int)=0:=by omega
 rw [if_neg (show ¬(vb:Int)=0 from yJB)];have vb0:(0:Int)<=vb:=by omega
 have vb1:(vb:Int) < s.blocks.length:=by omega
 obtain ⟨rd1,_⟩:=jYX D1 hfm hc;obtain ⟨g,cap,ea,hFg,yF,D2⟩:=D1.pK hvb (x:=⟨2,none,0,[]⟩) (.inl ⟨rfl,rfl⟩) (fun y _=>nJ rfl);have bg:=qG (F:=F) yF;have d1:=lF (f:=Bl.cs) (sz:=2) Bl.len s.blocks vb hvb;obtain ⟨d2,d3⟩:=Bl.row d1;have w2:vb * 2+2<=(s.blocks.flatMap Bl.cs).length:=by rw [yG Bl.len]; omega
 have w1:=iC (sz:=2) (f:=Bl.cs) Bl.len ⟨2,none,0,[]⟩ s.blocks vb hvb;rw [show s.q.m=kD s.blocks from rfl,(uT s.blocks (vb:Int)).1,yY hvb];by_cases c1:(vb:Int)<=p.vars.length
 ·rw [if_pos (.inl c1)];simp only [go_sem,br,b3,yJB,c1];exact qW (doR.same fC dA D1)
 by_cases c2:(s.blocks[vb]).st=1;rotate_left
 ·rw [if_pos (.inr (.inl c2))];simp only [go_sem,br,b3,yJB,c1,ea,vb0,vb1,aB,aY,aK,bg,d2,c2];exact qW (doR.same fC dA D1)
 by_cases c3:(vo:Int)=0;rotate_left
 ·rw [if_pos (.inr (.inr c3))];simp only [go_sem,br,b3,yJB,c1,ea,vb0,vb1,aB,aY,aK,bg,d2,c2,c3];exact qW (doR.same fC dA D1)
 rw [if_neg (fun h=>by rcases h with h | h | h; exact c1 h; exact h c2; exact h c3)];simp only [setH,go_sem,br,b3,yJB,c1,ea,vb0,vb1,aB,aY,aK,bg,d2,c2,c3,yF,w2];rw [show List.take (vb * 2) (List.flatMap Bl.cs s.blocks)++[Value.int i64 2,Value.slice none 0 0]++List.drop (vb * 2+2) (List.flatMap Bl.cs s.blocks)=(s.blocks.set vb ⟨2,none,0,[]⟩).flatMap Bl.cs from w1];refine qW ⟨rfl,dA.upd hFg,rfl,_,D2,?_,Mv.back fC (Mv.drM (yJA ea (fun q h=>by cases h))),rfl⟩;show (⟨kD (s.blocks.set vb ⟨2,none,0,[]⟩),s.next,s.inp,s.p,s.w⟩:Qs)=⟨setB (kD s.blocks) vb 2 [],s.next,s.inp,s.p,s.w⟩;rw [qQJ]
def doT (p:Pg)(t:Sr)(r:Nat)(s:dM)(R:Qs)(F:Fz)(M:Hp)(u:Value)(F':Fz)(M':Hp):Prop:=
 F'=F/\Old F M'/\u=.tuple #[]/\∃s',DrM r p t s' F M'/\s'.q=R/\Mv (drS r s) M (drS r s') M'/\s'.bG=s.bG
theorem yJC {α:Type}{sz n:Nat}{f:α->List Value}{e:TypeId}{F:Fz}{M:Hp}{a:Option Addr}{c:Nat}{l:List α}(h:gQ sz f e F M (.slice a n c) l):a=none->c=0:=fun e=>by
 rcases h with ⟨h1,_⟩ | ⟨g,cap,h1,_⟩
 ·injection h1
 ·injection h1 with h1; rw [e] at h1; cases h1
theorem qXF {p:Pg}{t:Sr}{r:Nat}{s:dM}{F:Fz}{M M2 M3:Hp}{a:Option Addr}{c:Nat}{l:List Int}(kp:Keep M M2)(kq:Keep M2 M3)(o:Old F M3)(hF:F r=none)(D:DrM r p t s F M2)(own:gQ 1 fV 3 F M3 (.slice a l.length c) l)(hl:l.length<=1000000) :
  doT p t r s ⟨s.q.m,l,s.q.inp,s.q.p,s.q.w⟩ F M (.tuple #[]) F (M3.upd r ⟨(Dr.mk p t ⟨s.bG,s.bV,s.blocks,a,c,l,s.inp,s.p,s.w⟩).cs,170,14⟩):=
 ⟨rfl,o.upd hF,rfl,_,(D.keep kq).put a c l s.inp s.p s.w (NxR.of own hl) (yJC own),rfl,Mv.back (kp.trans kq) (Mv.drU fun q h=>h),rfl⟩
theorem gKG (r:Nat)(p:Pg)(t:Sr)(s:dM)(x:Sm)(i:Int)(yes:Bool)(hD:DrM r p t s F M)(hF:F r=none)(hold:Old F M)(hp:p.rd F)(hx:x∈p.stmts)(hop:x.op=5\/x.op=6)(hnl:s.next.length<=45000) :
  aI prog 149 [.pointer (some ⟨r,0,none⟩),.int .i64 i,x.val,.bool yes] F M (doT p t r s ⟨s.q.m,(if yes=true then x.body++(if x.op=6 then [i] else []) else x.els)++s.next,s.q.inp,s.q.p,s.q.w⟩ F M):=by
 refine qZ hm func149 kZH (aA rfl) ?_
 have few:=hp.few
 have fewx:=few.2.2.2.2.2 x hx
 have hz:=hp.zero.2.2 x hx
 simp only [zQF,go_sem]
 intro r6 vI oI
 generalize eQ:M.upd r6 ⟨x.cs,80,7⟩=M1 at *
 obtain ⟨iZ,eG,f6⟩:=nw eQ hold vI oI
 clear eQ
 have D1:=hD.keep iZ
 have br:=qG (F:=F) D1.d
 have b6:=qG (F:=F) f6
 have eC:∀(a:Option Addr) (c:Nat) (l:List Int),List.take 10 (Dr.mk p t s).cs++[Value.slice a l.length c]++List.drop 11 (Dr.mk p t s).cs=(Dr.mk p t ⟨s.bG,s.bV,s.blocks,a,c,l,s.inp,s.p,s.w⟩).cs:=fun _ _ _=>rfl
 cases yes
 ·-- otherwise
  simp only [go_sem,br,b6]
  intro r16 qKG qQQ
  have uG:Keep M1 (M1.upd r16 ⟨[.slice x.ea x.els.length x.ec,.slice s.dV s.next.length s.dD],23,2⟩):=(Keep.refl _).new qQQ
  have qE:Old F (M1.upd r16 ⟨[.slice x.ea x.els.length x.ec,.slice s.dV s.next.length s.dD],23,2⟩):=eG.upd qKG
  have b16:blk F (M1.upd r16 ⟨[.slice x.ea x.els.length x.ec,.slice s.dV s.next.length s.dD],23,2⟩) r16=some [.slice x.ea x.els.length x.ec,.slice s.dV s.next.length s.dD]:=wH
  simp only [go_sem]
  generalize M1.upd r16 ⟨[.slice x.ea x.els.length x.ec,.slice s.dV s.next.length s.dD],23,2⟩=M2 at *
  have D2:=D1.keep uG
  have kc:=jJA F M2 (some ⟨r16,0,none⟩) 2 [(x.ea,x.ec,x.els),(s.dV,s.dD,s.next)] qE (gZ qZC (by simp) (by simp) (by rw [b16]; simp [slC])) (fun y hy=>by
   simp only [aQ,aV,or_false] at hy
   rcases hy with rfl | rfl
   ·exact ⟨(hp.bodies x hx M2 qE).2,by simp only []; omega,hz.2⟩
   ·exact ⟨D2.next.rd qE,by simp only []; omega,D2.nz⟩) (by simp)
  have e2:([(x.ea,x.ec,x.els),(s.dV,s.dD,s.next)]:List Lz).flatMap (·.2.2)=x.els++s.next:=by simp
  rw [e2] at kc
  with_reducible refine wW kc ?_
  rintro u F' M3 hq
  have own:=hq.own
  obtain ⟨hG,le,kq,oq,a2,c2,hu,_⟩:=hq.le wJ (by rw [aO]; omega)
  have dA:=oq qE
  replace hG:=hG.symm
  subst hG
  subst hu
  refine ⟨(fun h=>by cases h),?_⟩
  have D3:=D2.keep kq
  try rw [if_neg bK]
  have hll:(x.els++s.next).length<=1000000:=by rw [aO]; omega
  generalize x.els++s.next=l at *
  simp only [setH,go_sem,D3.d,eC]
  exact qW (qXF (iZ.trans uG) kq dA hF D2 own hll)
 ·rw [if_pos rfl]
  rcases hop with h | h
  ·-- if
   have h6:¬x.op=6:=by omega
   rw [if_neg h6,fA]
   simp only [go_sem,br,b6,h6]
   intro r16 qKG qQQ
   have uG:Keep M1 (M1.upd r16 ⟨[.slice x.ba x.body.length x.bc,.slice s.dV s.next.length s.dD],23,2⟩):=(Keep.refl _).new qQQ
   have qE:Old F (M1.upd r16 ⟨[.slice x.ba x.body.length x.bc,.slice s.dV s.next.length s.dD],23,2⟩):=eG.upd qKG
   have b16:blk F (M1.upd r16 ⟨[.slice x.ba x.body.length x.bc,.slice s.dV s.next.length s.dD],23,2⟩) r16=some [.slice x.ba x.body.length x.bc,.slice s.dV s.next.length s.dD]:=wH
   simp only [go_sem]
   generalize M1.upd r16 ⟨[.slice x.ba x.body.length x.bc,.slice s.dV s.next.length s.dD],23,2⟩=M2 at *
   have D2:=D1.keep uG
   have kc:=jJA F M2 (some ⟨r16,0,none⟩) 2 [(x.ba,x.bc,x.body),(s.dV,s.dD,s.next)] qE (gZ qZC (by simp) (by simp) (by rw [b16]; simp [slC])) (fun y hy=>by
    simp only [aQ,aV,or_false] at hy
    rcases hy with rfl | rfl
    ·exact ⟨(hp.bodies x hx M2 qE).1,by simp only []; omega,hz.1⟩
    ·exact ⟨D2.next.rd qE,by simp only []; omega,D2.nz⟩) (by simp)
   have e2:([(x.ba,x.bc,x.body),(s.dV,s.dD,s.next)]:List Lz).flatMap (·.2.2)=x.body++s.next:=by simp
   rw [e2] at kc
   with_reducible refine wW kc ?_
   rintro u F' M3 hq
   have own:=hq.own
   obtain ⟨hG,le,kq,oq,a2,c2,hu,_⟩:=hq.le wJ (by rw [aO]; omega)
   have dA:=oq qE
   replace hG:=hG.symm
   subst hG
   subst hu
   refine ⟨(fun h=>by cases h),?_⟩
   have D3:=D2.keep kq
   have hll:(x.body++s.next).length<=1000000:=by rw [aO]; omega
   generalize x.body++s.next=l at *
   simp only [setH,go_sem,D3.d,eC]
   exact qW (qXF (iZ.trans uG) kq dA hF D2 own hll)
  ·-- while
   rw [if_pos h]
   simp only [go_sem,br,b6,h]
   intro r32 dVX dVZ
   have gKV:Keep M1 (M1.upd r32 ⟨[.int .i64 i],3,1⟩):=(Keep.refl _).new dVZ
   have gKH:Old F (M1.upd r32 ⟨[.int .i64 i],3,1⟩):=eG.upd dVX
   have b32:blk F (M1.upd r32 ⟨[.int .i64 i],3,1⟩) r32=some [.int .i64 i]:=wH
   have f32:(M1.upd r32 ⟨[.int .i64 i],3,1⟩) r32=some ⟨[.int .i64 i],3,1⟩:=Hp.qV _ _ _
   simp only [go_sem]
   generalize M1.upd r32 ⟨[.int .i64 i],3,1⟩=M1b at *
   try simp only [go_sem]
   intro r16 qKG qQQ
   have uG:Keep M1b (M1b.upd r16 ⟨[.slice x.ba x.body.length x.bc,.slice (some ⟨r32,0,none⟩) 1 1,.slice s.dV s.next.length s.dD],23,3⟩):=(Keep.refl _).new qQQ
   have qE:Old F (M1b.upd r16 ⟨[.slice x.ba x.body.length x.bc,.slice (some ⟨r32,0,none⟩) 1 1,.slice s.dV s.next.length s.dD],23,3⟩):=gKH.upd qKG
   have b16:blk F (M1b.upd r16 ⟨[.slice x.ba x.body.length x.bc,.slice (some ⟨r32,0,none⟩) 1 1,.slice s.dV s.next.length s.dD],23,3⟩) r16=some [.slice x.ba x.body.length x.bc,.slice (some ⟨r32,0,none⟩) 1 1,.slice s.dV s.next.length s.dD]:=wH
   simp only [go_sem]
   generalize M1b.upd r16 ⟨[.slice x.ba x.body.length x.bc,.slice (some ⟨r32,0,none⟩) 1 1,.slice s.dV s.next.length s.dD],23,3⟩=M2 at *
   have D2:=(D1.keep gKV).keep uG
   have c32:=qG (F:=F) (uG _ _ f32)
   have kc:=jJA F M2 (some ⟨r16,0,none⟩) 3 [(x.ba,x.bc,x.body),(some ⟨r32,0,none⟩,1,[i]),(s.dV,s.dD,s.next)] qE (gZ qZC (by simp) (by simp) (by rw [b16]; simp [slC])) (fun y hy=>by
    simp only [aQ,aV,or_false] at hy
    rcases hy with rfl | rfl | rfl
    ·exact ⟨(hp.bodies x hx M2 qE).1,by simp only []; omega,hz.1⟩
    ·exact ⟨gZ wJ (by simp) (by simp) (by rw [c32]; rfl),by simp,by simp⟩
    ·exact ⟨D2.next.rd qE,by simp only []; omega,D2.nz⟩) (by simp)
   have e2:([(x.ba,x.bc,x.body),(some ⟨r32,0,none⟩,1,[i]),(s.dV,s.dD,s.next)]:List Lz).flatMap (·.2.2)=x.body++[i]++s.next:=by simp
   rw [e2] at kc
   with_reducible refine wW kc ?_
   rintro u F' M3 hq
   have own:=hq.own
   obtain ⟨hG,le,kq,oq,a2,c2,hu,_⟩:=hq.le wJ (by rw [aO,aO,bM]; omega)
   have dA:=oq qE
   replace hG:=hG.symm
   subst hG
   subst hu
   refine ⟨(fun h=>by cases h),?_⟩
   have D3:=D2.keep kq
   have hll:(x.body++[i]++s.next).length<=1000000:=by rw [aO,aO,bM]; omega
   generalize x.body++[i]++s.next=l at *
   simp only [setH,go_sem,D3.d,eC]
   exact qW (qXF ((iZ.trans gKV).trans uG) kq dA hF D2 own hll)
def mkI (r:Nat)(p:Pg)(t:Sr)(s:dM)(x:Sm)(to:Sc)(r4 r5 r8:Nat)(F0:Fz)(M0:Hp)(σ:Env)(F:Fz)(M:Hp):Prop:=
 F0=F/\Old F0 M/\∃s5,DrM r p t s5 F0 M/\s5.q=⟨Go.Ax.mV p t.ns s.q.m x.n,s.q.next,s.q.inp,s.q.p,s.q.w⟩/\s5.bG=s.bG/\Mv (drS r s) M0 (drS r s5) M/\
  M r4=some ⟨x.cs,80,7⟩/\M r5=some ⟨to.cs,90,4⟩/\M r8=some ⟨(Sc.mk true 0 (if comes p t.ns x.n=true then x.n else 0) 0).cs,90,4⟩
theorem DrM.other {r:Nat}{p:Pg}{t:Sr}{s:dM}{F:Fz}{M:Hp}(h:DrM r p t s F M){q ty n:Nat}{cs:List Value}{e:nH}(hq:M q=some ⟨cs,ty,n⟩)(h1:¬ty=(86:Nat))(h2:¬ty=(88:Nat))(h3:¬ty=(3:Nat))(h4:¬ty=(170:Nat)):DrM r p t s F (M.upd q e):=by
 refine ⟨?_,oH h.own hq h1 h2,h.next.step fun q' x hx he=>?_,h.nz⟩
 ·have:¬r=q:=by rintro rfl; rw [h.d] at hq; injection hq with hq; injection hq with _ hq _; exact h4 hq.symm
  rw [Hp.qK this]; exact h.d
 ·have:¬q'=q:=by rintro rfl; rw [hq] at hx; injection hx with hx; rw [<-hx] at he; exact h3 he
  rw [Hp.qK this]; exact hx
theorem wKB {m:List Bl}{b st st':Int}{l l':List By}:setB (setB m b st l) b st' l'=setB m b st' l':=by
 unfold setB; rw [List.set_set]
theorem jXW {m:List Bl}{k:Nat}(hk:k < m.length)(h:m[k]=⟨0,none,0,[]⟩):setB m k 0 []=m:=by
 unfold setB;rw [aB,<-h,List.set_getElem_self]
theorem dVK (r:Nat)(p:Pg)(t:Sr)(s:dM)(x:Sm)(to:Sc)(hD:DrM r p t s F M)(hF:F r=none)(hold:Old F M)(hp:p.rd F)(hc:wY p=true)(hfm:iP p s.blocks)(ht:Sr.rdF F t)(hs:GoodS p 7 to)(hn:(p.vars.length:Int) < x.n/\x.n<=p.vars.length+p.news.length) :
  aI prog 147 [.pointer (some ⟨r,0,none⟩),x.val,to.val] F M (doR p t r s (if (jD s.q.m x.n).st=0 then qQW p s.q (Go.Ax.mV p t.ns s.q.m x.n) to 7 ⟨true,0,if comes p t.ns x.n=true then x.n else 0,0⟩ 0 else (s.q,10)) F M):=by
 refine qZ hm func147 kZG (aA rfl) ?_
 have hpre:=yH hc
 have few:=hp.few
 have hml:=hfm.len
 have gKY:=jI p
 obtain ⟨k,hk⟩:=aG (show 0<=x.n by omega)
 have hkm:k < s.blocks.length:=by omega
 simp only [zQE,go_sem]
 intro r4 mW jP
 generalize eQ:M.upd r4 ⟨x.cs,80,7⟩=M1 at *
 obtain ⟨jA,fP,f4⟩:=nw eQ hold mW jP
 clear eQ
 simp only [go_sem]
 intro r5 lM gU
 generalize eQ:M1.upd r5 ⟨to.cs,90,4⟩=M2 at *
 obtain ⟨eH,dB,f5⟩:=nw eQ fP lM gU
 clear eQ
 have kp:=jA.trans eH
 have f4:=eH _ _ f4
 have D2:=hD.keep kp
 have br:=qG (F:=F) D2.d
 have b4:=qG (F:=F) f4
 obtain ⟨g,cap,ea,hFg,yF,_⟩:=D2.pK hkm (x:=⟨3,none,0,[]⟩) (.inl ⟨rfl,rfl⟩) (fun y _=>nJ rfl)
 have bg:=qG (F:=F) yF
 have d1:=lF (f:=Bl.cs) (sz:=2) Bl.len s.blocks k hkm
 obtain ⟨d2,d3⟩:=Bl.row d1
 have k0:(0:Int)<=k:=by omega
 have k1:(k:Int) < s.blocks.length:=by omega
 have hst:(jD s.q.m x.n).st=(s.blocks[k]).st:=by
  rw [show s.q.m=kD s.blocks from rfl,(uT s.blocks x.n).1,hk,yY hkm]
 rw [hst]
 by_cases hs0:(s.blocks[k]).st=0
 rotate_left
 ·rw [if_neg hs0]
  simp only [go_sem,br,b4,hk,ea,k0,k1,aB,aY,aK,bg,d2,hs0]
  exact qW (doR.same kp dB D2)
 rw [if_pos hs0]
 simp only [go_sem,br,b4,hk,ea,k0,k1,aB,aY,aK,bg,d2,hs0]
 intro r8 hF8 rQ
 have eX:Value.bool true :: List.drop 1 z0.cs=(Sc.mk true 0 0 0).cs:=rfl
 have d58:¬r5=r8:=(qJ rQ f5).1
 have d8g:¬g=r8:=by rintro rfl; rw [yF] at rQ; cases rQ
 simp only [setH,Hp.wZ,go_sem]
 generalize eQ:M2.upd r8 ⟨(Sc.mk true 0 0 0).cs,90,4⟩=M3 at *
 obtain ⟨nU,iE,f8⟩:=nw eQ dB hF8 rQ
 clear eQ
 have fC:=kp.trans nU
 have n8:M r8=none:=kp.free rQ
 have D3:=D2.keep nU
 obtain ⟨g',cap',ea',_,vJF,D4⟩:=D3.pK hkm (x:=⟨3,none,0,[]⟩) (.inl ⟨rfl,rfl⟩) (fun y _=>nJ rfl)
 rw [ea] at ea'
 injection ea' with ea'
 injection ea' with ea'
 subst ea'
 have w2:k * 2+2<=(s.blocks.flatMap Bl.cs).length:=by rw [yG Bl.len]; omega
 have w1:=iC (sz:=2) (f:=Bl.cs) Bl.len ⟨3,none,0,[]⟩ s.blocks k hkm
 simp only [setH,go_sem,vJF,w2]
 rw [show List.take (k * 2) (List.flatMap Bl.cs s.blocks)++[Value.int i64 3,Value.slice none 0 0]++List.drop (k * 2+2) (List.flatMap Bl.cs s.blocks)=(s.blocks.set k ⟨3,none,0,[]⟩).flatMap Bl.cs from w1]
 have f4:=nU _ _ f4
 have f5:=nU _ _ f5
 have dg:∀{q:Nat} {cs:List Value} {ty n:Nat},M3 q=some ⟨cs,ty,n⟩->¬ty=(86:Nat)->¬q=g:=fun h1 h2=>by
  rintro rfl; rw [vJF] at h1; injection h1 with h1; injection h1 with _ h1 _; exact h2 h1.symm
 have g4:(M3.upd g ⟨(s.blocks.set k ⟨3,none,0,[]⟩).flatMap Bl.cs,86,cap' * 2⟩) r4=some ⟨x.cs,80,7⟩:=by rw [Hp.qK (dg f4 (by decide))]; exact f4
 have g5:(M3.upd g ⟨(s.blocks.set k ⟨3,none,0,[]⟩).flatMap Bl.cs,86,cap' * 2⟩) r5=some ⟨to.cs,90,4⟩:=by rw [Hp.qK (dg f5 (by decide))]; exact f5
 have g8:(M3.upd g ⟨(s.blocks.set k ⟨3,none,0,[]⟩).flatMap Bl.cs,86,cap' * 2⟩) r8=some ⟨(Sc.mk true 0 0 0).cs,90,4⟩:=by rw [Hp.qK (dg f8 (by decide))]; exact f8
 have yWX:Old F (M3.upd g ⟨(s.blocks.set k ⟨3,none,0,[]⟩).flatMap Bl.cs,86,cap' * 2⟩):=iE.upd hFg
 have mv4:Mv (drS r s) M (drS r ⟨s.bG,s.bV,s.blocks.set k ⟨3,none,0,[]⟩,s.dV,s.dD,s.next,s.inp,s.p,s.w⟩) (M3.upd g ⟨(s.blocks.set k ⟨3,none,0,[]⟩).flatMap Bl.cs,86,cap' * 2⟩):=Mv.back fC (Mv.drM (yJA ea (fun q h=>by cases h)))
 have xDF:∀q,¬M q=none->¬(M3.upd g ⟨(s.blocks.set k ⟨3,none,0,[]⟩).flatMap Bl.cs,86,cap' * 2⟩) q=none:=fun q hq h=>by
  rw [nX] at h
  exact hq (fC.free h.2)
 have hs4:∀q,drS r ⟨s.bG,s.bV,s.blocks.set k ⟨3,none,0,[]⟩,s.dV,s.dD,s.next,s.inp,s.p,s.w⟩ q->drS r s q:=fun q hq=>by
  rcases hq with h | h | ⟨y,hy,e⟩
  ·exact .inl h
  ·exact .inr (.inl h)
  ·rcases List.mem_or_eq_of_mem_set hy with hy | rfl
   ·exact .inr (.inr ⟨y,hy,e⟩)
   ·cases e
 generalize M3.upd g ⟨(s.blocks.set k ⟨3,none,0,[]⟩).flatMap Bl.cs,86,cap' * 2⟩=M4 at *
 have hl4:(s.blocks.set k ⟨3,none,0,[]⟩).length=s.blocks.length:=aZ
 have gKA:kD (s.blocks.set k ⟨3,none,0,[]⟩)=setB (kD s.blocks) k 3 []:=qQJ
 have xYQ:∀y,(s.blocks.set k ⟨3,none,0,[]⟩).set k y=s.blocks.set k y:=fun y=>List.set_set _
 clear bg d1 d2 d3 w1 w2 b4 br jA eH fP dB jP gU rQ dg
 have kt:=dGE F M4 r p t _ k D4 yWX hc ht (by omega)
 have b4:=qG (F:=F) g4
 simp only [go_sem,b4,hk]
 with_reducible refine qQ kt ?_
 refine gJ (mkI r p t s x to r4 r5 r8 F M) ?_ ?_
 ·cases hcm:comes p t.ns (k:Int)
  ·simp only [go_sem]
   refine At.mk ⟨rfl,yWX,_,D4,?_,rfl,mv4,g4,g5,?_⟩
   ·show (⟨kD (s.blocks.set k ⟨3,none,0,[]⟩),s.next,s.inp,s.p,s.w⟩:Qs)=⟨Go.Ax.mV p t.ns (kD s.blocks) x.n,s.next,s.inp,s.p,s.w⟩
    rw [gKA,hk]; unfold Go.Ax.mV; rw [hcm,if_neg bK]
   ·rw [hk,hcm,if_neg bK]; exact g8
  ·have ks:=zHZ F M4 p hp yWX
   have br:=qG (F:=F) D4.d
   simp only [go_sem,b4,br,hk]
   with_reducible refine wW ks ?_
   rintro u F' M5 hq
   obtain ⟨hG,le5,kq,oq,a2,c2,hu,rdq⟩:=hq.le wJ (by rw [gKY]; omega)
   have dB:=oq yWX
   replace hG:=hG.symm
   subst hG
   subst hu
   refine ⟨(fun _=>le5),?_⟩
   have gKB:k < (yK p).length:=by omega
   obtain ⟨nb,no,ncs,hna,hnb,nd⟩:=Ax.gW rdq gKB
   have hsz:=jE hc (k:Int)
   have hsg:=wQK gKB
   rw [hsg] at hsz
   have k2:(k:Int) < (yK p).length:=by omega
   generalize (yK p)[k]=z at *
   obtain ⟨w,rfl⟩:=aG hsz.1
   have kf:=gKZ F M5 w dB (by omega)
   subst hna
   simp only [go_sem,k0,k2,aB,hnb,nd]
   with_reducible refine wW kf ?_
   rintro u F' M6 ⟨hG,iZ,eG,x',rfl,hs',hc',own'⟩
   replace hG:=hG.symm
   subst hG
   refine ⟨(fun _=>iZ.le eG),?_⟩
   have jYJ:=kq.trans iZ
   have D6:=D4.keep jYJ
   have hnew:∀q,x'.lA=some ⟨q,0,none⟩->M4 q=none:=fun q e=>kq.free (own'.new q _ _ (by rw [e]))
   have hy:=D4.own.xHF hnew
   obtain ⟨g',cap6,ea',_,jYG,D7⟩:=D6.pK (by show k < (s.blocks.set k _).length; rw [hl4]; exact hkm) (x:=x') own'.own hy
   rw [show (dM.mk s.bG s.bV (s.blocks.set k ⟨3,none,0,[]⟩) s.dV s.dD s.next s.inp s.p s.w).bG=s.bG from rfl,ea] at ea'
   injection ea' with ea'
   injection ea' with ea'
   subst ea'
   have w2:k * 2+2<=((s.blocks.set k ⟨3,none,0,[]⟩).flatMap Bl.cs).length:=by rw [yG Bl.len,hl4]; omega
   have w1:=iC (sz:=2) (f:=Bl.cs) Bl.len x' (s.blocks.set k ⟨3,none,0,[]⟩) k (by rw [hl4]; exact hkm)
   have h8:=jYJ _ _ g8
   have h4:=jYJ _ _ g4
   have h5:=jYJ _ _ g5
   simp only [] at D7 jYG
   rw [xYQ] at w1 D7
   have dg:∀{q:Nat} {cs:List Value} {ty n:Nat},M6 q=some ⟨cs,ty,n⟩->¬ty=(86:Nat)->¬q=g:=fun h1 h2=>by
    rintro rfl; rw [jYG] at h1; injection h1 with h1; injection h1 with _ h1 _; exact h2 h1.symm
   have e8:(M6.upd g ⟨(s.blocks.set k x').flatMap Bl.cs,86,cap6 * 2⟩) r8=some ⟨(Sc.mk true 0 0 0).cs,90,4⟩:=by rw [Hp.qK (dg h8 (by decide))]; exact h8
   have e4:(M6.upd g ⟨(s.blocks.set k x').flatMap Bl.cs,86,cap6 * 2⟩) r4=some ⟨x.cs,80,7⟩:=by rw [Hp.qK (dg h4 (by decide))]; exact h4
   have e5:(M6.upd g ⟨(s.blocks.set k x').flatMap Bl.cs,86,cap6 * 2⟩) r5=some ⟨to.cs,90,4⟩:=by rw [Hp.qK (dg h5 (by decide))]; exact h5
   have d8g':¬r8=g:=dg h8 (by decide)
   have d48:¬r4=r8:=by rintro rfl; rw [g4] at g8; injection g8 with h; injection h with _ h _; exact absurd h (by decide)
   have d4g:=dg h4 (by decide)
   have eX2:List.take 2 (Sc.mk true 0 0 0).cs++[Value.int .i64 (k:Int)]++List.drop 3 (Sc.mk true 0 0 0).cs=(Sc.mk true 0 k 0).cs:=rfl
   simp only [setH,go_sem,jYG,w2,w1,e8,eX2,d4g]
   have D8:=D7.other (e:=⟨(Sc.mk true 0 k 0).cs,90,4⟩) e8 (by decide) (by decide) (by decide) (by decide)
   refine At.mk ⟨rfl,(eG.upd hFg).upd hF8,_,D8,?_,rfl,⟨fun q y hq hs=>?_,fun q hq=>?_⟩,by rw [Hp.qK d48]; exact e4,by rw [Hp.qK d58]; exact e5,by rw [hk,hcm,if_pos rfl]; exact Hp.qV _ _ _⟩
   ·show (⟨kD (s.blocks.set k x'),s.next,s.inp,s.p,s.w⟩:Qs)=⟨Go.Ax.mV p t.ns (kD s.blocks) x.n,s.next,s.inp,s.p,s.w⟩
    have ex:kD (s.blocks.set k x')=setB (kD s.blocks) k 1 (List.replicate w ⟨0,0,0,0,0⟩):=by
     have:x'=⟨1,x'.lA,x'.lC,List.replicate w ⟨0,0,0,0,0⟩⟩:=by
      obtain ⟨a1,a2,a3,a4⟩:=x'
      simp only at hs' hc'
      rw [hs',hc']
     rw [this]; exact qQJ
    rw [ex,hk]; unfold Go.Ax.mV; rw [hcm,if_pos rfl,hsg,aB]
   ·have q1:¬q=r8:=by rintro rfl; rw [n8] at hq; cases hq
    have q2:¬q=g:=by rintro rfl; exact hs (.inr (.inl ea))
    rw [Hp.qK q1,Hp.qK q2]
    exact jYJ _ _ (mv4.stay q y hq hs)
   ·rcases hq with h | h | ⟨y,hy',e⟩
    ·exact .inl (.inl h)
    ·exact .inl (.inr (.inl h))
    ·rcases List.mem_or_eq_of_mem_set hy' with hy' | rfl
     ·exact .inl (.inr (.inr ⟨y,hy',e⟩))
     ·have h4n:=hnew q e
      by_cases hm:M q=none
      ·exact .inr hm
      ·exact absurd h4n (xDF q hm)
 rintro σ2 F' M5 hst ⟨hG,dB,s5,D5,hq5,ha5,mv5,g4',g5',g8'⟩
 subst hG
 have t0:=hst 0 rfl
 have t5:=hst 5 rfl
 have t7:=hst 7 rfl
 have t8:=hst 8 rfl
 simp only [go_sem] at t0 t5 t7 t8
 clear hst kt b4 g4 g5 g8 D4 D3 D2 f4 f5 f8 gKA xYQ xDF hs4 mv4 hl4 M4 yWX vJF fC yF
 rw [hk] at hq5 g8'
 have c5:=qG (F:=F) g5'
 have c8:=qG (F:=F) g8'
 have hm5:kD s5.blocks=Go.Ax.mV p t.ns s.q.m k:=congrArg Qs.m hq5
 have gKC:iP p s5.blocks:=oG (by rw [hm5]; exact yQV hc (wVG hfm) ⟨by omega,by omega⟩)
 have hgv:GoodS p 7 ⟨true,0,if comes p t.ns (k:Int)=true then k else 0,0⟩:=qQF hc (by split <;> omega)
 generalize hvv:(⟨true,0,if comes p t.ns (k:Int)=true then (k:Int) else 0,0⟩:Sc)=v at *
 have kl:=vJE F M5 r p t s5 to v 7 D5 dB hc gKC (by decide) hs hgv.spell (yJY hgv)
 rw [hq5] at kl
 simp only [go_sem,t0,t5,t8,c5,c8]
 with_reducible refine wW kl ?_
 rintro u F' M6 ⟨hG,eG,rfl,s6,D6,hq6,mv6,ha6⟩
 replace hG:=hG.symm
 subst hG
 refine ⟨(fun h=>by cases h),?_⟩
 have mv:=mv5.trans mv6
 have hmk:iP p (Go.Ax.mV p t.ns s.q.m k):=by rw [<-hm5]; exact wVG gKC
 unfold qQW at hq6 ⊢
 simp only [] at hq6
 by_cases hw:pV (Go.Ax.mV p t.ns s.q.m k) (yJ p.ptr 7) to=0
 ·rw [if_pos hw] at hq6 ⊢
  simp only [go_sem,hw]
  exact qW ⟨rfl,eG,rfl,s6,D6,by rw [hq6],mv,by rw [ha6,ha5]⟩
 rw [if_neg hw] at hq6 ⊢
 have hm6:kD s6.blocks=Go.Ax.mV p t.ns s.q.m k:=congrArg Qs.m hq6
 have hl6:s6.blocks.length=s.blocks.length:=by
  have:=congrArg List.length hm6
  rw [rG] at this
  have h1:=hmk.len
  omega
 have hk6:k < s6.blocks.length:=by omega
 obtain ⟨g',cap6,ea6,dVJ,jYG,D7⟩:=D6.pK hk6 (x:=⟨0,none,0,[]⟩) (.inl ⟨rfl,rfl⟩) (fun y _=>nJ rfl)
 have eg:g'=g:=by
  rw [ha6,ha5,ea] at ea6
  injection ea6 with h
  injection h with h
  exact h.symm
 subst eg
 have w2:k * 2+2<=(s6.blocks.flatMap Bl.cs).length:=by rw [yG Bl.len]; omega
 have w1:=iC (sz:=2) (f:=Bl.cs) Bl.len ⟨0,none,0,[]⟩ s6.blocks k hk6
 simp only [setH,go_sem,t7,hw,jYG,w2]
 rw [show List.take (k * 2) (List.flatMap Bl.cs s6.blocks)++[Value.int i64 0,Value.slice none 0 0]++List.drop (k * 2+2) (List.flatMap Bl.cs s6.blocks)=(s6.blocks.set k ⟨0,none,0,[]⟩).flatMap Bl.cs from w1]
 refine qW ⟨rfl,eG.upd dVJ,rfl,_,D7,?_,mv.trans (Mv.drM (yJA (by rw [ha6,ha5,ea]) (fun q h=>by cases h))),by show s6.bG=_; rw [ha6,ha5]⟩
 have h2:s6.next=s.q.next:=congrArg Qs.next hq6
 have h3:s6.inp=s.q.inp:=congrArg Qs.inp hq6
 have h4:s6.p=s.q.p:=congrArg Qs.p hq6
 have h5:s6.w=s.q.w:=congrArg Qs.w hq6
 have hz:kD (s6.blocks.set k ⟨0,none,0,[]⟩)=kD s.blocks:=by
  rw [qQJ,hm6]
  have hkn:k < (kD s.blocks).length:=by rw [rG]; exact hkm
  have hself:=jXW hkn (by
   rw [qQX]
   unfold Bl.no
   have gKE:=hfm.dead k hkm (by rw [hs0]; decide)
   rw [hs0,gKE])
  unfold Go.Ax.mV
  split
  ·rw [wKB]; exact hself
  ·rw [wKB]; exact hself
 show (⟨kD (s6.blocks.set k ⟨0,none,0,[]⟩),s6.next,s6.inp,s6.p,s6.w⟩:Qs)=s.q
 rw [hz,h2,h3,h4,h5]
 rfl
theorem dVG (r:Nat)(p:Pg)(t:Sr)(s:dM)(i:Nat)(hD:DrM r p t s F M)(hF:F r=none)(hold:Old F M)(hp:p.rd F)(hc:wY p=true)(ht:Sr.rdF F t)(hfm:iP p s.blocks)(xGG:0<=s.inp/\s.inp<=1000)(hnl:s.next.length<=45000)(hi:i < p.stmts.length) :
  aI prog 112 [.pointer (some ⟨r,0,none⟩),.int .i64 i] F M (doR p t r s (doQ p t.rs t.ns i p.stmts[i] s.q) F M):=by
 refine qZ hm func112 kXW (aA rfl) ?_
 have few:=hp.few
 have hst:=qKD (xY hc hi)
 obtain ⟨bx,ox,cx,eax,hbx,dx1,dx2⟩:=dF.at (hp.stmts M hold) hi
 have hxm:p.stmts[i]∈p.stmts:=aH hi
 generalize p.stmts[i]=x at *
 obtain ⟨o1,o7,sE,s1,s2,s3⟩:=hst
 have br:=qG (F:=F) hD.d
 have i0:(0:Int)<=i:=by omega
 have i1:(i:Int) < p.stmts.length:=by omega
 have hsm:s.q.m=kD s.blocks:=rfl
 simp only [vYB,go_sem,br,eax,i0,i1,aB,hbx,dx1,dx2]
 intro r5 lM gU
 have n5:M r5=none:=gU
 simp only [setH,Hp.wZ,go_sem]
 generalize eQ:M.upd r5 ⟨x.cs,80,7⟩=M1 at *
 obtain ⟨eH,dB,f5⟩:=nw eQ hold lM gU
 clear eQ
 have D1:=hD.keep eH
 have br1:=qG (F:=F) D1.d
 have b5:=qG (F:=F) f5
 unfold doQ
 by_cases h7:x.op=7
 ·rw [if_pos h7]
  have eC:List.take 10 (Dr.mk p t s).cs++[Value.slice none 0 0]++List.drop 11 (Dr.mk p t s).cs=(Dr.mk p t ⟨s.bG,s.bV,s.blocks,none,0,[],s.inp,s.p,s.w⟩).cs:=rfl
  have D2:=D1.put none 0 [] s.inp s.p s.w (NxR.of (.inl ⟨rfl,rfl⟩) (by decide)) (fun _=>rfl)
  simp only [setH,go_sem,h7,D1.d,eC]
  exact qW ⟨rfl,dB.upd hF,rfl,_,D2,rfl,Mv.back eH (Mv.drU fun q h=>h),rfl⟩
 rw [if_neg h7]
 have sE:=sE h7
 obtain ⟨e,hee,he1,he2⟩:=qJF sE
 have hgv:=yJW hc hfm sE
 rw [hsm,yHZ]
 rw [hee] at hgv ⊢
 obtain ⟨rd1,rd2⟩:=jYX D1 hfm hc
 have kv:=gZB F M1 p s.bG s.bV s.blocks e hp rd1 rd2 dB hc hfm he1
 generalize lJ p s.blocks (e:Int)=rv at *
 obtain ⟨v,bad⟩:=rv
 have f5':=f5
 simp only [go_sem,b5,h7]
 refine gJ (fun σ' F' M'=>F=F'/\M1=M'/\Ax.look σ' 6=some (.int .i64 e)) ?_ ?_
 ·unfold zA at hee
  by_cases h3:x.op<=3
  ·rw [if_pos h3] at hee
   simp only [go_sem,b5,h3,hee]
   exact At.mk ⟨rfl,rfl,(by simp only [go_sem, *] <;> rfl)⟩
  ·rw [if_neg h3] at hee
   simp only [go_sem,h3,hee]
   exact At.mk ⟨rfl,rfl,(by simp only [go_sem, *] <;> rfl)⟩
 rintro σ2 F' M' hst ⟨hG,hMM,t6⟩
 subst hG hMM
 have t0:=hst 0 rfl
 have t1:=hst 1 rfl
 have t5:=hst 5 rfl
 simp only [go_sem] at t0 t1 t5
 clear hst
 simp only [go_sem,t0,t6,br1]
 with_reducible refine qQ kv ?_
 simp only [go_sem]
 intro r7 wU qB
 simp only [setH,Hp.wZ,go_sem]
 generalize eQ:M1.upd r7 ⟨v.cs,90,4⟩=M3 at *
 obtain ⟨lY,iO,f7⟩:=nw eQ dB wU qB
 clear eQ
 have kp:=eH.trans lY
 have D3:=D1.keep lY
 have c5:=qG (F:=F) (lY _ _ f5)
 have c7:=qG (F:=F) f7
 clear kv br br1 b5 rd1 rd2 D1
 by_cases hb:bad=0
 rotate_left
 ·rw [if_neg hb]
  simp only [go_sem,hb]
  exact qW (doR.same kp iO D3)
 subst hb
 rw [if_pos rfl]
 have hg:GoodS p (if x.op<=4 then 7 else 6) v:=by
  rcases hgv with ⟨_,h⟩ | ⟨h,_⟩
  ·exact h
  ·exact absurd (show (1:Int)<=0 from h.1) (by decide)
 clear hgv
 unfold opQ
 by_cases h1:x.op=1
 ·rw [if_pos h1]
  rw [if_pos (by omega)] at hg
  obtain ⟨k1,k2⟩:=s1 h1
  have ks:=dGC F M3 r p t s x v D3 iO hp hc hfm k1 k2 hg
  rw [hsm] at ks
  simp only [go_sem,t0,t5,c5,c7,h1]
  with_reducible refine wW ks ?_
  intro u F' M4 hR
  have hR:=doR.back kp hR
  refine ⟨(fun h=>by cases h),?_⟩
  simp only [go_sem]
  exact qW hR
 rw [if_neg h1]
 by_cases h2:x.op=2
 ·rw [if_pos h2]
  rw [if_pos (by omega)] at hg
  have ks:=dGF F M3 r p t s x v D3 hF iO hc hfm ht (s2 h2) hg xGG
  rw [hsm] at ks
  simp only [go_sem,t0,t5,c5,c7,h2]
  with_reducible refine wW ks ?_
  intro u F' M4 hR
  have hR:=doR.back kp hR
  refine ⟨(fun h=>by cases h),?_⟩
  simp only [go_sem]
  exact qW hR
 rw [if_neg h2]
 by_cases h3:x.op=3
 ·rw [if_pos h3]
  rw [if_pos (by omega)] at hg
  have ks:=dVK F M3 r p t s x v D3 hF iO hp hc hfm ht hg (s3 h3)
  rw [hsm] at ks
  simp only [go_sem,t0,t5,c5,c7,h3]
  with_reducible refine wW ks ?_
  intro u F' M4 hR
  have hR:=doR.back kp hR
  refine ⟨(fun h=>by cases h),?_⟩
  simp only [go_sem]
  exact qW hR
 rw [if_neg h3]
 by_cases h4:x.op=4
 ·rw [if_pos h4]
  rw [if_pos (by omega)] at hg
  have ks:=dVQ F M3 r p t s v D3 iO hc hfm hg
  unfold jYK at ks
  rw [hsm] at ks
  simp only [go_sem,t0,t5,c5,c7,h4]
  with_reducible refine wW ks ?_
  intro u F' M4 hR
  have hR:=doR.back kp hR
  refine ⟨(fun h=>by cases h),?_⟩
  simp only [go_sem]
  exact qW hR
 rw [if_neg h4]
 have fin:∀yes:Bool,(yes=true↔¬v.n=0)->∀u F' M4,doT p t r s ⟨s.q.m,(if yes=true then x.body++(if x.op=6 then [(i:Int)] else []) else x.els)++s.next,s.q.inp,s.q.p,s.q.w⟩ F M3 u F' M4->doR p t r s (⟨kD s.blocks,(if v.n=0 then x.els else x.body++if x.op=6 then [(i:Int)] else [])++s.q.next,s.q.inp,s.q.p,s.q.w⟩,0) F M (.int .i64 0) F' M4:=fun yes hy u F' M4 ⟨h1,h2,h3,s',h4,h5,h6,h7⟩=>by
  refine ⟨h1,h2,rfl,s',h4,?_,Mv.back kp h6,h7⟩
  ·rw [h5]
   by_cases hv:v.n=0
   ·rw [if_pos hv,if_neg (fun h=>hy.1 h hv)]; rfl
   ·rw [if_neg hv,if_pos (hy.2 hv)]; rfl
 by_cases hv:v.n=0
 ·have kb:=gKG F M3 r p t s x i false D3 hF iO hp hxm (by omega) hnl
  simp only [go_sem,t0,t1,t5,c5,c7,h1,h2,h3,h4,hv]
  with_reducible refine wW kb ?_
  intro u F' M4 hR
  have hR:=fin false (by simp [hv]) _ _ _ hR
  refine ⟨(fun h=>by cases h),?_⟩
  simp only [go_sem]
  rw [if_pos hv] at hR
  exact qW hR
 ·have kb:=gKG F M3 r p t s x i true D3 hF iO hp hxm (by omega) hnl
  simp only [go_sem,t0,t1,t5,c5,c7,h1,h2,h3,h4,hv]
  with_reducible refine wW kb ?_
  intro u F' M4 hR
  have hR:=fin true (by simp [hv]) _ _ _ hR
  refine ⟨(fun h=>by cases h),?_⟩
  simp only [go_sem]
  rw [if_neg hv] at hR
  exact qW hR
theorem DrM.rd {r:Nat}{p:Pg}{t:Sr}{s:dM}{F:Fz}{M:Hp}(h:DrM r p t s F M)(o:Old F M)(h1:s.blocks.length<=1000000)(h2:∀y∈s.blocks,y.l.length<=1000000):s.rd F M:=by
 obtain ⟨o1,o2,o3,o4⟩:=h.own.rd h1 h2;exact ⟨o1,o2,h.next.rd o,o3,h.nz,o4⟩
theorem k75 (p:Pg)(s:dM)(t:Sr)(n:Nat)(hp:p.rd F)(hs:s.rd F M)(ht:Sr.rdF F t)(hold:Old F M)(hc:wY p=true)(hq:OkQ p s.q n)(hn:n<=900) :
  aI prog 75 [p.val,s.val,t.val] F M (Makes F M fun u M'=>∃s':dM,u=s'.val/\s'.q=rV p t.rs t.ns s.q/\s'.rd F M'):=by
 refine qZ hm func75 e75 (aA rfl) ?_
 have few:=hp.few
 obtain ⟨_,hm1,hm2⟩:=fH.small hq rfl hc
 have hlen:s.next.length<=41 * (n+1):=hq.len
 simp only [c75,go_sem]
 intro r3 hF3 dN
 generalize eQ:M.upd r3 ⟨p.cs,43,7⟩=M1 at *
 obtain ⟨fC,dA,f3⟩:=nw eQ hold hF3 dN
 clear eQ
 simp only [go_sem]
 intro r4 mW jP
 generalize eQ:M1.upd r4 ⟨s.cs,57,5⟩=M2 at *
 obtain ⟨jA,fP,f4⟩:=nw eQ dA mW jP
 clear eQ
 simp only [go_sem]
 intro r5 lM gU
 generalize eQ:M2.upd r5 ⟨t.cs,64,2⟩=M3 at *
 obtain ⟨eH,dB,f5⟩:=nw eQ fP lM gU
 clear eQ
 simp only [go_sem]
 intro r6 vI oI
 have n6:M r6=none:=((fC.trans jA).trans eH).free oI
 generalize eQ:M3.upd r6 ⟨[.slice none 0 0,.slice none 0 0,.int .i64 0,.int .i64 0,.int .i64 0],57,5⟩=M4 at *
 obtain ⟨iZ,eG,f6⟩:=nw eQ dB vI oI
 clear eQ
 have kp:=((fC.trans jA).trans eH).trans iZ
 have f4:=iZ _ _ (eH _ _ f4)
 have b3:=qG (F:=F) (iZ _ _ (eH _ _ (jA _ _ f3)))
 have b4:=qG (F:=F) f4
 have b5:=qG (F:=F) (iZ _ _ f5)
 have ko:=dGV F M4 s (hs.keep kp eG) eG (by omega) (fun y hy=>by have:=hm2 y hy; omega)
 simp only [go_sem,b3,b4,b5]
 with_reducible refine wW ko ?_
 rintro u F' M5 ⟨hG,lY,iO,s1,rfl,hq1,dVV,qWC,gKF,jDF⟩
 replace hG:=hG.symm
 subst hG
 refine ⟨(fun _=>lY.le iO),?_⟩
 have g4:=lY _ _ f4
 have g6:=lY _ _ f6
 have c4:=qG (F:=F) g4
 have eL1:(List.take 7 (p.cs++[Value.slice none 0 0,Value.slice none 0 0,Value.slice none 0 0,Value.slice none 0 0,Value.int .i64 0,Value.int .i64 0,Value.int .i64 0])).length=7:=rfl
 have eL2:(List.drop 9 (p.cs++[Value.slice none 0 0,Value.slice none 0 0,Value.slice none 0 0,Value.slice none 0 0,Value.int .i64 0,Value.int .i64 0,Value.int .i64 0])).length=5:=rfl
 have eD:List.take 9 (List.take 7 (p.cs++[Value.slice none 0 0,Value.slice none 0 0,Value.slice none 0 0,Value.slice none 0 0,Value.int .i64 0,Value.int .i64 0,Value.int .i64 0])++t.cs++List.drop 9 (p.cs++[Value.slice none 0 0,Value.slice none 0 0,Value.slice none 0 0,Value.slice none 0 0,Value.int .i64 0,Value.int .i64 0,Value.int .i64 0]))++s1.cs++List.drop 14 (List.take 7 (p.cs++[Value.slice none 0 0,Value.slice none 0 0,Value.slice none 0 0,Value.slice none 0 0,Value.int .i64 0,Value.int .i64 0,Value.int .i64 0])++t.cs++List.drop 9 (p.cs++[Value.slice none 0 0,Value.slice none 0 0,Value.slice none 0 0,Value.slice none 0 0,Value.int .i64 0,Value.int .i64 0,Value.int .i64 0]))=(Dr.mk p t s1).cs:=rfl
 simp only [go_sem,eL1,eL2,eD]
 intro r15 wYV qJV
 have n15:M r15=none:=(kp.trans lY).free qJV
 generalize eQ:M5.upd r15 ⟨(Dr.mk p t s1).cs,170,14⟩=M6 at *
 obtain ⟨qHD,wKC,f15⟩:=nw eQ iO wYV qJV
 clear eQ eL1 eL2 eD
 have hl1:s1.next=s.next:=congrArg Qs.next hq1
 have D6:DrM r15 p t s1 F M6:=⟨f15,dVV.keep qHD,NxR.of (qWC.own.keep qHD) (by rw [hl1]; omega),yJC qWC.own⟩
 have g4:=qHD _ _ g4
 have g6:=qHD _ _ g6
 have kpA:=(kp.trans lY).trans qHD
 have hdr:∀q,drS r15 s1 q->M q=none:=fun q hq=>by
  rcases hq with rfl | h | ⟨x,hx,e⟩
  ·exact n15
  ·exact kp.free (gKF q h)
  ·exact kp.free (jDF x hx q e)
  -- the end
 have fin:∀(M7:Hp) (s2:dM) (y:Nat),OkQ p s2.q y->s2.q=rV p t.rs t.ns s.q->DrM r15 p t s2 F M7->Old F M7->(∀q x,M6 q=some x->¬drS r15 s1 q->M7 q=some x)->M7 r6=some ⟨[.slice none 0 0,.slice none 0 0,.int .i64 0,.int .i64 0,.int .i64 0],57,5⟩/\lK F (M7.upd r6 ⟨s2.cs,57,5⟩) (Makes F M fun u M'=>∃s':dM,u=s'.val/\s'.q=rV p t.rs t.ns s.q/\s'.rd F M') s2.val:=fun M7 s2 y hok hq2 D7 o7 st=>by
  have h6:M7 r6=some _:=st r6 _ g6 (fun h=>by
   rcases h with rfl | h
   ·rw [g6] at f15; injection f15 with f15; injection f15 with _ f15 _; exact absurd f15 (by decide)
   ·obtain ⟨x,hx,e⟩:=wKA D6.own h
    rw [g6] at hx; injection hx with hx; rw [<-hx] at e
    rcases e with e | e
    ·exact absurd e (show ¬(57:Nat)=86 by decide)
    ·exact absurd e (show ¬(57:Nat)=88 by decide))
  refine ⟨h6,?_⟩
  have D8:=D7.other (e:=⟨s2.cs,57,5⟩) h6 (by decide) (by decide) (by decide) (by decide)
  obtain ⟨_,hb1,hb2⟩:=fH.small hok rfl hc
  refine qW ⟨rfl,fun q x hx=>?_,o7.upd vI,s2,rfl,hq2,D8.rd (o7.upd vI) (by omega) (fun y hy=>by have:=hb2 y hy; omega)⟩
  have:¬q=r6:=by rintro rfl; rw [n6] at hx; cases hx
  rw [Hp.qK this]
  exact st q x (kpA q x hx) (fun h=>by rw [hdr q h] at hx; cases hx)
 have ke:=k74 F M6 s
 have c4:=qG (F:=F) g4
 have br:=qG (F:=F) D6.d
 simp only [go_sem,c4]
 with_reducible refine qQ ke ?_
 cases hE:wB s.q
 rotate_left
 ·have hS:rV p t.rs t.ns s.q=s.q:=by unfold rV; rw [if_pos hE]
  obtain ⟨h6,hend⟩:=fin M6 s1 n (by rw [hq1]; exact hq) (by rw [hq1,hS]) D6 wKC (fun q x h _=>h)
  simp only [setH,go_sem,br,h6]
  exact hend
 obtain ⟨i,rest,hnx,_,_⟩:=wWK hE
 have hnx1:s1.next=i :: rest:=by rw [hl1]; exact hnx
 have hii:=hq.next i (by rw [hnx]; exact List.mem_cons_self)
 obtain ⟨k,rfl⟩:=aG hii.1
 have hk:k < p.stmts.length:=by omega
 have hstep:=step_eq (p:=p) (rs:=t.rs) (ns:=t.ns) hE hnx
 rw [wWZ hk] at hstep
 have hqt:=hq.tail hnx
 have hok:=xHC hc (rs:=t.rs) (ns:=t.ns) hk hqt
 have hlr:s1.next.length=rest.length+1:=by rw [hnx1]; rfl
 obtain ⟨nb,no,ncs,hna,hnb,nd⟩:=Ax.gW (D6.next.rd wKC) (show 0 < s1.next.length by omega)
 have hn0:s1.next[0]'(by omega)=(k:Int):=by simp [hnx1]
 rw [hn0] at nd
 have l0:(0:Int) < s1.next.length:=by omega
 have l1:(1:Int)<=s1.next.length:=by omega
 have l2:s1.next.length<=s1.dD:=by
  obtain ⟨_,ad,cap,hc,e,_⟩:=D6.next.rd wKC
  cases e; exact hc
 obtain ⟨nA,hnA⟩:∃nA,nA=if (s1.dD:Int)=1 then some (⟨nb,no,none⟩:Addr) else some ⟨nb,no+1,none⟩:=⟨_,rfl⟩
 have hcut:NxR F M6 nA (s1.dD - 1) rest:=fun M' o fr=>by
  have h:=(D6.next M' o fr).cut (lo:=1) (n:=rest.length) (by omega)
  have e:(s1.next.drop 1).take rest.length=rest:=by rw [hnx1]; simp
  rw [e,hna] at h
  rw [hnA]
  exact h
 have hcz:nA=none->s1.dD - 1=0:=fun h=>by
  rw [hnA] at h
  split at h <;> cases h
 have Dn:=D6.put nA (s1.dD - 1) rest s1.inp s1.p s1.w hcut hcz
 have eC:List.take 10 (Dr.mk p t s1).cs++[Value.slice nA (s1.next.length - 1) (s1.dD - 1)]++List.drop 11 (Dr.mk p t s1).cs=(Dr.mk p t ⟨s1.bG,s1.bV,s1.blocks,nA,s1.dD - 1,rest,s1.inp,s1.p,s1.w⟩).cs:=by
  rw [show s1.next.length - 1=rest.length by omega]; rfl
 have hq2:(⟨s1.bG,s1.bV,s1.blocks,nA,s1.dD - 1,rest,s1.inp,s1.p,s1.w⟩:dM).q=⟨s.q.m,rest,s.q.inp,s.q.p,s.q.w⟩:=by rw [<-hq1]; rfl
 have yJK:iP p s1.blocks:=oG (by rw [show kD s1.blocks=s.q.m from congrArg Qs.m hq1]; exact hq.fit)
 have xGG:s1.inp=s.q.inp:=congrArg Qs.inp hq1
 have st7:∀y q x,M6 q=some x->¬drS r15 s1 q->(M6.upd r15 y) q=some x:=fun y q x hx hs=>by
  have:¬q=r15:=fun h=>hs (.inl h)
  rw [Hp.qK this]; exact hx
 have hrl:rest.length<=45000:=by
  have:=congrArg List.length hl1
  omega
 simp only [setH,go_sem,br,hna,l0,l1,hnb,nd,D6.d]
 rw [<-hnA]
 rw [eC] at *
 generalize hs2:(⟨s1.bG,s1.bV,s1.blocks,nA,s1.dD - 1,rest,s1.inp,s1.p,s1.w⟩:dM)=s2 at *
 have hS2:∀q,drS r15 s2 q↔drS r15 s1 q:=fun q=>by rw [<-hs2]; exact Iff.rfl
 have iO:Old F (M6.upd r15 ⟨(Dr.mk p t s2).cs,170,14⟩):=wKC.upd wYV
 have st7:=st7 ⟨(Dr.mk p t s2).cs,170,14⟩
 have kd:=dVG F (M6.upd r15 ⟨(Dr.mk p t s2).cs,170,14⟩) r15 p t s2 k Dn wYV iO hp hc ht (by rw [<-hs2]; exact yJK) (by rw [<-hs2]; show 0<=s1.inp/\s1.inp<=1000; have:=hq.inp; omega) (by rw [<-hs2]; exact hrl) hk
 rw [hq2] at kd
 generalize M6.upd r15 ⟨(Dr.mk p t s2).cs,170,14⟩=M7 at *
 generalize doQ p t.rs t.ns k p.stmts[k] ⟨s.q.m,rest,s.q.inp,s.q.p,s.q.w⟩=R at *
 with_reducible refine wW kd ?_
 rintro u F' M8 ⟨hG,iE,rfl,s3,D8,hq3,mv8,ha8⟩
 replace hG:=hG.symm
 subst hG
 refine ⟨(fun h=>by cases h),?_⟩
 have st8:∀q x,M6 q=some x->¬drS r15 s1 q->M8 q=some x:=fun q x hx hs=>mv8.stay q x (st7 q x hx hs) (fun h=>hs ((hS2 q).1 h))
 have br8:=qG (F:=F) D8.d
 by_cases hb:R.2=0
 ·rw [if_pos hb] at hstep
  obtain ⟨h6,hend⟩:=fin M8 s3 (n+1) (by rw [hq3]; exact hok) (by rw [hq3,hstep]) D8 iE st8
  simp only [setH,go_sem,hb,br8,h6]
  exact hend
 ·rw [if_neg hb] at hstep
  have D9:=D8.put s3.dV s3.dD s3.next s3.inp k R.2 D8.next D8.nz
  have eC2:List.take 12 (Dr.mk p t s3).cs++[Value.int .i64 (k:Int),Value.int .i64 R.2]=(Dr.mk p t ⟨s3.bG,s3.bV,s3.blocks,s3.dV,s3.dD,s3.next,s3.inp,k,R.2⟩).cs:=rfl
  have hq9:(⟨s3.bG,s3.bV,s3.blocks,s3.dV,s3.dD,s3.next,s3.inp,k,R.2⟩:dM).q=⟨R.1.m,R.1.next,R.1.inp,k,R.2⟩:=by rw [<-hq3]; rfl
  have st9:∀y q x,M6 q=some x->¬drS r15 s1 q->(M8.upd r15 y) q=some x:=fun y q x hx hs=>by
   have:¬q=r15:=fun h=>hs (.inl h)
   rw [Hp.qK this]; exact st8 q x hx hs
  obtain ⟨h6,hend⟩:=fin _ _ (n+1) (by rw [hq9]; exact ⟨hok.fit,hok.next,hok.len,hok.inp⟩) (by rw [hq9,hstep]) D9 (iE.upd wYV) (st9 _)
  simp only [setH,go_sem,hb,D8.d,eC2]
  generalize M8.upd r15 ⟨(Dr.mk p t ⟨s3.bG,s3.bV,s3.blocks,s3.dV,s3.dD,s3.next,s3.inp,k,R.2⟩).cs,170,14⟩=M9 at *
  have br9:=qG (F:=F) D9.d
  simp only [setH,go_sem,h6]
  exact hend
def dVD (p:Pg)(t:Sr)(n:Nat)(r3 r4 r7:Nat)(F0:Fz)(M0:Hp)(i:Nat)(σ:Env)(F:Fz)(M:Hp):Prop:=
 F0=F/\Ax.look σ 14=some (.int .i64 i)/\∃A:Hp,∃s:dM,∃L:List dM,∃w,∃pre:List Qs,Keep M0 A/\Keep A M/\Old F A/\Old F M/\A r7=none/\M r3=some ⟨p.cs,43,7⟩/\M r4=some ⟨t.cs,64,2⟩/\M r7=some ⟨s.cs,57,5⟩/\
  s.rd F A/\(∀x∈L,x.rd F A)/\L.map dM.q=pre++[s.q]/\OkQ p s.q i/\Ax.look σ 8=some w/\yW 5 dM.cs 57 F A M w L/\sK p t.rs t.ns n (fZ p)=pre++sK p t.rs t.ns (n - i) s.q/\L.length<=i+1/\∀g m c,w=.slice (some ⟨g,0,none⟩) m c->¬r7=g
theorem k36 (p:Pg)(t:Sr)(n:Nat)(hp:p.rd F)(ht:Sr.rdF F t)(hold:Old F M)(hc:wY p=true)(hn:n<=900) :
  aI prog 36 [p.val,t.val,.int .i64 n] F M (xJY (sK p t.rs t.ns n (fZ p)) F M):=by
 refine qZ hm func36 e36 (aA rfl) ?_
 simp only [c36,go_sem]
 intro r3 hF3 dN
 generalize eQ:M.upd r3 ⟨p.cs,43,7⟩=M1 at *
 obtain ⟨fC,dA,f3⟩:=nw eQ hold hF3 dN
 clear eQ
 simp only [go_sem]
 intro r4 mW jP
 generalize eQ:M1.upd r4 ⟨t.cs,64,2⟩=M2 at *
 obtain ⟨jA,fP,f4⟩:=nw eQ dA mW jP
 clear eQ
 have kp:=fC.trans jA
 have f3:=jA _ _ f3
 clear fC jA dA dN jP
 have b3:=qG (F:=F) f3
 have hpre:=yH hc
 have kb:=aI.part kp fP (k73 F M p hp hold hc)
 simp only [go_sem,b3]
 with_reducible refine wW kb ?_
 rintro u F' M3 ⟨hG,fC,dA,A,kA,oA,kAM,hAn,s,rfl,hq,rds⟩
 replace hG:=hG.symm
 subst hG
 refine ⟨(fun h=>by cases h),?_⟩
 have g3:=fC _ _ f3
 have g4:=fC _ _ f4
 clear kb b3 f3 f4 kp fC fP
 simp only [go_sem]
 intro r7 wU qB
 have A7:A r7=none:=kAM.free qB
 have d73:=(qJ qB g3).1
 have d74:=(qJ qB g4).1
 simp only [setH,Hp.wZ,go_sem]
 intro rb uK lW
 have wVH:=yZ lW
 have Ab:A rb=none:=kAM.free wVH.2.2
 simp only [go_sem]
 have tZ:yW 5 dM.cs 57 F A ((M3.upd r7 ⟨s.cs,57,5⟩).upd rb ⟨s.cs,57,5⟩) (.slice (some ⟨rb,0,none⟩) 1 1) [s]:=yW.one uK Ab rfl
 refine wV n (dVD p t n r3 r4 r7 F M) ⟨rfl,(by simp only [go_sem, *] <;> rfl),A,s,[s],_,[],kA,(kAM.new A7).new Ab,oA,(dA.upd wU).upd uK,A7,by rw [Hp.qK (qJ lW (by rw [Hp.qK d73]; exact g3)).1,Hp.qK d73]; exact g3,by rw [Hp.qK (qJ lW (by rw [Hp.qK d74]; exact g4)).1,Hp.qK d74]; exact g4,by rw [Hp.qK wVH.2.1]; exact Hp.qV _ _ _,rds,fun x hx=>by rw [aX.1 hx]; exact rds,rfl,hq ▸ qQK hc,(by simp only [go_sem, *] <;> rfl),tZ,by rw [hq]; rfl,by simp,fun g m c e=>by injection e with e; injection e with e; injection e with e; rw [<-e]; exact wVH.2.1⟩ ?_
 clear qB lW wVH g3 g4 tZ kAM hAn kA oA rds hq A7 Ab
 rintro i σ F' M4 hi hst ⟨hG,q14,A,s,L,w,pre,kA,kAM,oA,oM,A7,g3,g4,g7,rds,rdL,hL,hok,q8,mine,hrun,hll,hgw⟩
 subst hG
 have q13:=hst 13 rfl
 have q3:=hst 3 rfl
 have q4:=hst 4 rfl
 have q7:=hst 7 rfl
 simp only [go_sem] at q13 q3 q4 q7
 clear hst
 have b3:=qG (F:=F) g3
 have b4:=qG (F:=F) g4
 have b7:=qG (F:=F) g7
  -- the end
 have fin:(wB s.q=true\/n<=i)->∀w',w=w'->lK F M4 (xJY (sK p t.rs t.ns n (fZ p)) F M) w':=fun he w' hw=>by
  subst hw
  obtain ⟨a',c',rfl⟩:=mine.shape
  obtain ⟨A',kAA,jDK,oA',jWD,_⟩:=vU mine kAM
  exact qX jDK ⟨rfl,kA.trans kAA,oA' oA,a',c',L,rfl,by rw [hL,yHD hrun he],jWD.rd dM.len (by omega),fun x hx=>(rdL x hx).keep kAA (oA' oA)⟩
 by_cases hin:(i:Int) < n
 rotate_left
 ·simp only [go_sem,q13,q8,q14,hin]
  exact fin (.inr (by omega)) _ rfl
 have ke:=k74 F M4 s
 simp only [go_sem,q13,q7,q14,hin,b7]
 with_reducible refine qQ ke ?_
 cases he:wB s.q
 rotate_left
 ·simp only [go_sem,q8]
  exact fin (.inl he) _ rfl
 have ks:=aI.part kAM oM (k75 F A p s t i hp rds ht oA hc hok (by omega))
 simp only [go_sem,q3,q4,q7,b3,b4,b7]
 with_reducible refine wW ks ?_
 rintro u F' M5 ⟨hG,eH,dB,N,kN,oN,kNM,hNn,s2,rfl,hs2,rd2⟩
 replace hG:=hG.symm
 subst hG
 refine ⟨(fun h=>by cases h),?_⟩
 have N7:N r7=none:=hNn r7 (by rw [g7]; simp) A7
 have k3:=eH _ _ g3
 have k4:=eH _ _ g4
 have k7:=eH _ _ g7
 have mQ:yW 5 dM.cs 57 F N M5 w L:=by
  refine ⟨mine.own.keep eH,fun g m c e=>?_⟩
  have hg:=mine.new g m c e
  rcases mine.own with ⟨h1,_⟩ | ⟨g',cap,h1,_,h3,_⟩
  ·rw [h1] at e; cases e
  ·rw [h1] at e; injection e with e; injection e with e; injection e with e; subst e
   exact hNn g' (by rw [h3]; simp) hg
 simp only [setH,go_sem,k7,q7,q8]
 have f7:(M5.upd r7 ⟨s2.cs,57,5⟩) r7=some ⟨s2.cs,57,5⟩:=Hp.qV _ _ _
 have f3:(M5.upd r7 ⟨s2.cs,57,5⟩) r3=some ⟨p.cs,43,7⟩:=by
  rw [Hp.qK (fun e=>by rw [e,k7] at k3; injection k3 with k3; injection k3 with _ k3 _; exact absurd k3 (by decide))]; exact k3
 have f4:(M5.upd r7 ⟨s2.cs,57,5⟩) r4=some ⟨t.cs,64,2⟩:=by
  rw [Hp.qK (fun e=>by rw [e,k7] at k4; injection k4 with k4; injection k4 with _ k4 _; exact absurd k4 (by decide))]; exact k4
 have wQY:gQ 5 dM.cs 57 F (M5.upd r7 ⟨s2.cs,57,5⟩) w L:=by
  rcases mQ.own with h1 | ⟨g,cap,h1,h2,h3,h4⟩
  ·exact .inl h1
  ·exact .inr ⟨g,cap,h1,h2,by rw [Hp.qK (fun e=>hgw g _ _ h1 e.symm)]; exact h3,h4⟩
 have iZ:Keep N (M5.upd r7 ⟨s2.cs,57,5⟩):=kNM.new N7
 have eG:Old F (M5.upd r7 ⟨s2.cs,57,5⟩):=dB.upd wU
 generalize M5.upd r7 ⟨s2.cs,57,5⟩=M6 at *
 have c7:=qG (F:=F) f7
 try simp only [go_sem,q13,q3,q4,q7,q8,q14,c7]
 intro rb uK lW
 have Nb:N rb=none:=iZ.free lW
 have db7:=(qJ lW f7).1
 have db3:=(qJ lW f3).1
 have db4:=(qJ lW f4).1
 have ei:i64.wrap ((i:Int)+1)=i+1:=dQ (by omega) (by omega)
 simp only [go_sem]
 refine qYA (xs:=L) (ys:=[s2]) dM.len dM.plain (by decide) (wQY.new lW) (jDZ (Hp.qV _ _ _)) (by simp) (by simp; omega) ?_
 rintro g cap M7 hg hFg rfl jQY
 have hg7:¬r7=g:=by
  rcases hg with h | ⟨c,h⟩
  ·rintro rfl; rw [Hp.qK db7,f7] at h; cases h
  ·exact hgw g _ _ h
 have Ng:N g=none:=by
  rcases hg with h | ⟨c,h⟩
  ·rw [nX] at h; exact iZ.free h.2
  ·exact mQ.new g _ _ h
 have hg3:¬r3=g:=by
  rcases hg with h | ⟨c,h⟩
  ·rintro rfl; rw [Hp.qK db3,f3] at h; cases h
  ·rintro rfl
   rcases wQY with ⟨h1,_⟩ | ⟨g',cap',h1,_,h3,_⟩
   ·rw [h] at h1; cases h1
   ·rw [h] at h1; injection h1 with h1; injection h1 with h1; injection h1 with h1; subst h1
    rw [f3] at h3; injection h3 with h3; injection h3 with _ h3 _; exact absurd h3 (by decide)
 have hg4:¬r4=g:=by
  rcases hg with h | ⟨c,h⟩
  ·rintro rfl; rw [Hp.qK db4,f4] at h; cases h
  ·rintro rfl
   rcases wQY with ⟨h1,_⟩ | ⟨g',cap',h1,_,h3,_⟩
   ·rw [h] at h1; cases h1
   ·rw [h] at h1; injection h1 with h1; injection h1 with h1; injection h1 with h1; subst h1
    rw [f4] at h3; injection h3 with h3; injection h3 with _ h3 _; exact absurd h3 (by decide)
 have hin1:i < n:=by omega
 simp only [go_sem,q14,ei]
 refine ⟨hin1,rfl,(by simp only [go_sem, *] <;> rfl),N,s2,L++[s2],.slice (some ⟨g,0,none⟩) (L++[s2]).length cap,pre++[s.q],kA.trans kN,(iZ.new Nb).new Ng,oN,(eG.upd uK).upd hFg,N7,by rw [Hp.qK hg3,Hp.qK db3]; exact f3,by rw [Hp.qK hg4,Hp.qK db4]; exact f4,by rw [Hp.qK hg7,Hp.qK db7]; exact f7,rd2,fun x hx=>?_,?_,?_,(by simp only [go_sem, *] <;> rfl),⟨jQY,fun g' m c e=>?_⟩,?_,?_,fun g' m c e=>?_⟩
 ·rcases aW.1 hx with hx | hx
  ·exact (rdL x hx).keep kN oN
  ·rw [aX.1 hx]; exact rd2
 ·rw [bP,hL]; rfl
 ·rw [hs2]; exact wWJ hc hok
 ·injection e with e; injection e with e; injection e with e; rw [<-e]; exact Ng
 ·rw [hs2]; exact yHH hin1 hrun he
 ·rw [aO,bM]; omega
 ·injection e with e; injection e with e; injection e with e; rw [<-e]; exact hg7
def Rp.few (r:Rp):Prop:=r.al.length<=100000/\r.en.length<=100000/\∀e∈r.en,En.yJV e
theorem k9 (r:Rp)(h:r.rd F M)(hold:Old F M)(hl:Rp.few r) :
  aI prog 9 [r.val] F M (Makes F M fun u M'=>∃r':Rp,u=r'.val/\r'.pr=r.pr/\r'.rd F M'):=by
 refine qZ hm func9 e9 (aA rfl) ?_
 obtain ⟨l1,l2,l3⟩:=hl
 simp only [c9,go_sem]
 intro r1 hF1 hM1
 generalize eQ:M.upd r1 ⟨r.cs,48,4⟩=M1 at *
 obtain ⟨oV,kY,f1⟩:=nw eQ hold hF1 hM1
 clear eQ
 simp only [go_sem]
 intro r2 hF2 hM2
 have n2:M r2=none:=oV.free hM2
 have d12:=(qJ hM2 f1).1
 generalize eQ:M1.upd r2 ⟨[.bool false,.slice none 0 0,.slice none 0 0,.int .i64 0],48,4⟩=M2 at *
 obtain ⟨nG,mY,f2⟩:=nw eQ kY hF2 hM2
 clear eQ
 have g1:=nG _ _ f1
 have b1:=qG (F:=F) g1
 simp only [go_sem,b1]
 intro r3 hF3 dN
 have n3:M r3=none:=(oV.trans nG).free dN
 have d13:=(qJ dN g1).1
 have d23:=(qJ dN f2).1
 have d32:¬r3=r2:=fun h=>d23 h.symm
 simp only [setH,Hp.wZ,go_sem]
 generalize eQ:M2.upd r3 ⟨r.cs,48,4⟩=M3 at *
 obtain ⟨fC,dA,f3⟩:=nw eQ mY hF3 dN
 clear eQ
 have kp:=(oV.trans nG).trans fC
 have h1:=fC _ _ g1
 have h2:=fC _ _ f2
 have c1:=qG (F:=F) h1
 have ka:=aI.part kp dA (k30 F M r.alA r.alC r.al h.al hold (by omega))
 try simp only [go_sem,c1]
 with_reducible refine wW ka ?_
 rintro u F' M4 ⟨hG,jA,fP,N,kN,oN,kNM,hNn,a1,cc1,rfl,rd1⟩
 replace hG:=hG.symm
 subst hG
 refine ⟨(fun h=>by cases h),?_⟩
 have k1:=jA _ _ h1
 have k2:=jA _ _ h2
 have k3:=jA _ _ f3
 have N2:N r2=none:=hNn r2 (by rw [h2]; simp) n2
 have N3:N r3=none:=hNn r3 (by rw [f3]; simp) n3
 have b14:∀y,blk F (M4.upd r3 y) r1=some r.cs:=fun y=>by rw [iG d13]; exact qG k1
 have ec:List.take 1 r.cs++[Value.slice a1 r.al.length cc1]++List.drop 2 r.cs=(⟨r.un,a1,cc1,r.al,r.enA,r.enC,r.en,r.n⟩:Rp).cs:=rfl
 simp only [setH,go_sem,k3,b14,ec]
 have g2:(M4.upd r3 ⟨(⟨r.un,a1,cc1,r.al,r.enA,r.enC,r.en,r.n⟩:Rp).cs,48,4⟩) r2=some ⟨[.bool false,.slice none 0 0,.slice none 0 0,.int .i64 0],48,4⟩:=by rw [Hp.qK d23]; exact k2
 have g3:(M4.upd r3 ⟨(⟨r.un,a1,cc1,r.al,r.enA,r.enC,r.en,r.n⟩:Rp).cs,48,4⟩) r3=some ⟨(⟨r.un,a1,cc1,r.al,r.enA,r.enC,r.en,r.n⟩:Rp).cs,48,4⟩:=Hp.qV _ _ _
 have eH:Keep N (M4.upd r3 ⟨(⟨r.un,a1,cc1,r.al,r.enA,r.enC,r.en,r.n⟩:Rp).cs,48,4⟩):=kNM.new N3
 have dB:Old F (M4.upd r3 ⟨(⟨r.un,a1,cc1,r.al,r.enA,r.enC,r.en,r.n⟩:Rp).cs,48,4⟩):=fP.upd hF3
 generalize M4.upd r3 ⟨(⟨r.un,a1,cc1,r.al,r.enA,r.enC,r.en,r.n⟩:Rp).cs,48,4⟩=M5 at *
 have ke:=aI.part eH dB (k31 F N r.enA r.enC r.en (h.en.keep kN oN) (fun e he=>(h.ens e he).keep kN oN) oN (by omega) l3)
 with_reducible refine wW ke ?_
 rintro u F' M6 ⟨hG,iZ,eG,N',kN',oN',dVY,gJQ,a2,cc2,L,rfl,hL,rd2,rdL⟩
 replace hG:=hG.symm
 subst hG
 refine ⟨(fun h=>by cases h),?_⟩
 have j2:=iZ _ _ g2
 have j3:=iZ _ _ g3
 have N2':N' r2=none:=gJQ r2 (by rw [g2]; simp) N2
 have N3':N' r3=none:=gJQ r3 (by rw [g3]; simp) N3
 have ec2:List.take 2 (⟨r.un,a1,cc1,r.al,r.enA,r.enC,r.en,r.n⟩:Rp).cs++[Value.slice a2 L.length cc2]++List.drop 3 (⟨r.un,a1,cc1,r.al,r.enA,r.enC,r.en,r.n⟩:Rp).cs=(⟨r.un,a1,cc1,r.al,a2,cc2,L,r.n⟩:Rp).cs:=rfl
 simp only [setH,go_sem,j2,j3,ec2,d23]
 exact qX ((dVY.new N3').new N2') ⟨rfl,kN.trans kN',oN',⟨r.un,a1,cc1,r.al,a2,cc2,L,r.n⟩,rfl,by unfold Rp.pr; rw [hL],⟨rd1.keep kN' oN',rd2,rdL⟩⟩
theorem k44 (a1 a2:Option Addr)(c1 c2:Nat)(l1 l2:List Al)(h1:dF 2 Al.cs F M (.slice a1 l1.length c1) l1)(h2:dF 2 Al.cs F M (.slice a2 l2.length c2) l2) :
  aI prog 44 [.slice a1 l1.length c1,.slice a2 l2.length c2] F M (Same F M (.bool (decide (l1=l2)))):=by
 refine qZ hm func44 e44 (aA rfl) ?_;have hm1:=h1.1;by_cases hlen:(l1.length:Int)=l2.length;rotate_left
 ·simp only [c44,go_sem,hlen];exact qW ⟨by rw [decide_eq_false (fun h=>hlen (by rw [h]))],rfl,rfl⟩
 simp only [c44,go_sem,hlen];refine wV l1.length (fun i σ F' M'=>F=F'/\M=M'/\Ax.look σ 5=some (.int .i64 i)/\l1.take i=l2.take i) ⟨rfl,rfl,(by simp only [go_sem, *] <;> rfl),by simp⟩ ?_;rintro i σ F' M' hi hs ⟨rfl,rfl,h5,he⟩;have s0:=hs 0 rfl;have s1:=hs 1 rfl;simp only [go_sem] at s0 s1;clear hs;by_cases hil:(i:Int) < l2.length;rotate_left
 ·have:l1=l2:=by
   rw [aJ (by omega),aJ (by omega)] at he;exact he
  simp only [go_sem,s0,h5,hil,hlen];exact qW ⟨by simp [this],rfl,rfl⟩
 have hi0:(0:Int)<=i:=by omega
 have hi1:i < l1.length:=by omega
 have hi2:i < l2.length:=by omega
 have ei:i64.wrap ((i:Int)+1)=i+1:=dQ (by omega) (by omega);obtain ⟨b,o,cs,rfl,hb,d1,d2⟩:=dF.at h1 hi1;obtain ⟨b',o',cs',rfl,hb',d3,d4⟩:=dF.at h2 hi2;have t1:=aF hi1;have t2:=aF hi2;have hne:¬l1[i]=l2[i]->¬l1=l2:=fun h e=>h (by subst e; rfl)
 generalize l1[i]=x at *;generalize l2[i]=y at *;simp only [go_sem,s0,s1,h5,hlen,hil,hi0,aB,hb,hb',d1,d2,d3,d4];by_cases hxy:x=y
 ·simp only [go_sem,hxy,h5,ei];exact ⟨hi1,rfl,rfl,(by simp only [go_sem, *] <;> rfl),by rw [t1,t2,he,hxy]⟩
 ·simp only [go_sem,hxy];exact qW ⟨by rw [decide_eq_false (hne hxy)],rfl,rfl⟩
theorem k45 (a1 a2:Option Addr)(c1 c2:Nat)(l1 l2:List En)(h1:dF 3 En.cs F M (.slice a1 l1.length c1) l1)(h2:dF 3 En.cs F M (.slice a2 l2.length c2) l2)(r1:∀x∈l1,x.rd F M)(r2:∀x∈l2,x.rd F M) :
  aI prog 45 [.slice a1 l1.length c1,.slice a2 l2.length c2] F M (Same F M (.bool (decide (l1.map En.pe=l2.map En.pe)))):=by
 refine qZ hm func45 e45 (aA rfl) ?_;have hm1:=h1.1;by_cases hlen:(l1.length:Int)=l2.length;rotate_left
 ·simp only [c45,go_sem,hlen];exact qW ⟨by rw [decide_eq_false (fun h=>hlen (by have:=congrArg List.length h; simp at this; omega))],rfl,rfl⟩
 simp only [c45,go_sem,hlen];refine wV l1.length (fun i σ F' M'=>F=F'/\M=M'/\Ax.look σ 5=some (.int .i64 i)/\(l1.map En.pe).take i=(l2.map En.pe).take i) ⟨rfl,rfl,(by simp only [go_sem, *] <;> rfl),by simp⟩ ?_;rintro i σ F' M' hi hs ⟨rfl,rfl,h5,he⟩;have s0:=hs 0 rfl;have s1:=hs 1 rfl;simp only [go_sem] at s0 s1;clear hs;by_cases hil:(i:Int) < l2.length;rotate_left
 ·have:l1.map En.pe=l2.map En.pe:=by
   rw [aJ (by simp; omega),aJ (by simp; omega)] at he;exact he
  simp only [go_sem,s0,h5,hil,hlen];exact qW ⟨by simp [this],rfl,rfl⟩
 have hi0:(0:Int)<=i:=by omega
 have hi1:i < l1.length:=by omega
 have hi2:i < l2.length:=by omega
 have ei:i64.wrap ((i:Int)+1)=i+1:=dQ (by omega) (by omega);obtain ⟨b,o,cs,rfl,hb,d1,d2⟩:=dF.at h1 hi1;obtain ⟨b',o',cs',rfl,hb',d3,d4⟩:=dF.at h2 hi2;have t1:(l1.map En.pe).take (i+1)=(l1.map En.pe).take i++[(l1[i]).pe]:=by rw [aF (by simpa using hi1)]; simp
 have t2:(l2.map En.pe).take (i+1)=(l2.map En.pe).take i++[(l2[i]).pe]:=by rw [aF (by simpa using hi2)]; simp
 have hne:¬(l1[i]).pe=(l2[i]).pe->¬l1.map En.pe=l2.map En.pe:=fun h e=>by
  have:=congrArg (fun l=>l[i]?) e;simp only [List.getElem?_map,List.getElem?_eq_getElem hi1,List.getElem?_eq_getElem hi2,cZ,Option.some.injEq] at this;exact h this
 have x1:=r1 _ (aH hi1);have x2:=r2 _ (aH hi2);generalize l1[i]=x at *;generalize l2[i]=y at *;simp only [go_sem,s0,s1,h5,hlen,hil,hi0,aB,hb,hb',d1,d2,d3,d4];with_reducible refine qQ (k85 F M x y x1 x2) ?_;by_cases hxy:x.pe=y.pe
 ·simp only [go_sem,hxy,h5,ei];exact ⟨hi1,rfl,rfl,(by simp only [go_sem, *] <;> rfl),by rw [t1,t2,he,hxy]⟩
 ·simp only [go_sem,hxy];exact qW ⟨by rw [decide_eq_false (hne hxy)],rfl,rfl⟩
theorem k16 (x y:Rp)(h1:x.rd F M)(h2:y.rd F M)(hold:Old F M) :
  aI prog 16 [x.val,y.val] F M (Same F M (.bool (decide (x.pr=y.pr)))):=by
 refine qZ hm func16 e16 (aA rfl) ?_;have e:∀c1 c2:Pr,decide (c1=c2)=(decide (c1.un=c2.un) && (decide (c1.al=c2.al) && (decide (c1.en=c2.en) && decide (c1.n=c2.n)))):=fun c1 c2=>by
  rw [dG]; cases c1; cases c2; simp
 have hR:decide (x.pr=y.pr)=(decide (x.un=y.un) && (decide (x.al=y.al) && (decide (x.en.map En.pe=y.en.map En.pe) && decide (x.n=y.n)))):=e _ _;generalize decide (x.pr=y.pr)=R at *;simp only [c16,go_sem];intro r2 hF2 hM2;generalize eQ:M.upd r2 ⟨x.cs,48,4⟩=M1 at *;obtain ⟨nG,mY,f2⟩:=nw eQ hold hF2 hM2;clear eQ;simp only [go_sem];intro r3 hF3 dN;generalize eQ:M1.upd r3 ⟨y.cs,48,4⟩=M2 at *;obtain ⟨gJW,dA,f3⟩:=nw eQ mY hF3 dN;clear eQ;have fC:=nG.trans gJW;have b2:=qG (F:=F) (gJW _ _ f2);have b3:=qG (F:=F) f3;have g1:=h1.keep fC dA;have g2:=h2.keep fC dA;have kA:=k44 F M2 _ _ _ _ x.al y.al g1.al g2.al;have kE:=k45 F M2 _ _ _ _ x.en y.en g1.en g2.en g1.ens g2.ens;by_cases c1:x.un=y.un;rotate_left
 ·have c1':(x.un == y.un)=false:=by simpa using c1
  simp only [go_sem,b2,b3,c1'];exact qX fC ⟨by rw [hR]; simp [c1],rfl,rfl⟩
 have c1':(x.un == y.un)=true:=by simpa using c1
 simp only [go_sem,b2,b3,c1'];with_reducible refine qQ kA ?_;by_cases c2:x.al=y.al;rotate_left
 ·simp only [go_sem,c2];exact qX fC ⟨by rw [hR]; simp [c2],rfl,rfl⟩
 simp only [go_sem,b2,b3,c2];with_reducible refine qQ kE ?_;by_cases c3:x.en.map En.pe=y.en.map En.pe;rotate_left
 ·simp only [go_sem,c3];exact qX fC ⟨by rw [hR]; simp [c3],rfl,rfl⟩
 simp only [go_sem,b2,b3,c3];exact qX fC ⟨by rw [hR]; simp [c1,c2,c3],rfl,rfl⟩
theorem jYV {l:List Al}{n:Nat}{i:Nat}(hi:i < l.length):wVD l n i=((decide (0<=(l[i]).p) && decide ((l[i]).p < n)) && (decide (1<=(l[i]).w) && decide ((l[i]).w<=10)) && jWA l i):=by
 unfold wVD; rw [List.getElem?_eq_getElem hi]
theorem jYH {l:List Al}{k:Nat}(hi:k+1 < l.length):jWA l (k+1)=(decide ((l[k]).p < (l[k+1]).p) || (decide ((l[k]).p=(l[k+1]).p) && decide ((l[k]).w < (l[k+1]).w))):=by
 unfold jWA;simp only [List.getElem?_eq_getElem hi,List.getElem?_eq_getElem (show k < l.length by omega)]
theorem k69 (a:Option Addr)(c:Nat)(l:List Al)(i n:Nat)(h:dF 2 Al.cs F M (.slice a l.length c) l)(hi:i < l.length) :
  aI prog 69 [.slice a l.length c,.int .i64 i,.int .i64 n] F M (Same F M (.bool (wVD l n i))):=by
 refine qZ hm func69 e69 (aA rfl) ?_;obtain ⟨b,o,cs,rfl,hb,rows⟩:=h.rows (by omega);obtain ⟨d1,d2⟩:=rows i hi;have hi0:(0:Int)<=i:=by omega
 have hi1:(i:Int) < l.length:=by omega
 rw [jYV hi];have hm:=h.1;cases i with
 | zero=>
  rw [show jWA l 0=true from rfl];generalize l[0]=x at *;have i0:((0:Nat):Int)=0:=rfl;simp only [dX,aK] at d1 d2;have hl0:(0:Int) < l.length:=hi1;simp only [c69,go_sem,dX,aK,hb,d1,d2,i0,hl0];intro r hF hM;simp only [setH,Hp.wZ,go_sem]
  repeat' first
  | simp only [go_sem,aK, *]
  | (with_reducible first | apply cD | apply cN | apply cB | apply cO | apply tD | apply fD | apply tN | apply fN | apply tB | apply fB | apply tO | apply fO) <;> intro hc
  | (intro rx hFx lD; (try simp only [qD] at lD))
  all_goals (refine qX (M:=M) (by repeat' first | exact Keep.refl _ | (refine Keep.new ?_ (by simp only [*]))) ⟨?_,rfl,rfl⟩)
  all_goals (obtain ⟨xp,xw⟩:=x; (refine congrArg Value.bool ?_; first | rfl | ((try simp only [] at *); rw [dG]; (try simp [*]); (try first | omega | (intros; omega) | (intros; exfalso; omega) | (simp_all; done) | (simp_all; omega)))))
 | succ k=>
  rw [jYH hi];obtain ⟨d3,d4⟩:=rows k (by omega);clear rows;have hk0:(0:Int)<=k:=by omega
  have hk1:(k:Int) < l.length:=by omega
  have ek:i64.wrap (((k+1:Nat):Int) - 1)=k:=by rw [dQ (by omega) (by omega)]; omega
  have ek0:¬((k+1:Nat):Int)=0:=by omega
  generalize l[k+1]=x at *;generalize l[k]=y at *;simp only [c69,go_sem,hi0,hi1,aB,hb,d1,d2];intro r hF hM;simp only [setH,Hp.wZ,go_sem];have dbr:¬b=r:=by
   rintro rfl;unfold blk at hb; rw [hM] at hb; exact absurd hb (by rw [show F b=none from hF]; simp)
  have hb2:blk F (M.upd r ⟨x.cs,55,2⟩) b=some cs:=by rw [iG dbr]; exact hb
  obtain ⟨y1,y2⟩:=Al.row d4
  repeat' first
  | simp only [go_sem,aB,aK, *]
  | (with_reducible first | apply cD | apply cN | apply cB | apply cO | apply tD | apply fD | apply tN | apply fN | apply tB | apply fB | apply tO | apply fO) <;> intro hc
  | (intro rx hFx lD; (try simp only [qD] at lD))
  all_goals (refine qX (M:=M) (by repeat' first | exact Keep.refl _ | (refine Keep.new ?_ (by simp only [*]))) ⟨?_,rfl,rfl⟩)
  all_goals (obtain ⟨xp,xw⟩:=x; obtain ⟨yp,yw⟩:=y; (refine congrArg Value.bool ?_; first | rfl | ((try simp only [] at *); rw [dG]; (try simp [*]); (try first | omega | (intros; omega) | (intros; exfalso; omega) | (simp_all; done) | (simp_all; omega)))))
def alI (l:List Al)(n:Nat)(F0:Fz)(M0:Hp)(i:Nat)(σ:Env)(F:Fz)(M:Hp):Prop:=F0=F/\M0=M/\Ax.look σ 5=some (.int .i64 i)/\pR l n i=true
theorem k39 (a:Option Addr)(c:Nat)(l:List Al)(n:Nat)(h:dF 2 Al.cs F M (.slice a l.length c) l)(hn:n<=1000) :
  aI prog 39 [.slice a l.length c,.int .i64 n] F M (Same F M (.bool (pR l n l.length))):=by
 refine qZ hm func39 e39 (aA rfl) ?_;simp only [c39,go_sem];have hm:=h.1;refine wV l.length (alI l n F M) ⟨rfl,rfl,(by simp only [go_sem, *] <;> rfl),rfl⟩ ?_;rintro i σ F' M' hi hst ⟨rfl,rfl,q5,hal⟩;have q0:=hst 0 rfl;have q1:=hst 1 rfl;simp only [go_sem] at q0 q1;clear hst;by_cases hil:(i:Int) < l.length;rotate_left
 ·have:i=l.length:=by omega
  simp only [go_sem,q0,q5,hil];exact qW ⟨by rw [<-hal,this],rfl,rfl⟩
 have hi1:i < l.length:=by omega
 have hi0:(0:Int)<=i:=by omega
 have ei:i64.wrap ((i:Int)+1)=i+1:=dQ (by omega) (by omega);have en:i64.wrap ((n:Int) - 1)=n - 1:=dQ (by omega) (by omega);obtain ⟨b,o,cs,rfl,hb,rows⟩:=h.rows (by omega);obtain ⟨d1,d2⟩:=rows i hi1;have hok:=jYV (n:=n) hi1;have bad:wVD l n i=false->lK F M (Same F M (.bool (pR l n l.length))) (.bool false):=fun h=>qW ⟨by rw [wKD hi1 h],rfl,rfl⟩
 have good:wVD l n i=true->∀σ',Ax.look σ' 5=some (.int .i64 ((i+1:Nat):Int))->Nxt (alI l n F M) l.length i σ' F M:=fun h σ' hl=>⟨hi1,rfl,rfl,hl,by rw [qVC,hal,h]; rfl⟩
 have knum:=k49 F M;cases i with
 | zero=>
  rw [show jWA l 0=true from rfl] at hok;simp only [dX,aK] at d1 d2;have hl0:(0:Int) < l.length:=hil;have i0:((0:Nat):Int)=0:=rfl;generalize l[0]=x at *;obtain ⟨x1,x2⟩:=Al.row d2;simp only [go_sem,q0,q1,q5,i0,hl0,dX,aK,hb,x1,en];with_reducible refine qQ (k49 F M _ _) ?_;by_cases c1:0<=x.p/\x.p<=(n:Int) - 1;rotate_left
  ·have e1:(decide (0<=x.p) && decide (x.p<=(n:Int) - 1))=false:=by rw [bI,decide_eq_false_iff_not,decide_eq_false_iff_not]; omega
   simp only [go_sem,e1];exact bad (by rw [hok]; simp; omega)
  have e1:(decide (0<=x.p) && decide (x.p<=(n:Int) - 1))=true:=by simp; omega
  simp only [go_sem,e1,q0,q5,i0,hl0,dX,aK,hb,x2];with_reducible refine qQ (k47 F M _ _ _) ?_;by_cases c2:1<=x.w/\x.w<=10;rotate_left
  ·have e2:(decide (1<=x.w) && decide (x.w<=10))=false:=by rw [bI,decide_eq_false_iff_not,decide_eq_false_iff_not]; omega
   simp only [go_sem,e2];exact bad (by rw [hok,e2]; simp)
  have e2:(decide (1<=x.w) && decide (x.w<=10))=true:=by simp; omega
  have ez:i64.wrap ((0:Int)+1)=((0+1:Nat):Int):=by decide
  simp only [go_sem,e2,q5,i0];exact good (by rw [hok,e2]; simp; omega) _ (by simp only [go_sem, *] <;> rfl)
 | succ k=>
  rw [jYH hi1] at hok;obtain ⟨d3,d4⟩:=rows k (by omega);have hk0:(0:Int)<=k:=by omega
  have hk1:(k:Int) < l.length:=by omega
  have hkp:(0:Int) < ((k+1:Nat):Int):=by omega
  have ek:i64.wrap (((k+1:Nat):Int) - 1)=k:=by rw [dQ (by omega) (by omega)]; omega
  have ei':i64.wrap (((k+1:Nat):Int)+1)=((k+1+1:Nat):Int):=by rw [dQ (by omega) (by omega)]; omega
  generalize l[k+1]=x at *;generalize l[k]=y at *;obtain ⟨x1,x2⟩:=Al.row d2;obtain ⟨y1,y2⟩:=Al.row d4;simp only [go_sem,q0,q1,q5,hil,hi0,aB,aK,hb,x1,en];with_reducible refine qQ (k49 F M _ _) ?_;by_cases c1:0<=x.p/\x.p<=(n:Int) - 1;rotate_left
  ·have e1:(decide (0<=x.p) && decide (x.p<=(n:Int) - 1))=false:=by rw [bI,decide_eq_false_iff_not,decide_eq_false_iff_not]; omega
   simp only [go_sem,e1];exact bad (by rw [hok]; simp; omega)
  have e1:(decide (0<=x.p) && decide (x.p<=(n:Int) - 1))=true:=by simp; omega
  simp only [go_sem,e1,q0,q5,hil,hi0,aB,hb,x2];with_reducible refine qQ (k47 F M _ _ _) ?_;by_cases c2:1<=x.w/\x.w<=10;rotate_left
  ·have e2:(decide (1<=x.w) && decide (x.w<=10))=false:=by rw [bI,decide_eq_false_iff_not,decide_eq_false_iff_not]; omega
   simp only [go_sem,e2];exact bad (by rw [hok,e2]; simp)
  have e2:(decide (1<=x.w) && decide (x.w<=10))=true:=by simp; omega
  by_cases c3:x.p < y.p
  ·simp only [go_sem,e2,q0,q5,hil,hi0,hk0,hk1,hkp,ek,aB,aK,hb,x1,y1,c3];exact bad (by rw [hok]; simp; omega)
  by_cases c4:y.p=x.p;rotate_left
  ·simp only [go_sem,e2,q0,q5,hil,hi0,hk0,hk1,hkp,ek,aB,aK,hb,x1,y1,c3,c4,ei'];exact good (by rw [hok,e2]; simp; omega) _ (by simp only [go_sem, *] <;> rfl)
  by_cases c5:x.w<=y.w
  ·simp only [go_sem,e2,q0,q5,hil,hi0,hk0,hk1,hkp,ek,aB,aK,hb,x1,x2,y1,y2,c4,c5,Int.lt_irrefl];exact bad (by rw [hok]; simp; omega)
  ·simp only [go_sem,e2,q0,q5,hil,hi0,hk0,hk1,hkp,ek,aB,aK,hb,x1,x2,y1,y2,c4,c5,ei',Int.lt_irrefl];exact good (by rw [hok,e2]; simp; omega) _ (by simp only [go_sem, *] <;> rfl)
theorem wKE {p:Pg}{r:Rp}(h:r.un=true):jB p r.pr=(decide (r.al.length=0) && decide (r.en.length=0)):=by
 unfold jB Rp.pr; simp [h]
theorem qGY {p:Pg}{r:Rp}(h:r.un=false):jB p r.pr=(decide (r.en.length=p.stmts.length+1) && pR r.al p.stmts.length r.al.length && r.en.all (fun e=>pJ p e.pe)):=by
 unfold jB Rp.pr;rw [if_neg (by rw [h]; exact bK)];simp [List.all_map,Function.comp_def]
def dVB (p:Pg)(l:List En)(F0:Fz)(M0:Hp)(i:Nat)(σ:Env)(F:Fz)(M:Hp):Prop:=F0=F/\M0=M/\Ax.look σ 5=some (.int .i64 i)/\(l.take i).all (fun e=>pJ p e.pe)=true
theorem k12 (p:Pg)(r:Rp)(hp:p.rd F)(h:r.rd F M)(hold:Old F M)(hc:wY p=true) :
  aI prog 12 [p.val,r.val] F M (Same F M (.bool (jB p r.pr))):=by
 refine qZ hm func12 e12 (aA rfl) ?_;have few:=hp.few;have h40:=qKH hc;have ha1:=h.al.1;have he1:=h.en.1;simp only [c12,go_sem];intro r2 hF2 hM2;generalize eQ:M.upd r2 ⟨p.cs,43,7⟩=M1 at *;obtain ⟨nG,mY,f2⟩:=nw eQ hold hF2 hM2;clear eQ;simp only [go_sem];intro r3 hF3 dN;generalize eQ:M1.upd r3 ⟨r.cs,48,4⟩=M2 at *;obtain ⟨fC,dA,f3⟩:=nw eQ mY hF3 dN;clear eQ;have kp:=nG.trans fC;have b2:=qG (F:=F) (fC _ _ f2);have b3:=qG (F:=F) f3;have h2:=h.keep kp dA;clear h nG fC hM2 dN;have fin:∀v:Bool,jB p r.pr=v->lK F M2 (Same F M (.bool (jB p r.pr))) (.bool v):=fun v e=>qX kp ⟨by rw [e],rfl,rfl⟩
 cases hu:r.un;rotate_left
 ·have hR:=wKE (p:=p) hu;by_cases c1:(r.al.length:Int)=0
  ·by_cases c2:(r.en.length:Int)=0
   ·simp only [go_sem,b3,hu,c1,c2];exact fin _ (by rw [hR,decide_eq_true (by omega),decide_eq_true (by omega)]; rfl)
   ·simp only [go_sem,b3,hu,c1,c2];exact fin _ (by rw [hR,bI,decide_eq_false_iff_not,decide_eq_false_iff_not]; omega)
  ·simp only [go_sem,b3,hu,c1];exact fin _ (by rw [hR,bI,decide_eq_false_iff_not,decide_eq_false_iff_not]; omega)
 have hR:=qGY (p:=p) hu;have es:i64.wrap ((p.stmts.length:Int)+1)=(p.stmts.length:Int)+1:=dQ (by omega) (by omega);by_cases c1:(r.en.length:Int)=(p.stmts.length:Int)+1;rotate_left
 ·simp only [go_sem,b2,b3,hu,es,c1];exact fin _ (by rw [hR,decide_eq_false (by omega)]; rfl)
 have kA:=k39 F M2 r.alA r.alC r.al p.stmts.length h2.al (by omega);simp only [go_sem,b2,b3,hu,es,c1];with_reducible refine qQ kA ?_;cases hal:pR r.al p.stmts.length r.al.length
 ·simp only [go_sem];exact fin _ (by rw [hR,hal]; simp)
 rw [hal,decide_eq_true (by omega:r.en.length=p.stmts.length+1),bQ,bQ] at hR;simp only [go_sem];refine wV r.en.length (dVB p r.en F M2) ⟨rfl,rfl,(by simp only [go_sem, *] <;> rfl),rfl⟩ ?_;rintro i σ F' M' hi hst ⟨rfl,rfl,q5,hal2⟩;have q2:=hst 2 rfl;have q3:=hst 3 rfl;simp only [go_sem] at q2 q3;clear hst;by_cases hil:(i:Int) < r.en.length;rotate_left
 ·rw [aJ (by omega)] at hal2;simp only [go_sem,q3,q5,b3,hil];exact fin _ (by rw [hR,hal2])
 have hi1:i < r.en.length:=by omega
 have hi0:(0:Int)<=i:=by omega
 have ei:i64.wrap ((i:Int)+1)=i+1:=dQ (by omega) (by omega);have t1:=aF hi1;obtain ⟨b,o,cs,ea,hb,d1,d2⟩:=dF.at h2.en hi1;have ke:=k40 F M2 p r.en[i] hp dA hc (h2.ens _ (aH hi1));have hno:pJ p (r.en[i]).pe=false->r.en.all (fun e=>pJ p e.pe)=false:=fun h=>by rw [dP]; exact ⟨_,aH hi1,by rw [h]; exact bK⟩
 generalize r.en[i]=x at *;simp only [go_sem,q2,q3,q5,b2,b3,hil,hi0,ea,aB,hb,d1,d2];with_reducible refine qQ ke ?_;cases hx:pJ p x.pe
 ·simp only [go_sem];exact fin _ (by rw [hR,hno hx])
 ·simp only [go_sem,q5,ei];exact ⟨hi1,rfl,rfl,(by simp only [go_sem, *] <;> rfl),by rw [t1,List.all_append,hal2]; simp [hx]⟩
theorem k71 (p:Pg)(e:En)(r2:Nat)(h2:M r2=some ⟨p.cs,43,7⟩)(hp:p.rd F)(hold:Old F M)(hc:wY p=true)(h:e.rd F M)(hfe:e.cells.length<=100000/\e.news.length<=100000) :
  aI prog 71 [e.val,.pointer (some ⟨r2,0,none⟩)] F M (Same F M (.bool (!pJ p e.pe))):=by
 refine qZ hm func71 e71 (aA rfl) ?_;simp only [c71,go_sem];intro r3 hF3 dN;generalize eQ:M.upd r3 ⟨e.cs,51,3⟩=M1 at *;obtain ⟨fC,dA,f3⟩:=nw eQ hold hF3 dN;clear eQ;have b2:=qG (F:=F) (fC _ _ h2);have b3:=qG (F:=F) f3;have ke:=k72 F M1 p e hp dA hc (h.keep fC dA) hfe;simp only [go_sem,b2,b3];with_reducible refine qQ ke ?_;simp only [go_sem];exact qX fC ⟨rfl,rfl,rfl⟩
def dVC (l:List Al)(n:Nat)(F0:Fz)(M0:Hp)(i:Nat)(σ:Env)(F:Fz)(M:Hp):Prop:=F0=F/\M0=M/\Ax.look σ 19=some (.int .i64 i)/\pR l n i=true
theorem k34 (p:Pg)(r:Rp)(hp:p.rd F)(h:r.rd F M)(hold:Old F M)(hc:wY p=true)(hl:Rp.few r) :
  aI prog 34 [p.val,r.val] F M (Same F M (.bool (jB p r.pr))):=by
 refine qZ hm func34 e34 (aA rfl) ?_
 have few:=hp.few
 have h40:=qKH hc
 obtain ⟨ha1,he1,hfe⟩:=hl
 simp only [c34,go_sem]
 intro r2 hF2 hM2
 generalize eQ:M.upd r2 ⟨p.cs,43,7⟩=M1 at *
 obtain ⟨nG,mY,f2⟩:=nw eQ hold hF2 hM2
 clear eQ
 simp only [go_sem]
 intro r3 hF3 dN
 generalize eQ:M1.upd r3 ⟨r.cs,48,4⟩=M2 at *
 obtain ⟨fC,dA,f3⟩:=nw eQ mY hF3 dN
 clear eQ
 have kp:=nG.trans fC
 have g2:=fC _ _ f2
 have b2:=qG (F:=F) g2
 have b3:=qG (F:=F) f3
 have h2:=h.keep kp dA
 clear h nG fC hM2 dN
 have fin:∀v:Bool,jB p r.pr=v->lK F M2 (Same F M (.bool (jB p r.pr))) (.bool v):=fun v e=>qX kp ⟨by rw [e],rfl,rfl⟩
 have es:i64.wrap ((p.stmts.length:Int)+1)=(p.stmts.length:Int)+1:=dQ (by omega) (by omega)
 have ew:i64.wrap ((r.al.length:Int)+r.en.length)=(r.al.length:Int)+r.en.length:=dQ (by omega) (by omega)
 cases hu:r.un
 rotate_left
 ·have hR:=wKE (p:=p) hu
  by_cases c1:(r.al.length:Int)+r.en.length=0
  ·simp only [go_sem,b3,hu,c1]
   exact fin _ (by rw [hR,decide_eq_true (by omega),decide_eq_true (by omega)]; rfl)
  ·simp only [go_sem,b3,hu,ew,c1]
   exact fin _ (by rw [hR,bI,decide_eq_false_iff_not,decide_eq_false_iff_not]; omega)
 have hR:=qGY (p:=p) hu
 simp only [go_sem,b3,hu]
 refine wV r.al.length (dVC r.al p.stmts.length F M2) ⟨rfl,rfl,(by simp only [go_sem, *] <;> rfl),rfl⟩ ?_
 rintro i σ F' M' hi hst ⟨rfl,rfl,q19,hal⟩
 have q2:=hst 2 rfl
 have q3:=hst 3 rfl
 have q18:=hst 18 rfl
 simp only [go_sem] at q2 q3 q18
 clear hst
 by_cases hil:(i:Int) < r.al.length
 ·have hi1:i < r.al.length:=by omega
  have hi0:(0:Int)<=i:=by omega
  have ei:i64.wrap ((i:Int)+1)=i+1:=dQ (by omega) (by omega)
  have km:=k69 F M2 r.alA r.alC r.al i p.stmts.length h2.al hi1
  simp only [go_sem,q2,q3,q18,q19,hil,b2,b3]
  with_reducible refine qQ km ?_
  cases ho:wVD r.al p.stmts.length i
  ·simp only [go_sem]
   exact fin _ (by rw [hR,wKD hi1 ho]; simp)
  ·simp only [go_sem,q19,ei]
   exact ⟨hi1,rfl,rfl,(by simp only [go_sem, *] <;> rfl),by rw [qVC,hal,ho]; rfl⟩
 have:i=r.al.length:=by omega
 subst this
 rw [hal,Bool.and_true] at hR
 by_cases c1:(r.en.length:Int)=(p.stmts.length:Int)+1
 rotate_left
 ·simp only [go_sem,q2,q3,q18,q19,hil,b2,b3,es,c1]
  exact fin _ (by rw [hR,decide_eq_false (by omega)]; rfl)
 rw [decide_eq_true (by omega:r.en.length=p.stmts.length+1),bQ] at hR
 have kc:=k70 F M2 r.enA r.enC r.en _ [.pointer (some ⟨r2,0,none⟩)] (fun e=>!pJ p e.pe) h2.en (fun e he=>k71 F M2 p e r2 g2 hp dA hc (h2.ens e he) ⟨by have:=(hfe e he).1; omega,by have:=(hfe e he).2.1; omega⟩)
 simp only [go_sem,q2,q3,q18,q19,hil,b2,b3,es,c1]
 with_reducible refine qQ kc ?_
 have hany:(!r.en.any fun e=>!pJ p e.pe)=r.en.all (fun e=>pJ p e.pe):=by
  rw [List.not_any_eq_all_not]; simp
 simp only [go_sem]
 exact fin _ (by rw [hR,hany])
def gJX (l:List dM)(p:dM->Bool)(F0:Fz)(M0:Hp)(i:Nat)(σ:Env)(F:Fz)(M:Hp):Prop:=
 F0=F/\M0=M/\Ax.look σ 8=some (.int .i64 i)/\(l.take i).any p=false
theorem k35 (ad:Option Addr)(cap:Nat)(l:List dM)(g:Nat)(ca:List Value)(p:dM->Bool)(h:dF 5 dM.cs F M (.slice ad l.length cap) l)
  (hp:∀v∈l,aI prog g ([v.val]++ca) F M (Same F M (.bool (p v)))) :
  aI prog 35 [.slice ad l.length cap,.func (.func g) #[] ca.toArray] F M fun r F' M'=>F'=F/\M'=M/\((l.any p=false/\r=.int .i64 (-1))\/∃i:Nat,r=.int .i64 i/\∃hi:i < l.length,p l[i]=true/\(l.take i).any p=false):=by
 refine qZ hm func35 e35 (aA rfl) ?_;simp only [c35,go_sem];refine wV l.length (gJX l p F M) ⟨rfl,rfl,(by simp only [go_sem, *] <;> rfl),rfl⟩ ?_;rintro i σ F' M' hi hs ⟨rfl,rfl,h8,ha⟩;have s0:=hs 0 rfl;have s1:=hs 1 rfl;have s7:=hs 7 rfl;simp only [go_sem] at s0 s1 s7;clear hs;by_cases hil:(i:Int) < l.length
 ·have hi0:(0:Int)<=i:=by omega
  have eU:i < l.length:=by omega
  have hle:=h.1;have ei:i64.wrap ((i:Int)+1)=i+1:=dQ (by omega) (by omega);have t1:=aF eU;have hfin:p l[i]=true->(l.any p=false/\Value.int .i64 (i:Int)=.int .i64 (-1))\/∃j:Nat,Value.int .i64 (i:Int)=.int .i64 j/\∃hi:j < l.length,p l[j]=true/\(l.take j).any p=false:=fun hv=>.inr ⟨i,rfl,eU,hv,ha⟩
  obtain ⟨b,o,cs,rfl,hb,d1,d2⟩:=dF.at h eU;have hq:=hp l[i] (aH _);generalize l[i]=v at *;simp only [go_sem,s0,s1,s7,h8,hil,hi0,aB,hb,d1,d2];refine qQ hq ?_;cases hv:p v
  ·simp only [go_sem,h8,ei];exact ⟨eU,rfl,rfl,(by simp only [go_sem, *] <;> rfl),by rw [t1,List.any_append,ha]; simp [hv]⟩
  ·simp only [go_sem];exact qW ⟨rfl,rfl,hfin hv⟩
 ·rw [aJ (by omega)] at ha;simp only [go_sem,s7,h8,hil];exact qW ⟨rfl,rfl,.inl ⟨ha,rfl⟩⟩
def dVE (l:List Al)(a:Al)(F0:Fz)(M0:Hp)(i:Nat)(σ:Env)(F:Fz)(M:Hp):Prop:=
 F0=F/\M0=M/\Ax.look σ 8=some (.int .i64 i)/\¬a∈l.take i
theorem dVF (ad:Option Addr)(cap:Nat)(l:List Al)(a:Al)(h:dF 2 Al.cs F M (.slice ad l.length cap) l)(hold:Old F M) :
  aI prog 113 [.slice ad l.length cap,a.val] F M fun r F' M'=>F'=F/\M'=M/\((¬a∈l/\r=.int .i64 (-1))\/(a∈l/\∃i:Nat,r=.int .i64 i)):=by
 refine qZ hm func113 kXX (aA rfl) ?_;simp only [vYC,go_sem];intro r3 hF3 dN;generalize eQ:M.upd r3 ⟨a.cs,55,2⟩=M1 at *;obtain ⟨fC,dA,f3⟩:=nw eQ hold hF3 dN;clear eQ;have b3:=qG (F:=F) f3;simp only [go_sem];refine wV l.length (dVE l a F M1) ⟨rfl,rfl,(by simp only [go_sem, *] <;> rfl),by simp⟩ ?_;rintro i σ F' M' hi hs ⟨rfl,rfl,h8,ha⟩;have s0:=hs 0 rfl;have s3:=hs 3 rfl;have s7:=hs 7 rfl;simp only [go_sem] at s0 s3 s7;clear hs;by_cases hil:(i:Int) < l.length
 ·have hi0:(0:Int)<=i:=by omega
  have eU:i < l.length:=by omega
  have hle:=h.1;have ei:i64.wrap ((i:Int)+1)=i+1:=dQ (by omega) (by omega);have t1:=aF eU;have hfin:a=l[i]->(¬a∈l/\Value.int .i64 (i:Int)=.int .i64 (-1))\/(a∈l/\∃j:Nat,Value.int .i64 (i:Int)=.int .i64 j):=fun hv=>.inr ⟨by rw [hv]; exact aH _,i,rfl⟩
  obtain ⟨b,o,cs,rfl,hb,d1,d2⟩:=dF.at (h.keep fC dA) eU;generalize l[i]=v at *;by_cases hv:a=v
  ·have hd:decide (a=v)=true:=decide_eq_true hv;simp only [go_sem,s0,s3,s7,h8,hil,hi0,aB,hb,d1,d2,b3,hd];exact qX fC ⟨rfl,rfl,hfin hv⟩
  ·simp only [go_sem,s0,s3,s7,h8,hil,hi0,aB,hb,d1,d2,b3,hv,ei];exact ⟨eU,rfl,rfl,(by simp only [go_sem, *] <;> rfl),by rw [t1,aW,aX]; exact fun h=>h.elim ha hv⟩
 ·rw [aJ (by omega)] at ha;simp only [go_sem,s7,h8,hil];exact qX fC ⟨rfl,rfl,.inl ⟨ha,rfl⟩⟩
theorem k76 (ad:Option Addr)(cap:Nat)(l:List Al)(a:Al)(h:dF 2 Al.cs F M (.slice ad l.length cap) l)(hold:Old F M) :
  aI prog 76 [.slice ad l.length cap,a.val] F M (Same F M (.bool (decide (a∈l)))):=by
 refine qZ hm func76 e76 (aA rfl) ?_;simp only [c76,go_sem];intro r3 hF3 dN;generalize eQ:M.upd r3 ⟨a.cs,55,2⟩=M1 at *;obtain ⟨fC,dA,f3⟩:=nw eQ hold hF3 dN;clear eQ;have b3:=qG (F:=F) f3;simp only [go_sem,b3];refine wW (dVF F M1 ad cap l a (h.keep fC dA) dA) ?_;rintro r G M' ⟨hG,hM,hz⟩;rw [hG,hM];refine ⟨(fun h=>by cases h),?_⟩;rcases hz with ⟨hz,rfl⟩ | ⟨hz,i,rfl⟩
 ·simp only [go_sem];exact qX fC ⟨by rw [decide_eq_false hz],rfl,rfl⟩
 ·have h0:(0:Int)<=i:=by omega
  simp only [go_sem,h0];exact qX fC ⟨by rw [decide_eq_true hz],rfl,rfl⟩
theorem jYD {r:Rp}{i:Nat}(h:i < r.en.length):yQY r.pr.en (i:Int)=(r.en[i]).pe:=by
 unfold yQY Rp.pr;rw [aB,List.getElem?_map,List.getElem?_eq_getElem h]; rfl
theorem yWZ {p:Pg}{m:List Bl}{e:En}(hm:iP p m)(h:pJ p e.pe=true):e.no=false->(∀c∈e.cells,jQH p m c.pc)/\e.news.length=p.news.length:=fun hn=>by
 obtain ⟨h1,h2,_⟩:=yKV h hn;exact ⟨fun c hc=>jQH.of hm (h1 _ (eF hc)),h2⟩
theorem wWF {p:Pg}{r:Rp}(h:jB p r.pr=true)(hu:r.un=false):r.en.length=p.stmts.length+1/\∀e∈r.en,pJ p e.pe=true:=by
 rw [qGY hu] at h;simp only [aC,decide_eq_true_eq,bW] at h;exact ⟨h.1.1,h.2⟩
theorem yHE {p:Pg}{q:Qs}(h:0 < q.next.length):zD p q=q.next[0]:=by
 obtain ⟨m,n,a,b,c⟩:=q;cases n with
 | nil=>cases h
 | cons i rest=>rfl
theorem k38 (p:Pg)(r:Rp)(s:dM)(hp:p.rd F)(hr:r.rd F M)(hs:s.rd F M)(hold:Old F M)(hc:wY p=true)(hrep:jB p r.pr=true)(hu:r.un=false)(hfm:iP p s.blocks)(hnx:∀k∈s.next,0<=k/\k < p.stmts.length) :
  aI prog 38 [p.val,r.val,s.val] F M (Same F M (.bool (uU p r.pr s.q))):=by
 refine qZ hm func38 e38 (aA rfl) ?_;have few:=hp.few;obtain ⟨hel,hee⟩:=wWF hrep hu;simp only [c38,go_sem];intro r3 hF3 dN;generalize eQ:M.upd r3 ⟨p.cs,43,7⟩=M1 at *;obtain ⟨fC,dA,f3⟩:=nw eQ hold hF3 dN;clear eQ;simp only [go_sem];intro r4 mW jP;generalize eQ:M1.upd r4 ⟨r.cs,48,4⟩=M2 at *;obtain ⟨jA,fP,f4⟩:=nw eQ dA mW jP;clear eQ;simp only [go_sem];intro r5 lM gU;generalize eQ:M2.upd r5 ⟨s.cs,57,5⟩=M3 at *;obtain ⟨eH,dB,f5⟩:=nw eQ fP lM gU;clear eQ;have kp:=(fC.trans jA).trans eH;have b3:=qG (F:=F) (eH _ _ (jA _ _ f3));have b4:=qG (F:=F) (eH _ _ f4);have b5:=qG (F:=F) f5;have hr3:=hr.keep kp dB;have hs3:=hs.keep kp dB;have ez:Value.agg #[.int .i64 0,.int .i64 0]=(⟨0,0⟩:Al).val:=rfl;have ea:∀l,l=s.cs->Value.agg (List.take 2 (List.drop 3 l)).toArray=(⟨s.p,s.w⟩:Al).val:=fun l h=>by rw [h]; rfl
 have ea:=ea _ rfl;have hT:uU p r.pr s.q=if s.p=0/\s.w=0 then oC p (yQY r.pr.en (zD p s.q)) s.blocks else decide ((⟨s.p,s.w⟩:Al)∈r.al):=by
  unfold uU;rw [show s.q.m=kD s.blocks from rfl,yQB]; rfl
 rw [hT];by_cases hb:(⟨s.p,s.w⟩:Al)=⟨0,0⟩
 rotate_left
 ·have hb':¬(s.p=0/\s.w=0):=fun h=>hb (by rw [h.1,h.2])
  rw [if_neg hb'];have kc:=k76 F M3 r.alA r.alC r.al ⟨s.p,s.w⟩ hr3.al dB;simp only [go_sem,b4,b5,ez,hb];with_reducible refine qQ kc ?_;simp only [go_sem];exact qX kp ⟨rfl,rfl,rfl⟩
 have hb':s.p=0/\s.w=0:=by simpa using hb
 rw [if_pos hb'];obtain ⟨s0,s1⟩:=yQC (p:=p) (q:=s.q) hnx;obtain ⟨k,hk⟩:=aG s0;rw [hk] at s1 ⊢;have hke:k < r.en.length:=by omega
 rw [jYD hke];have he:=hee _ (aH hke);have kh:=k77 F M3 p r.en[k] s hp dB (hr3.ens _ (aH hke)) hs3 hc hfm (yWZ hfm he);obtain ⟨bb,oo,cs,eae,hbb,d1,d2⟩:=dF.at hr3.en hke;generalize r.en[k]=e at *;have k0:(0:Int)<=k:=by omega
 have k1:(k:Int) < r.en.length:=by omega
 simp only [go_sem,b3,b5,ez,hb];refine gJ (fun σ' F' M'=>F=F'/\M3=M'/\Ax.look σ' 7=some (.int .i64 k)) ?_ ?_
 ·by_cases hl:(0:Int) < s.next.length;rotate_left
  ·have hn:s.next=[]:=List.length_eq_zero_iff.1 (by omega);have hkk:(p.stmts.length:Int)=k:=by rw [<-hk]; unfold zD; rw [show s.q.next=s.next from rfl,hn]
   simp only [go_sem,hl];exact At.mk ⟨rfl,rfl,by rw [<-hkk]; exact (by simp only [go_sem, *] <;> rfl)⟩
  ·have hl1:0 < s.next.length:=by omega
   have hkk:s.next[0]=k:=(yHE (p:=p) (q:=s.q) hl1).symm.trans hk;obtain ⟨nb,no,ncs,hna,hnb,nd⟩:=Ax.gW hs3.next hl1;rw [hkk] at nd;simp only [go_sem,b5,hl,hna,hnb,nd];exact At.mk ⟨rfl,rfl,(by simp only [go_sem, *] <;> rfl)⟩
 rintro σ2 F' M' hst ⟨hG,hMM,t7⟩;subst hG hMM;have t3:=hst 3 rfl;have t4:=hst 4 rfl;have t5:=hst 5 rfl;simp only [go_sem] at t3 t4 t5;clear hst;simp only [go_sem,t3,t4,t5,t7,b3,b4,b5,eae,k0,k1,aB,hbb,d1,d2];with_reducible refine qQ kh ?_;simp only [go_sem];exact qX kp ⟨rfl,rfl,rfl⟩
def jL (p:Pg)(rs ns:List Int)(r:Pr)(n:Int):Int × Int:=
 if wY p=true/\(0<=n/\n<=400)/\jB p r=true then (pW p r (sK p rs ns n.toNat (fZ p)),0) else (0,1)
theorem k37 (p:Pg)(r:Rp)(s:dM)(r1 r2:Nat)(h1:M r1=some ⟨p.cs,43,7⟩)(h2:M r2=some ⟨r.cs,48,4⟩)(hp:p.rd F)(hr:r.rd F M)(hs:s.rd F M)(hold:Old F M)(hc:wY p=true)(hrep:jB p r.pr=true)(hu:r.un=false)(hfm:iP p s.blocks)(hnx:∀k∈s.next,0<=k/\k < p.stmts.length) :
  aI prog 37 [s.val,.pointer (some ⟨r1,0,none⟩),.pointer (some ⟨r2,0,none⟩)] F M (Same F M (.bool (!uU p r.pr s.q))):=by
 refine qZ hm func37 e37 (aA rfl) ?_;simp only [c37,go_sem];intro r3 hF3 dN;generalize eQ:M.upd r3 ⟨s.cs,57,5⟩=M1 at *;obtain ⟨fC,dA,f3⟩:=nw eQ hold hF3 dN;clear eQ;have b1:=qG (F:=F) (fC _ _ h1);have b2:=qG (F:=F) (fC _ _ h2);have b3:=qG (F:=F) f3;have kt:=k38 F M1 p r s hp (hr.keep fC dA) (hs.keep fC dA) dA hc hrep hu hfm hnx;simp only [go_sem,b1,b2,b3];with_reducible refine qQ kt ?_;simp only [go_sem];exact qX fC ⟨rfl,rfl,rfl⟩
theorem yWK {f:Qs->Bool}{L:List dM}{l:List Qs}(hL:L.map dM.q=l):(L.any (fun s=>!f s.q)=false->vV f l 0 = -1)/\∀i (hi:i < L.length),(!f (L[i]).q)=true->(L.take i).any (fun s=>!f s.q)=false->vV f l 0=i:=by
 subst hL;refine ⟨fun h=>wWD _ _ fun q hq=>?_,fun i hi h1 h2=>?_⟩
 ·obtain ⟨s,hs,rfl⟩:=List.mem_map.1 hq;rw [List.any_eq_false] at h;have:=h s hs
  simpa using this
 ·have hi':i < (L.map dM.q).length:=by rw [bJ]; exact hi
  have:=yQA (f:=f) (L.map dM.q) 0 i hi' (fun j hj=>?_) (by rw [List.getElem_map]; simpa using h1)
  ·rw [this]; simp
  ·rw [List.getElem_map];rw [List.any_eq_false] at h2;have:=h2 (L[j]'(by omega)) (by rw [List.mem_take_iff_getElem]; exact ⟨j,by omega,rfl⟩)
   simpa using this
theorem k11 (p:Pg)(r:Rp)(t:Sr)(n:Int)(hp:p.rd F)(hr:r.rd F M)(ht:Sr.rdF F t)(hold:Old F M)(hl:Rp.few r) :
  aI prog 11 [p.val,r.val,t.val,.int .i64 n] F M (Same F M (.tuple #[.int .i64 (jL p t.rs t.ns r.pr n).1,.int .i64 (jL p t.rs t.ns r.pr n).2])):=by
 refine qZ hm func11 e11 (aA rfl) ?_
 have few:=hp.few
 simp only [c11,go_sem]
 intro r4 mW jP
 generalize eQ:M.upd r4 ⟨p.cs,43,7⟩=M1 at *
 obtain ⟨jA,fP,f4⟩:=nw eQ hold mW jP
 clear eQ
 simp only [go_sem]
 intro r5 lM gU
 generalize eQ:M1.upd r5 ⟨r.cs,48,4⟩=M2 at *
 obtain ⟨eH,dB,f5⟩:=nw eQ fP lM gU
 clear eQ
 simp only [go_sem]
 intro r6 vI oI
 generalize eQ:M2.upd r6 ⟨t.cs,64,2⟩=M3 at *
 obtain ⟨iZ,eG,f6⟩:=nw eQ dB vI oI
 clear eQ
 have kp:=(jA.trans eH).trans iZ
 have f4:=iZ _ _ (eH _ _ f4)
 have f5:=iZ _ _ f5
 have b4:=qG (F:=F) f4
 have b5:=qG (F:=F) f5
 have b6:=qG (F:=F) f6
 have hr3:=hr.keep kp eG
 have fin:∀(a e:Int),jL p t.rs t.ns r.pr n=(a,e)->∀M',Keep M3 M'->lK F M' (Same F M (.tuple #[.int .i64 (jL p t.rs t.ns r.pr n).1,.int .i64 (jL p t.rs t.ns r.pr n).2])) (.tuple #[.int .i64 a,.int .i64 e]):=fun a e h M' k=>qX (kp.trans k) ⟨by rw [h],rfl,rfl⟩
 simp only [go_sem,b4]
 with_reducible refine qQ (k32 F M3 p hp eG) ?_
 cases hc:wY p
 ·simp only [go_sem]
  exact fin 0 1 (by unfold jL; rw [if_neg (fun h=>by rw [hc] at h; exact bK h.1)]) _ (Keep.refl _)
 simp only [go_sem]
 with_reducible refine qQ (k33 F M3 n) ?_
 by_cases hn:0<=n/\n<=400
 rotate_left
 ·have e:(decide (0<=n) && decide (n<=400))=false:=by rw [bI,decide_eq_false_iff_not,decide_eq_false_iff_not]; omega
  simp only [go_sem,e]
  exact fin 0 1 (by unfold jL; rw [if_neg (fun h=>hn h.2.1)]) _ (Keep.refl _)
 have e:(decide (0<=n) && decide (n<=400))=true:=by simp [hn]
 simp only [go_sem,e,b4,b5]
 with_reducible refine qQ (k34 F M3 p r hp hr3 eG hc hl) ?_
 cases hrep:jB p r.pr
 ·simp only [go_sem]
  exact fin 0 1 (by unfold jL; rw [if_neg (fun h=>by rw [hrep] at h; exact bK h.2.2)]) _ (Keep.refl _)
 have hV:jL p t.rs t.ns r.pr n=(pW p r.pr (sK p t.rs t.ns n.toNat (fZ p)),0):=by unfold jL; rw [if_pos ⟨hc,hn,hrep⟩]
 cases hu:r.un
 rotate_left
 ·simp only [go_sem,b5,hu]
  exact fin (-1) 0 (by rw [hV]; unfold pW; rw [if_pos (show r.pr.un=true from hu)]) _ (Keep.refl _)
 have hSo:pW p r.pr (sK p t.rs t.ns n.toNat (fZ p))=vV (uU p r.pr) (sK p t.rs t.ns n.toNat (fZ p)) 0:=by
  unfold pW; rw [if_neg (by rw [show r.pr.un=false from hu]; exact bK)]
 obtain ⟨m,rfl⟩:=aG hn.1
 rw [aB] at hV hSo
 have kr:=k36 F M3 p t m hp ht eG hc (by omega)
 simp only [go_sem,b4,b5,b6,hu]
 with_reducible refine wW kr ?_
 rintro u F' M4 ⟨hG,lY,iO,a,c,L,rfl,hL,rdL,rdS⟩
 replace hG:=hG.symm
 subst hG
 refine ⟨(fun h=>by cases h),?_⟩
 have hok:=yJG hc (rs:=t.rs) (ns:=t.ns) m 0 (fZ p) (qQK hc)
 obtain ⟨hno,hat⟩:=yWK (f:=uU p r.pr) hL
 have kx:=k35 F M4 a c L _ [.pointer (some ⟨r4,0,none⟩),.pointer (some ⟨r5,0,none⟩)] (fun s=>!uU p r.pr s.q) rdL (fun s hs=>by
  have ho:=hok s.q (by rw [<-hL]; exact eF hs)
  exact k37 F M4 p r s r4 r5 (lY _ _ f4) (lY _ _ f5) hp (hr3.keep lY iO) (rdS s hs) iO hc hrep hu (oG ho.fit) ho.next)
 simp only [go_sem]
 with_reducible refine wW kx ?_
 rintro u F' M5 ⟨hG,hM,hz⟩
 replace hG:=hG.symm
 subst hG
 subst hM
 refine ⟨(fun h=>by cases h),?_⟩
 rcases hz with ⟨h1,rfl⟩ | ⟨i,rfl,hi,h1,h2⟩
 ·simp only [go_sem]
  exact fin (-1) 0 (by rw [hV,hSo,hno h1]) _ lY
 ·simp only [go_sem]
  exact fin i 0 (by rw [hV,hSo,hat i hi h1 h2]) _ lY
theorem k10 (p:Pg)(r:Rp)(t:Sr)(n:Int)(hp:p.rd F)(hr:r.rd F M)(ht:Sr.rdF F t)(hold:Old F M)(hl:Rp.few r) :
  aI prog 10 [p.val,r.val,t.val,.int .i64 n] F M (Same F M (.tuple #[.bool (decide ((jL p t.rs t.ns r.pr n).2=0) && decide ((jL p t.rs t.ns r.pr n).1 < 0)),.int .i64 (jL p t.rs t.ns r.pr n).2])):=by
 refine qZ hm func10 e10 (aA rfl) ?_;simp only [c10,go_sem];intro r4 mW jP;generalize eQ:M.upd r4 ⟨p.cs,43,7⟩=M1 at *;obtain ⟨jA,fP,f4⟩:=nw eQ hold mW jP;clear eQ;simp only [go_sem];intro r5 lM gU;generalize eQ:M1.upd r5 ⟨r.cs,48,4⟩=M2 at *;obtain ⟨eH,dB,f5⟩:=nw eQ fP lM gU;clear eQ;simp only [go_sem];intro r6 vI oI;generalize eQ:M2.upd r6 ⟨t.cs,64,2⟩=M3 at *;obtain ⟨iZ,eG,f6⟩:=nw eQ dB vI oI;clear eQ;have kp:=(jA.trans eH).trans iZ;have b4:=qG (F:=F) (iZ _ _ (eH _ _ f4));have b5:=qG (F:=F) (iZ _ _ f5);have b6:=qG (F:=F) f6;have kf:=k11 F M3 p r t n hp (hr.keep kp eG) ht eG hl;simp only [go_sem,b4,b5,b6];with_reducible refine qQ kf ?_;generalize jL p t.rs t.ns r.pr n=V at *;obtain ⟨a,e⟩:=V;by_cases he:e=0
 ·simp only [go_sem,he];exact qX kp ⟨by simp,rfl,rfl⟩
 ·simp only [go_sem,he];exact qX kp ⟨by simp [],rfl,rfl⟩
end Go.Proofs.Tryz.K
