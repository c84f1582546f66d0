/- Parts B10: the machine's runs of small codes, contracts of functions, plain facts. -/
import Derived.Test.YtpkbjfffbdgpcaaGreatB9
open Nat renaming add_zero->aK,le_of_ble_eq_true->aA,le_refl->aN,sub_self->fM,zero_add->aY
open Int renaming eq_ofNat_of_zero_le->aG,toNat_natCast->aB
open Bool renaming and_eq_false_iff->bI,and_eq_true->aC,false_ne_true->bK,or_eq_true->dJ
open List renaming append_assoc->fG,append_nil->fA,drop_eq_getElem_cons->dH,drop_eq_nil_of_le->dL,eq_of_mem_replicate->dK,getElem_mem->aH,getElem_of_mem->bZ,length_append->aO,length_cons->fF,length_map->bJ,length_replicate->bD,length_set->aZ,length_singleton->bM,length_take->dW,map_append->bP,mem_append->aW,mem_cons->aQ,mem_map_of_mem->eF,mem_singleton->aX,replicate_succ->dS,take_of_length_le->aJ,take_succ_eq_append_getElem->aF
open Option renaming map_some->cZ
open Go.Proofs.Tryz
open Go.IntKind (i64)
set_option maxRecDepth 100000
set_option linter.unusedSimpArgs false
set_option linter.unusedVariables false
set_option maxHeartbeats 1000000
namespace Go.Proofs.Tryz.K
open Go Go.Ax Go.Proofs.Tryz.S
variable (F:Fz) (M:Hp)
theorem gZG (n bad:Int)(hold:Old F M):aI prog 208 [.int .i64 n,.int .i64 bad] F M (Same F M (⟨⟨false,n,0,0⟩,bad⟩:kF).val):=by
 refine qZ hm func208 e208 (aA rfl) ?_;simp only [c208,go_sem];intro r4 mW jP;simp only [setH,Hp.wZ,go_sem];exact qX ((Keep.refl _).new jP) ⟨rfl,rfl,rfl⟩
theorem dKF (op k x:Int)(hop:op=5\/op=6\/op=7)(hk:isK k=true)(x0:0<=x)(x1:x<=wD (iF k)):aI prog 210 [.int .i64 op,.int .i64 k,.int .i64 x] F M (Same F M (fQ (qWW op k x))):=by
 refine qZ hm func210 e210 (aA rfl) ?_;have hw:=jJ (jQ k);have hmp:=qA hw.2;rcases hop with rfl | rfl | rfl
 ·have kd:=zHG F M 9 k 0 x hk (by decide) (Int.le_refl 0) (by omega) x0 x1;have e:qWW 5 k x=rO 9 k 0 x:=rfl;rw [e];simp only [c210,go_sem];with_reducible refine qQ kd ?_;generalize rO 9 k 0 x=t at *;obtain ⟨t1,t2⟩:=t;simp only [fQ,go_sem];exact qW ⟨rfl,rfl,rfl⟩
 ·have ex:qVE .i64 (if i64.signed=true then -1 else i64.max) x = -x - 1:=by
   obtain ⟨xn,rfl⟩:=aG x0;rw [show (if i64.signed=true then -1 else i64.max)=(-1:Int) from rfl,xVZ (by omega)];unfold wDV; omega
  simp only [c210,go_sem,ex];with_reducible refine qQ (qHZ F M k hk) ?_;simp only [go_sem];with_reducible refine qQ (wDK F M (-x - 1) (iF k) (by omega) (by omega)) ?_;simp only [go_sem];exact qW ⟨rfl,rfl,rfl⟩
 ·simp only [c210,go_sem];with_reducible refine qQ (vZZ F M (decide (x=0))) ?_;simp only [go_sem];exact qW ⟨by simp [fQ,qWW],rfl,rfl⟩
theorem yQF {p:Pg}{s:Sc}(h:GoodS p 7 s)(hc:wY p=true):scB 7 s=true:=by
 obtain ⟨h1,h2,⟨b0,b1⟩,o0,o1⟩:=nI h;have hl:=jI p;have hp:=yH hc;have hs:=jE hc s.b;unfold scB;rw [if_pos rfl];simp only [aC,dJ,decide_eq_true_eq];refine ⟨⟨⟨⟨h1,h2⟩,b0,by omega⟩,o0,by omega⟩,?_⟩;by_cases hb:s.b=0
 ·right;rw [hb,xKD] at o1; omega
 ·left; omega
theorem dJQ (a b:Sc)(ha:scB 7 a=true)(hb:scB 7 b=true)(hold:Old F M):aI prog 213 [a.val,b.val] F M (Same F M (.tuple #[.int .i64 (if a=b then 1 else 0),.int .i64 0])):=by
 refine qZ hm func213 e213 (aA rfl) ?_;simp only [c213,go_sem];intro r2 hF2 hM2;generalize eQ:M.upd r2 ⟨a.cs,90,4⟩=M1 at *;obtain ⟨nG,mY,f2⟩:=nw eQ hold hF2 hM2;clear eQ;simp only [go_sem];intro r3 hF3 dN;generalize eQ:M1.upd r3 ⟨b.cs,90,4⟩=M2 at *;obtain ⟨fC,dA,f3⟩:=nw eQ mY hF3 dN;clear eQ;have b2:=qG (F:=F) (fC _ _ f2);have b3:=qG (F:=F) f3;have ka:=zJY F M2 7 a;have kb:=zJY F M2 7 b;rw [ha] at ka;rw [hb] at kb;simp only [go_sem,b2];with_reducible refine qQ ka ?_;simp only [go_sem,b3];with_reducible refine qQ kb ?_;by_cases h:a=b
 ·simp only [go_sem,b2,b3,h,eq_self];exact qX (nG.trans fC) ⟨rfl,rfl,rfl⟩
 ·simp only [go_sem,b2,b3,h];exact qX (nG.trans fC) ⟨rfl,rfl,rfl⟩
theorem dJW (a b:Sc)(ha:0<=a.o/\a.o<=32)(hb:0<=b.o/\b.o<=32):aI prog 212 [a.val,b.val] F M (Same F M (.tuple #[.int .i64 (nD a b).1,.int .i64 (nD a b).2])):=by
 refine qZ hm func212 e212 (aA rfl) ?_;have es:i64.wrap (a.o - b.o)=a.o - b.o:=dQ (by omega) (by omega);simp only [c212,go_sem];intro r2 hF2 hM2;simp only [go_sem];intro r3 hF3 dN;have g3:=yZ dN;have kp:∀x y,Keep M ((M.upd r2 x).upd r3 y):=fun x y=>((Keep.refl M).new hM2).new g3.2.2
 by_cases h:a.b=b.b
 ·have e:nD a b=((a.o - b.o) % 2 ^ 32,0):=by unfold nD; rw [if_pos h]
  rw [e];simp only [go_sem,g3,h,es];with_reducible refine qQ (wDK F _ (a.o - b.o) 32 (by decide) (by decide)) ?_;simp only [go_sem];exact qX (kp _ _) ⟨rfl,rfl,rfl⟩
 ·have e:nD a b=(0,9):=by unfold nD; rw [if_neg h]
  rw [e];simp only [go_sem,g3,h];exact qX (kp _ _) ⟨rfl,rfl,rfl⟩
theorem gZV (big:Bool)(ptr k:Int)(a:Option Addr)(c:Nat)(m:List Bl)(b off:Nat)(h:dF 2 Bl.cs F M (.slice a m.length c) m)(hold:Old F M)(hp:ptr=2\/ptr=4)(hk:isS k=true)(hb:b < m.length)(ho:off<=1000) :
  aI prog 215 [.agg #[.bool big,.int .i64 ptr],.slice a m.length c,(Sc.mk true 0 b off).val,.int .i64 k] F M (Same F M (.int .i64 (pV m (yJ ptr k) ⟨true,0,b,off⟩))):=by
 refine qZ hm func215 e215 (aA rfl) ?_;have yKA:=gV hp (.inr (.inr hk));have hsz:nZ ptr k=yJ ptr k:=by
  have:1<=k/\k<=7:=by simp only [isS,aC,decide_eq_true_eq] at hk; exact hk
  rw [<-sJ (by omega) (by omega)]
 simp only [zZX,go_sem];intro r4 mW jP;generalize eQ:M.upd r4 ⟨[.bool big,.int .i64 ptr],39,2⟩=M1 at *;obtain ⟨jA,fP,f4⟩:=nw eQ hold mW jP;clear eQ;simp only [go_sem];intro r6 vI oI;generalize eQ:M1.upd r6 ⟨(Sc.mk true 0 b off).cs,90,4⟩=M2 at *;obtain ⟨iZ,eG,f6⟩:=nw eQ fP vI oI;clear eQ;have kp:=jA.trans iZ;have b4:=qG (F:=F) (iZ _ _ f4);have b6:=qG (F:=F) f6;have h2:=h.keep kp eG;have ks:=xZA F M2 big ptr k hk;rw [hsz] at ks;simp only [go_sem,b4];with_reducible refine qQ ks ?_;obtain ⟨bb,o,cs,rfl,hbk,rows⟩:=h2.rows (by omega);obtain ⟨g1,g2⟩:=rows b hb;clear rows;have wVC:=yY hb;unfold pV;rw [show (Sc.mk true 0 b off).b=(b:Int) from rfl,wVC,show (Sc.mk true 0 b off).o=(off:Int) from rfl];generalize m[b]=x at *;generalize yJ ptr k=n at *;obtain ⟨g2,g3⟩:=Bl.row g2;have hb0:(0:Int)<=b:=by omega
 have hbl:(b:Int) < m.length:=by omega
 have ew:i64.wrap ((off:Int)+n)=off+n:=dQ (by omega) (by omega);have hn0:¬n=0:=by omega
 by_cases hst:x.st=1;rotate_left
 ·rw [if_neg hst];simp only [go_sem,b6,hb0,hbl,aB,aK,hbk,g2,hst];exact qX kp ⟨rfl,rfl,rfl⟩
 rw [if_pos hst];unfold xX;by_cases h1:(x.l.length:Int) < off+n
 ·rw [if_pos h1];simp only [go_sem,b6,hb0,hbl,aB,aK,hbk,g2,g3,hst,ew,h1];exact qX kp ⟨rfl,rfl,rfl⟩
 rw [if_neg h1];by_cases h2:(off:Int).tmod n=0
 ·rw [if_pos h2];simp only [go_sem,b6,hb0,hbl,aB,aK,hbk,g2,g3,hst,ew,h1,h2,hn0];exact qX kp ⟨rfl,rfl,rfl⟩
 ·rw [if_neg h2];simp only [go_sem,b6,hb0,hbl,aB,aK,hbk,g2,g3,hst,ew,h1,h2,hn0];exact qX kp ⟨rfl,rfl,rfl⟩
theorem dJX (p:Pg)(k:Int)(a:Option Addr)(c:Nat)(m:List Bl)(s:Sc)(h:dF 2 Bl.cs F M (.slice a m.length c) m)(hr:∀x∈m,x.rd F M)(hold:Old F M)(hc:wY p=true)(hfm:iP p m)(hk:isS k=true)(hs:GoodS p 7 s) :
  aI prog 207 [.agg #[.bool p.big,.int .i64 p.ptr],.slice a m.length c,s.val,.int .i64 k] F M (Same F M (.tuple #[(rE p.big p.ptr k m s).1.val,.int .i64 (rE p.big p.ptr k m s).2])):=by
 obtain ⟨b,off,rfl,hb,ho,hos⟩:=wM hs hfm hc;have qJY:=(yH hc).1;have yKA:=gV qJY (.inr (.inr hk));obtain ⟨n,hnq⟩:∃n:Nat,yJ p.ptr k=n:=aG (by omega);have hn4:1<=n/\n<=4:=by omega
 have hsz:nZ p.ptr k=n:=by
  have:1<=k/\k<=7:=by simp only [isS,aC,decide_eq_true_eq] at hk; exact hk
  rw [<-sJ (by omega) (by omega),hnq]
 refine qZ hm func207 e207 (aA rfl) ?_;simp only [zXE,go_sem];intro r4 mW jP;generalize eQ:M.upd r4 ⟨[.bool p.big,.int .i64 p.ptr],39,2⟩=M1 at *;obtain ⟨jA,fP,f4⟩:=nw eQ hold mW jP;clear eQ;simp only [go_sem];intro r6 vI oI;generalize eQ:M1.upd r6 ⟨(Sc.mk true 0 b off).cs,90,4⟩=M2 at *;obtain ⟨iZ,eG,f6⟩:=nw eQ fP vI oI;clear eQ;simp only [go_sem];intro r8 hF8 rQ;have n8:M r8=none:=(jA.trans iZ).free rQ;generalize eQ:M2.upd r8 ⟨[.bool false,.int .i64 0,.int .i64 0,.int .i64 0],90,4⟩=M3 at *;obtain ⟨nU,iE,f8⟩:=nw eQ eG hF8 rQ;clear eQ;have kp:=(jA.trans iZ).trans nU;have b4:=qG (F:=F) (nU _ _ (iZ _ _ f4));have b6:=qG (F:=F) (nU _ _ f6);have h3:=h.keep kp iE;have kw:=gZV F M3 p.big p.ptr k a c m b off h3 iE qJY hk hb (by omega);rw [hnq] at kw;simp only [go_sem,b4,b6];with_reducible refine qQ kw ?_;unfold rE;rw [hnq];by_cases hw:pV m n ⟨true,0,b,off⟩=0;rotate_left
 ·rw [if_neg hw];simp only [setH,go_sem,f8,hw];exact qX (kp.new n8) ⟨rfl,rfl,rfl⟩
 rw [if_pos hw];have hw2:=hw;have wVC:=yY hb;rw [show (Sc.mk true 0 b off).b=(b:Int) from rfl,wVC,show (Sc.mk true 0 b off).o=(off:Int) from rfl,aB,aB];unfold pV at hw2;rw [show (Sc.mk true 0 b off).b=(b:Int) from rfl,wVC,show (Sc.mk true 0 b off).o=(off:Int) from rfl] at hw2;have hfit:off+n<=(m[b]).l.length:=by
  split at hw2
  ·have:=(wGB hw2).1; omega
  ·cases hw2
 have jDH:=(hfm.bytes b hb).2.2.2;have hx3:dF 5 By.cs F M3 (.slice (m[b]).lA (m[b]).l.length (m[b]).lC) (m[b]).l:=(hr _ (aH hb)).keep kp iE;obtain ⟨bb,o,cs,rfl,hbk,rows⟩:=h3.rows (by omega);obtain ⟨g1,g2⟩:=rows b hb;clear rows hw2 wVC kw;generalize m[b]=x at *;obtain ⟨g2,g3⟩:=Bl.row g2;have hb0:(0:Int)<=b:=by omega
 have hbl:(b:Int) < m.length:=by omega
 have ho0:(0:Int)<=off:=by omega
 have ew:i64.wrap ((off:Int)+n)=((off+n:Nat):Int):=by rw [dQ (by omega) (by omega)]; omega
 have e1:(0:Int)<=((off+n:Nat):Int):=by omega
 have e2:(off:Int)<=((off+n:Nat):Int):=by omega
 have e3:((off+n:Nat):Int)<=x.l.length:=by omega
 have e4:x.l.length<=x.lC:=by
  obtain ⟨_,ad,cap,hc,e,_⟩:=hx3;cases e; exact hc
 have e4':(x.l.length:Int)<=x.lC:=by omega
 have e5:off+n - off=n:=by omega
 have hcl:=qKK (l:=x.l) (lo:=off) (n:=n) (by omega);have hcut:=dF.cut hx3 (lo:=off) (n:=n) (by omega);have ks:=xZA F M3 p.big p.ptr k hk;rw [hsz] at ks;have kG:=zDQ F M3 p.big p.ptr k _ _ ((x.l.drop off).take n) iE hcut (by rw [hcl]; omega);rw [hcl] at kG;simp only [go_sem,b4,b6,hw,hb0,hbl,aB,hbk,g3];with_reducible refine qQ ks ?_;simp only [go_sem,aB,ho0,ew,e2,e3,e4,e5];with_reducible refine qQ kG ?_;generalize yV p.big k ((x.l.drop off).take n)=rv at *;simp only [setH,go_sem,f8];exact qX (kp.new n8) ⟨rfl,rfl,rfl⟩
theorem dJZ (a:Option Addr)(c:Nat)(m:List Bl)(b off:Nat)(n:Int)(h:dF 2 Bl.cs F M (.slice a m.length c) m)(hold:Old F M)(hb:b < m.length)(ho:off<=1000)(h0:0<=n)(h1:n<=wD 32) :
  aI prog 211 [.slice a m.length c,(Sc.mk true 0 b off).val,.int .i64 n] F M (Same F M (.tuple #[(rU m ⟨true,0,b,off⟩ n).1.val,.int .i64 (rU m ⟨true,0,b,off⟩ n).2])):=by
 refine qZ hm func211 e211 (aA rfl) ?_
 have hli:=look_in h0 h1
 have hbl:=yY hb
 have kv:=fun M=>zKE F M n 32 (by decide) h0 h1
 simp only [zZQ,go_sem]
 intro r4 mW jP
 have n4:M r4=none:=jP
 generalize eQ:M.upd r4 ⟨(Sc.mk true 0 b off).cs,90,4⟩=M1 at *
 obtain ⟨jA,fP,f4⟩:=nw eQ hold mW jP
 clear eQ
 simp only [go_sem]
 intro r6 vI oI
 have n6:M r6=none:=jA.free oI
 have n46:¬r4=r6:=(qJ oI f4).1
 have n64:¬r6=r4:=fun h=>n46 h.symm
 generalize eQ:M1.upd r6 ⟨[.bool false,.int .i64 0,.int .i64 0,.int .i64 0],90,4⟩=M2 at *
 obtain ⟨iZ,eG,f6⟩:=nw eQ fP vI oI
 clear eQ
 have kp:=jA.trans iZ
 have f42:=iZ _ _ f4
 have b4:=qG (F:=F) f42
 have h2:=h.keep kp eG
 simp only [go_sem,b4]
 with_reducible refine qQ (kv M2) ?_
 have hmv:rU m ⟨true,0,b,off⟩ n=if (b:Int)=0/\n=0 then (⟨true,0,b,off⟩,0) else if ¬(m[b]).st=1 then (z0,2) else if 0<=(off:Int)+mO n 32/\(off:Int)+mO n 32<=(m[b]).l.length then (⟨true,0,b,(off:Int)+mO n 32⟩,0) else (z0,1):=by
  unfold rU
  rw [hbl]
 rw [hmv]
 clear hmv
 generalize mO n 32=v at *
 have hwv:i64.wrap ((off:Int)+v)=off+v:=dQ (by omega) (by omega)
 have hb0:(0:Int)<=b:=by omega
 have qXA:(b:Int) < m.length:=by omega
 obtain ⟨bb,o,cs,rfl,hbk,rows⟩:=h2.rows (by omega)
 obtain ⟨g1,g2⟩:=rows b hb
 clear rows hbl
 generalize m[b]=x at *
 obtain ⟨g2,g3⟩:=Bl.row g2
 by_cases hz:(b:Int)=0/\n=0
 ·rw [if_pos hz]
  simp only [setH,go_sem,b4,f6,hz.1,hz.2,hwv]
  exact qX (kp.new n6) ⟨rfl,rfl,rfl⟩
 rw [if_neg hz]
 have hzb:(if (b:Int)=0 then decide (n=0) else false)=false:=by
  by_cases e:(b:Int)=0
  ·rw [if_pos e,decide_eq_false (fun h=>hz ⟨e,h⟩)]
  ·rw [if_neg e]
 have fin:∀(bv nv:Bool),decide ((b:Int)=0)=bv->decide (n=0)=nv->(bv && nv)=false:=fun bv nv e1 e2=>by
  subst e1 e2; rw [bI,decide_eq_false_iff_not,decide_eq_false_iff_not]; omega
 have step:∀(P:Prop),(((b:Int)=0->¬n=0->P)/\(¬(b:Int)=0->P))->P:=fun P h=>by
  by_cases e:(b:Int)=0
  ·exact h.1 e (fun h=>hz ⟨e,h⟩)
  ·exact h.2 e
 clear hz hzb fin
 by_cases hst:x.st=1
 rotate_left
 ·rw [if_pos hst]
  refine step _ ⟨fun yU hn0=>?_,fun yU=>?_⟩
  ·have hbd:decide ((b:Int)=0)=true:=decide_eq_true yU
   simp only [setH,go_sem,b4,f6,hwv,hbd,hn0,hb0,qXA,aB,aK,hbk,g2,hst]
   exact qX (kp.new n6) ⟨rfl,rfl,rfl⟩
  ·have hbd:decide ((b:Int)=0)=false:=decide_eq_false yU
   simp only [setH,go_sem,b4,f6,hwv,hbd,hb0,qXA,aB,aK,hbk,g2,hst]
   exact qX (kp.new n6) ⟨rfl,rfl,rfl⟩
 rw [if_neg (fun h=>h hst)]
 by_cases hv0:(off:Int)+v < 0
 ·rw [if_neg (by omega)]
  refine step _ ⟨fun yU hn0=>?_,fun yU=>?_⟩
  ·have hbd:decide ((b:Int)=0)=true:=decide_eq_true yU
   simp only [setH,go_sem,b4,f6,hwv,hbd,hn0,hb0,qXA,aB,aK,hbk,g2,hst,hv0]
   exact qX (kp.new n6) ⟨rfl,rfl,rfl⟩
  ·have hbd:decide ((b:Int)=0)=false:=decide_eq_false yU
   simp only [setH,go_sem,b4,f6,hwv,hbd,hb0,qXA,aB,aK,hbk,g2,hst,hv0]
   exact qX (kp.new n6) ⟨rfl,rfl,rfl⟩
 have hv1:0<=(off:Int)+v:=by omega
 by_cases hv2:(x.l.length:Int) < off+v
 ·rw [if_neg (by omega)]
  refine step _ ⟨fun yU hn0=>?_,fun yU=>?_⟩
  ·have hbd:decide ((b:Int)=0)=true:=decide_eq_true yU
   simp only [setH,go_sem,b4,f6,hwv,hbd,hn0,hb0,qXA,aB,aK,hbk,g2,g3,hst,hv0,hv2]
   exact qX (kp.new n6) ⟨rfl,rfl,rfl⟩
  ·have hbd:decide ((b:Int)=0)=false:=decide_eq_false yU
   simp only [setH,go_sem,b4,f6,hwv,hbd,hb0,qXA,aB,aK,hbk,g2,g3,hst,hv0,hv2]
   exact qX (kp.new n6) ⟨rfl,rfl,rfl⟩
 rw [if_pos (by omega)]
 have hset:List.take 3 (Sc.mk true 0 (b:Int) (off:Int)).cs++[Value.int .i64 ((off:Int)+v)]=(Sc.mk true 0 (b:Int) ((off:Int)+v)).cs:=rfl
 have c4:=qG (F:=F) (show (M2.upd r4 ⟨(Sc.mk true 0 (b:Int) ((off:Int)+v)).cs,90,4⟩) r4=_ from Hp.qV _ _ _)
 have c6:∀y,(M2.upd r4 y) r6=some ⟨[.bool false,.int .i64 0,.int .i64 0,.int .i64 0],90,4⟩:=fun y=>by rw [Hp.qK n64]; exact f6
 refine step _ ⟨fun yU hn0=>?_,fun yU=>?_⟩
 ·have hbd:decide ((b:Int)=0)=true:=decide_eq_true yU
  simp only [setH,go_sem,b4,hwv,hbd,hn0,hb0,qXA,aB,aK,hbk,g2,g3,hst,hv0,hv2,f42,hset,c6]
  exact qX ((kp.new n4).new n6) ⟨rfl,rfl,rfl⟩
 ·have hbd:decide ((b:Int)=0)=false:=decide_eq_false yU
  simp only [setH,go_sem,b4,hwv,hbd,hb0,qXA,aB,aK,hbk,g2,g3,hst,hv0,hv2,f42,hset,c6]
  exact qX ((kp.new n4).new n6) ⟨rfl,rfl,rfl⟩
theorem xDA {s:Sc}{w:Int}:s.cs++[Value.int .i64 w]=(⟨s,w⟩:kF).cs:=rfl
theorem yWQ {F:Fz}{M:Hp}{p:Pg}(hexp:dF 5 Xp.cs F M (.slice p.eA p.exprs.length p.eC) p.exprs){a:Int}(h0:0<=a)(h1:a < p.exprs.length):∃b o cs,p.eA=some ⟨b,o,none⟩/\blk F M b=some cs/\(∃j:Nat,a=j/\(0:Int)<=j/\(j:Int) < p.exprs.length/\cs[o+j * 5+1]? = some (.int .i64 (bF p.exprs a))):=by
 obtain ⟨j,hj⟩:=aG h0;have hjl:j < p.exprs.length:=by omega
 obtain ⟨b,o,cs,e1,e2,d1,d2⟩:=dF.at hexp hjl;obtain ⟨_,d3,_⟩:=Xp.row d2;exact ⟨b,o,cs,e1,e2,j,hj,by omega,by omega,by rw [hj,qXB hjl]; exact d3⟩
theorem dJK (r t n:Nat)(v:Mc)(x:Xp)(a:kF)(i:Nat)(hM:M r=some ⟨v.cs,t,n⟩)(hp:v.p.rd F)(h:dF 2 Bl.cs F M (.slice v.a v.m.length v.c) v.m)(hr:∀y∈v.m,y.rd F M)(hold:Old F M)(hc:wY v.p=true)(hfm:iP v.p v.m)(hx:iV v.p.vars.length v.p.exprs i x=true)
  (hi:i<=v.p.exprs.length)(h3:3<=x.op)(h7:x.op<=7)(hu:GoodS v.p (bF v.p.exprs x.a) a.s) :
  aI prog 200 [.pointer (some ⟨r,0,none⟩),x.val,a.val] F M (Same F M (qGJ v.p v.m x a.s).val):=by
 refine qZ hm func200 kJG (aA rfl) ?_
 obtain ⟨o1,o22,hpa,hpb⟩:=oD hx
 have few:=hp.few
 obtain ⟨mn,hx3,hx4,hx56⟩:=qJA hx h3 h7
 have ha:=hpa (by omega)
 simp only [zXY,go_sem]
 intro r4 mW jP
 generalize eQ:M.upd r4 ⟨x.cs,119,5⟩=M1 at *
 obtain ⟨jA,fP,f4⟩:=nw eQ hold mW jP
 clear eQ
 simp only [go_sem]
 intro r5 lM gU
 generalize eQ:M1.upd r5 ⟨a.cs,223,5⟩=M2 at *
 obtain ⟨eH,dB,f5⟩:=nw eQ fP lM gU
 clear eQ
 simp only [go_sem]
 intro r6 vI oI
 have n6:M r6=none:=(jA.trans eH).free oI
 generalize eQ:M2.upd r6 ⟨[.bool false,.int .i64 0,.int .i64 0,.int .i64 0,.int .i64 0],223,5⟩=M3 at *
 obtain ⟨iZ,eG,f6⟩:=nw eQ dB vI oI
 clear eQ
 have kp:=(jA.trans eH).trans iZ
 have br:=qG (F:=F) (kp _ _ hM)
 have b4:=qG (F:=F) (iZ _ _ (eH _ _ f4))
 have b5:=qG (F:=F) (iZ _ _ f5)
 have h3':=h.keep kp eG
 have hr3:∀y∈v.m,y.rd F M3:=fun y hy=>dF.keep (hr y hy) kp eG
 obtain ⟨bb,oo,cs,ea,hbk,j,hj,j0,j1,hkd⟩:=yWQ (hp.exprs M3 eG) ha.1 (by omega)
 clear jA eH iZ fP dB f4 f5 jP gU oI
 have fin:∀(y:kF) (M4:Hp),Keep M M4->lK F (M4.upd r6 ⟨y.cs,223,5⟩) (Same F M y.val) y.val:=fun y M4 k=>qX (k.new n6) ⟨rfl,rfl,rfl⟩
 simp only [go_sem,br,b4,ea,hbk,hj,j0,j1,aB,aY,hkd]
 rw [<-hj]
 by_cases e3:x.op=3
 ·have e:qGJ v.p v.m x a.s=uP (rE v.p.big v.p.ptr x.kind v.m a.s):=by unfold qGJ; rw [if_pos e3]
  rw [e]
  rw [(hx3 e3).2] at hu
  have kt:=dJX F M3 v.p x.kind v.a v.c v.m a.s h3' hr3 eG hc hfm (hx3 e3).1 hu
  simp only [go_sem,br,b4,b5,e3]
  with_reducible refine qQ kt ?_
  generalize rE v.p.big v.p.ptr x.kind v.m a.s=rv at *
  simp only [go_sem]
  intro r8 hF8 rQ
  have n8:=kp.free rQ
  have d68:=(qJ rQ f6).1
  simp only [setH,Hp.wZ,go_sem,xDA,f6,d68]
  exact fin (uP rv) _ (kp.new n8)
 have kN:=gZG F M3
 by_cases e4:x.op=4
 ·have e:qGJ v.p v.m x a.s=xB (yX (bF v.p.exprs x.a) a.s.n % 2 ^ (iF x.kind).toNat,0):=by unfold qGJ; rw [if_neg e3,if_pos e4]
  rw [e]
  have hn:=jO (kZ (hx4 e4).2 hu).2.2.2
  have kt:=kGC F M3 (bF v.p.exprs x.a) x.kind a.s.n (hx4 e4).1 hn.1 hn.2
  simp only [go_sem,b4,b5,e4]
  with_reducible refine qQ kt ?_
  simp only [go_sem]
  with_reducible refine qQ (kN _ 0 eG) ?_
  simp only [setH,go_sem,f6]
  exact fin (xB (yX (bF v.p.exprs x.a) a.s.n % 2 ^ (iF x.kind).toNat,0)) _ kp
 by_cases e7:bF v.p.exprs x.a=7
 ·have e:qGJ v.p v.m x a.s=xB (if a.s.b=0 then 1 else 0,0):=by unfold qGJ; rw [if_neg e3,if_neg e4,if_pos e7]
  rw [e]
  by_cases hb:a.s.b=0
  ·rw [if_pos hb]
   simp only [go_sem,b4,b5,e3,e4,e7,hb]
   with_reducible refine qQ (kN 1 0 eG) ?_
   simp only [setH,go_sem,f6]
   exact fin (xB (1,0)) _ kp
  ·rw [if_neg hb]
   simp only [go_sem,b4,b5,e3,e4,e7,hb]
   with_reducible refine qQ (kN 0 0 eG) ?_
   simp only [setH,go_sem,f6]
   exact fin (xB (0,0)) _ kp
 have e:qGJ v.p v.m x a.s=xB (qWW x.op (bF v.p.exprs x.a) a.s.n):=by unfold qGJ; rw [if_neg e3,if_neg e4,if_neg e7]
 rw [e]
 have hk:isK (bF v.p.exprs x.a)=true:=by
  rcases hu with ⟨h,_⟩ | ⟨h,_⟩
  ·exact absurd h e7
  ·exact h
 have hn:=jO (kZ hk hu).2.2.2
 have kd:=dKF F M3 x.op (bF v.p.exprs x.a) a.s.n (by omega) hk hn.1 hn.2
 simp only [go_sem,b4,b5,e3,e4,e7]
 with_reducible refine qQ kd ?_
 generalize qWW x.op (bF v.p.exprs x.a) a.s.n=tt at *
 obtain ⟨t1,t2⟩:=tt
 simp only [fQ,go_sem]
 with_reducible refine qQ (kN t1 t2 eG) ?_
 simp only [setH,go_sem,f6]
 exact fin (xB (t1,t2)) _ kp
theorem dJJ (r t n:Nat)(v:Mc)(x:Xp)(a b:kF)(i:Nat)(hM:M r=some ⟨v.cs,t,n⟩)(hp:v.p.rd F)(h:dF 2 Bl.cs F M (.slice v.a v.m.length v.c) v.m)(hold:Old F M)(hc:wY v.p=true)(hfm:iP v.p v.m)(hx:iV v.p.vars.length v.p.exprs i x=true)
  (hi:i<=v.p.exprs.length)(h8:8<=x.op)(hu:GoodS v.p (bF v.p.exprs x.a) a.s)(hv:GoodS v.p (bF v.p.exprs x.b) b.s) :
  aI prog 201 [.pointer (some ⟨r,0,none⟩),x.val,a.val,b.val] F M (Same F M (qGG v.p v.m x a.s b.s).val):=by
 refine qZ hm func201 kJV (aA rfl) ?_
 obtain ⟨o1,o22,hpa,hpb⟩:=oD hx
 have few:=hp.few
 obtain ⟨mn,jHZ,yKE,dJG⟩:=qJB hx h8
 have ha:=hpa (by omega)
 simp only [c201,go_sem]
 intro r5 lM gU
 generalize eQ:M.upd r5 ⟨x.cs,119,5⟩=M1 at *
 obtain ⟨eH,dB,f5⟩:=nw eQ hold lM gU
 clear eQ
 simp only [go_sem]
 intro r6 vI oI
 generalize eQ:M1.upd r6 ⟨a.cs,223,5⟩=M2 at *
 obtain ⟨iZ,eG,f6⟩:=nw eQ dB vI oI
 clear eQ
 simp only [go_sem]
 intro r7 wU qB
 generalize eQ:M2.upd r7 ⟨b.cs,223,5⟩=M3 at *
 obtain ⟨lY,iO,f7⟩:=nw eQ eG wU qB
 clear eQ
 simp only [go_sem]
 intro r8 hF8 rQ
 have n8:M r8=none:=((eH.trans iZ).trans lY).free rQ
 generalize eQ:M3.upd r8 ⟨[.bool false,.int .i64 0,.int .i64 0,.int .i64 0,.int .i64 0],223,5⟩=M4 at *
 obtain ⟨nU,iE,f8⟩:=nw eQ iO hF8 rQ
 clear eQ
 have kp:=((eH.trans iZ).trans lY).trans nU
 have br:=qG (F:=F) (kp _ _ hM)
 have b5:=qG (F:=F) (nU _ _ (lY _ _ (iZ _ _ f5)))
 have b6:=qG (F:=F) (nU _ _ (lY _ _ f6))
 have b7:=qG (F:=F) (nU _ _ f7)
 have h4:=h.keep kp iE
 obtain ⟨bb,oo,cs,ea,hbk,j,hj,j0,j1,hkd⟩:=yWQ (hp.exprs M4 iE) ha.1 (by omega)
 clear eH iZ lY nU dB eG iO f5 f6 f7 gU oI qB rQ
 have fin:∀(y:kF) (M5:Hp),Keep M M5->lK F (M5.upd r8 ⟨y.cs,223,5⟩) (Same F M y.val) y.val:=fun y M5 k=>qX (k.new n8) ⟨rfl,rfl,rfl⟩
 have kN:=gZG F M4
 by_cases e20:x.op=20
 ·have e:qGG v.p v.m x a.s b.s=uP (rU v.m a.s b.s.n):=by unfold qGG; rw [if_pos e20]
  rw [e]
  rw [(jHZ e20).1] at hu
  rw [(jHZ e20).2] at hv
  obtain ⟨c,off,es,hb,ho,_⟩:=wM hu hfm hc
  have hn:=jO (kZ (show isK 6=true by decide) hv).2.2.2
  rw [w6] at hn
  have kt:=dJZ F M4 v.a v.c v.m c off b.s.n h4 iE hb (by omega) hn.1 hn.2
  rw [<-es] at kt
  simp only [go_sem,br,b5,b6,b7,e20]
  with_reducible refine qQ kt ?_
  generalize rU v.m a.s b.s.n=rv at *
  simp only [go_sem]
  intro r9 hF9 hM9
  have n9:=kp.free hM9
  have d89:=(qJ hM9 f8).1
  simp only [setH,Hp.wZ,go_sem,xDA,f8,d89]
  exact fin (uP rv) _ (kp.new n9)
 by_cases e21:x.op=21
 ·have e:qGG v.p v.m x a.s b.s=xB (nD a.s b.s):=by unfold qGG; rw [if_neg e20,if_pos e21]
  rw [e]
  rw [(yKE (.inl e21)).1] at hu
  rw [(yKE (.inl e21)).2] at hv
  have s1:=jE hc a.s.b
  have s2:=jE hc b.s.b
  obtain ⟨_,_,_,u0,u1⟩:=nI hu
  obtain ⟨_,_,_,v0,v1⟩:=nI hv
  have kt:=dJW F M4 a.s b.s ⟨u0,by omega⟩ ⟨v0,by omega⟩
  simp only [go_sem,b5,b6,b7,e21]
  with_reducible refine qQ kt ?_
  generalize nD a.s b.s=tt at *
  obtain ⟨t1,t2⟩:=tt
  simp only [go_sem]
  with_reducible refine qQ (kN t1 t2 iE) ?_
  simp only [setH,go_sem,f8]
  exact fin (xB (t1,t2)) _ kp
 by_cases e22:x.op=22
 ·have e:qGG v.p v.m x a.s b.s=xB (if a.s=b.s then 1 else 0,0):=by unfold qGG; rw [if_neg e20,if_neg e21,if_pos e22]
  rw [e]
  rw [(yKE (.inr e22)).1] at hu
  rw [(yKE (.inr e22)).2] at hv
  have kt:=dJQ F M4 a.s b.s (yQF hu hc) (yQF hv hc) iE
  simp only [go_sem,b5,b6,b7,e22]
  with_reducible refine qQ kt ?_
  generalize (if a.s=b.s then (1:Int) else 0)=tt at *
  simp only [go_sem]
  with_reducible refine qQ (kN tt 0 iE) ?_
  simp only [setH,go_sem,f8]
  exact fin (xB (tt,0)) _ kp
 have e:qGG v.p v.m x a.s b.s=xB (rO x.op (bF v.p.exprs x.a) a.s.n b.s.n):=by unfold qGG; rw [if_neg e20,if_neg e21,if_neg e22]
 rw [e]
 obtain ⟨c1,c2,c3⟩:=dJG (by omega)
 rw [c3] at hv
 have hn:=jO (kZ c2 hu).2.2.2
 have hn2:=jO (kZ c2 hv).2.2.2
 have kd:=zHG F M4 x.op (bF v.p.exprs x.a) a.s.n b.s.n c2 (by unfold yKC at c1; exact c1) hn.1 hn.2 hn2.1 hn2.2
 simp only [go_sem,br,b5,b6,b7,e20,e21,e22,ea,hbk,hj,j0,j1,aB,aY,hkd]
 rw [<-hj]
 with_reducible refine qQ kd ?_
 generalize rO x.op (bF v.p.exprs x.a) a.s.n b.s.n=tt at *
 obtain ⟨t1,t2⟩:=tt
 simp only [fQ,go_sem]
 with_reducible refine qQ (kN t1 t2 iE) ?_
 simp only [setH,go_sem,f8]
 exact fin (xB (t1,t2)) _ kp
def gZH {α:Type}(f:α->List Value)(e:TypeId)(n:Nat)(l:List α)(g:Nat)(F0:Fz)(M0:Hp)(i:Nat)(σ:Env)(F:Fz)(M:Hp):Prop:=
 F0=F/\∃w,Rev l w i/\M=M0.upd g ⟨w.flatMap f,e,n⟩/\Ax.look σ 2=some (.int .i64 i)/\Ax.look σ 3=some (.int .i64 ((l.length:Int) - 1 - i))
theorem dJV (g n c:Nat)(l:List By)(hF:F g=none)(hM:M g=some ⟨l.flatMap By.cs,88,n⟩)(hl:l.length<=100000) :
  aI prog 226 [.slice (some ⟨g,0,none⟩) l.length c] F M fun r F' M'=>F'=F/\r=.tuple #[]/\M'=M.upd g ⟨l.reverse.flatMap By.cs,88,n⟩:=by
 refine qZ hm func226 e226 (aA rfl) ?_;have e0:i64.wrap ((l.length:Int) - 1)=(l.length:Int) - 1:=dQ (by omega) (by omega);simp only [c226,go_sem,e0];refine wV (l.length+1) (gZH By.cs 88 n l g F M) ⟨rfl,l,Rev.zero l,(wQC hM).symm,(by simp only [go_sem, *] <;> rfl),by show Ax.look _ _=_; rw [show (l.length:Int) - 1 - ((0:Nat):Int)=(l.length:Int) - 1 by omega]; exact (by simp only [go_sem, *] <;> rfl)⟩ ?_;rintro i σ F' M' hi hst ⟨rfl,w,hr,rfl,q2,q3⟩;have q0:=hst 0 rfl;simp only [go_sem] at q0;clear hst;have hwl:=hr.len;by_cases hil:(i:Int) < (l.length:Int) - 1 - i;rotate_left
 ·rw [hr.done hil];simp only [go_sem,q2,q3,hil];exact qW ⟨rfl,rfl,rfl⟩
 have h1:i < w.length:=by omega
 obtain ⟨j,hj⟩:∃j:Nat,j=l.length - 1 - i:=⟨_,rfl⟩
 have h2:j < w.length:=by omega
 have hjz:(l.length:Int) - 1 - i=j:=by omega
 have hs:=hr.step (by omega) h1 (by omega);rw [hjz] at hil q3;have gi:=lF (f:=By.cs) (sz:=5) By.len w i h1;have gj:=lF (f:=By.cs) (sz:=5) By.len w j h2;have li:i * 5+5<=(w.flatMap By.cs).length:=by rw [yG By.len]; omega
 have lj:j * 5+5<=(w.flatMap By.cs).length:=by rw [yG By.len]; omega
 have lj2:j * 5+5<=((w.set i w[j]).flatMap By.cs).length:=by rw [yG By.len,aZ]; omega
 have s1:=iC (f:=By.cs) (sz:=5) By.len w[j] w i h1;have s2:=iC (f:=By.cs) (sz:=5) By.len w[i] (w.set i w[j]) j (by rw [aZ]; exact h2);have hi0:(0:Int)<=i:=by omega
 have hj0:(0:Int)<=j:=by omega
 have jGZ:(i:Int) < l.length:=by omega
 have vJJ:(j:Int) < l.length:=by omega
 have ei:i64.wrap ((i:Int)+1)=i+1:=dQ (by omega) (by omega);have ej:i64.wrap ((j:Int) - 1)=j - 1:=dQ (by omega) (by omega);have hs':Rev l ((w.set i w[j]).set j w[i]) (i+1):=by subst hj; exact hs
 generalize w[i]=x at *;generalize w[j]=y at *;have bw:blk F (M.upd g ⟨w.flatMap By.cs,88,n⟩) g=some (w.flatMap By.cs):=wH;simp only [setH,Hp.wZ,go_sem,q0,q2,q3,hil,hi0,hj0,jGZ,vJJ,aB,aY,bw,gi,gj,li,lj,lj2,s1,s2,ei,ej];refine ⟨by omega,rfl,_,hs',rfl,(by simp only [go_sem, *] <;> rfl),?_⟩;show Ax.look _ _=_;rw [show (l.length:Int) - 1 - ((i+1:Nat):Int)=j - 1 by omega];exact (by simp only [go_sem, *] <;> rfl)
theorem jDD {cs:List Value}{i:Nat}{x:Int}(h:(cs.drop (i * 1)).take 1=fV x):cs[i * 1]? = some (.int .i64 x):=by
 have:((cs.drop (i * 1)).take 1)[0]? = some (.int .i64 x):=by rw [h]; rfl
 rw [List.getElem?_take_of_lt (by decide),List.getElem?_drop] at this;exact this
theorem dJH (g n c:Nat)(l:List Int)(hF:F g=none)(hM:M g=some ⟨l.flatMap fV,3,n⟩)(hl:l.length<=100000) :
  aI prog 199 [.slice (some ⟨g,0,none⟩) l.length c] F M fun r F' M'=>F'=F/\r=.tuple #[]/\M'=M.upd g ⟨l.reverse.flatMap fV,3,n⟩:=by
 refine qZ hm func199 e199 (aA rfl) ?_;have e0:i64.wrap ((l.length:Int) - 1)=(l.length:Int) - 1:=dQ (by omega) (by omega);simp only [zXD,go_sem,e0];refine wV (l.length+1) (gZH fV 3 n l g F M) ⟨rfl,l,Rev.zero l,(wQC hM).symm,(by simp only [go_sem, *] <;> rfl),by show Ax.look _ _=_; rw [show (l.length:Int) - 1 - ((0:Nat):Int)=(l.length:Int) - 1 by omega]; exact (by simp only [go_sem, *] <;> rfl)⟩ ?_;rintro i σ F' M' hi hst ⟨rfl,w,hr,rfl,q2,q3⟩;have q0:=hst 0 rfl;simp only [go_sem] at q0;clear hst;have hwl:=hr.len;by_cases hil:(i:Int) < (l.length:Int) - 1 - i;rotate_left
 ·rw [hr.done hil];simp only [go_sem,q2,q3,hil];exact qW ⟨rfl,rfl,rfl⟩
 have h1:i < w.length:=by omega
 obtain ⟨j,hj⟩:∃j:Nat,j=l.length - 1 - i:=⟨_,rfl⟩
 have h2:j < w.length:=by omega
 have hjz:(l.length:Int) - 1 - i=j:=by omega
 have hs:=hr.step (by omega) h1 (by omega);rw [hjz] at hil q3;have gi:=lF (f:=fV) (sz:=1) wJ w i h1;have gj:=lF (f:=fV) (sz:=1) wJ w j h2;have li:i * 1+1<=(w.flatMap fV).length:=by rw [yG wJ]; omega
 have lj:j * 1+1<=(w.flatMap fV).length:=by rw [yG wJ]; omega
 have lj2:j * 1+1<=((w.set i w[j]).flatMap fV).length:=by rw [yG wJ,aZ]; omega
 have s1:=iC (f:=fV) (sz:=1) wJ w[j] w i h1;have s2:=iC (f:=fV) (sz:=1) wJ w[i] (w.set i w[j]) j (by rw [aZ]; exact h2);have hi0:(0:Int)<=i:=by omega
 have hj0:(0:Int)<=j:=by omega
 have jGZ:(i:Int) < l.length:=by omega
 have vJJ:(j:Int) < l.length:=by omega
 have ei:i64.wrap ((i:Int)+1)=i+1:=dQ (by omega) (by omega);have ej:i64.wrap ((j:Int) - 1)=j - 1:=dQ (by omega) (by omega);have hs':Rev l ((w.set i w[j]).set j w[i]) (i+1):=by subst hj; exact hs
 generalize w[i]=x at *;generalize w[j]=y at *;have gi:=jDD gi;have gj:=jDD gj;rw [show fV y=[Value.int .i64 y] from rfl] at s1;rw [show fV x=[Value.int .i64 x] from rfl] at s2;have bw:blk F (M.upd g ⟨w.flatMap fV,3,n⟩) g=some (w.flatMap fV):=wH;simp only [setH,Hp.wZ,go_sem,q0,q2,q3,hil,hi0,hj0,jGZ,vJJ,aB,aY,bw,gi,gj,li,lj2,s1,s2,ei,ej];refine ⟨by omega,rfl,_,hs',rfl,(by simp only [go_sem, *] <;> rfl),?_⟩;show Ax.look _ _=_;rw [show (l.length:Int) - 1 - ((i+1:Nat):Int)=j - 1 by omega];exact (by simp only [go_sem, *] <;> rfl)
def vJG (n:Nat)(s:Sc)(r3 r5 r12:Nat)(F0:Fz)(M0:Hp)(i:Nat)(σ:Env)(F:Fz)(M:Hp):Prop:=
 F0=F/\M=M0.upd r12 ⟨((iK false n s).take i++List.replicate (n - i) (⟨0,0,0,0,0⟩:By)).flatMap By.cs,88,n * 5⟩/\Ax.look σ 15=some (.int .i64 i)
theorem dJD (big:Bool)(ptr k:Int)(s:Sc)(hp:ptr=2\/ptr=4)(hk:isS k=true)(hs:wVA s)(hk7:k=7↔s.p=true)(hold:Old F M) :
  aI prog 216 [.agg #[.bool big,.int .i64 ptr],.int .i64 k,s.val] F M (tK 5 By.cs 88 (iK big (yJ ptr k).toNat s) F M):=by
 refine qZ hm func216 e216 (aA rfl) ?_
 have yKA:=gV hp (.inr (.inr hk))
 obtain ⟨n,hnq⟩:∃n:Nat,yJ ptr k=n:=aG (by omega)
 have hn4:1<=n/\n<=4:=by omega
 have hsz:nZ ptr k=n:=by
  have:1<=k/\k<=7:=by simp only [isS,aC,decide_eq_true_eq] at hk; exact hk
  rw [<-sJ (by omega) (by omega),hnq]
 rw [hnq,aB]
 simp only [zZZ,go_sem]
 intro r3 hF3 dN
 generalize eQ:M.upd r3 ⟨[.bool big,.int .i64 ptr],39,2⟩=M1 at *
 obtain ⟨fC,dA,f3⟩:=nw eQ hold hF3 dN
 clear eQ
 simp only [go_sem]
 intro r5 lM gU
 generalize eQ:M1.upd r5 ⟨s.cs,90,4⟩=M2 at *
 obtain ⟨eH,dB,f5⟩:=nw eQ dA lM gU
 clear eQ
 have kp:=fC.trans eH
 have f3:=eH _ _ f3
 have b3:=qG (F:=F) f3
 have ks:=xZA F M2 big ptr k hk
 rw [hsz] at ks
 simp only [go_sem,b3]
 with_reducible refine qQ ks ?_
 simp only [go_sem]
 refine rY (aN _) (by simp only [maxLen]; omega) (by omega) ?_
 intro r12 qHV sH
 have n12:M r12=none:=kp.free sH
 have d3:=(qJ sH f3).1
 have d5:=(qJ sH f5).1
 have hrep:(List.replicate n [Value.int .i64 0,.int .i64 0,.int .i64 0,.int .i64 0,.int .i64 0]).flatten=((iK false n s).take 0++List.replicate (n - 0) (⟨0,0,0,0,0⟩:By)).flatMap By.cs:=by
  rw [List.take_zero,List.nil_append,Nat.sub_zero]
  exact qC (f:=By.cs) ⟨0,0,0,0,0⟩ n
 rw [hrep]
 simp only [go_sem]
 refine wV n (vJG n s r3 r5 r12 F M2) ⟨rfl,rfl,(by simp only [go_sem, *] <;> rfl)⟩ ?_
 clear hrep
 rintro i σ F' M' hi hst ⟨rfl,rfl,q15⟩
 have q1:=hst 1 rfl
 have q3:=hst 3 rfl
 have q5:=hst 5 rfl
 have q7:=hst 7 rfl
 have q14:=hst 14 rfl
 simp only [go_sem] at q1 q3 q5 q7 q14
 clear hst
 have c3:∀y,blk F (M2.upd r12 y) r3=some [.bool big,.int .i64 ptr]:=fun y=>by rw [iG d3]; exact b3
 have c5:∀y,blk F (M2.upd r12 y) r5=some s.cs:=fun y=>by rw [iG d5]; exact qG f5
 have fin:∀l:List By,l.length=n->lK F (M2.upd r12 ⟨l.flatMap By.cs,88,n * 5⟩) (tK 5 By.cs 88 l F M) (.slice (some ⟨r12,0,none⟩) n n):=fun l hl=>
  qX (M:=M.upd r12 ⟨l.flatMap By.cs,88,n * 5⟩) kp.both ⟨rfl,.inr ⟨r12,n,qHV,n12,by rw [hl],⟨by omega,by simp only [maxLen]; omega⟩,rfl⟩⟩
 by_cases hil:(i:Int) < n
 rotate_left
 ·have hin:i=n:=by omega
  have e0:(iK false n s).take i++List.replicate (n - i) (⟨0,0,0,0,0⟩:By)=iK false n s:=by
   rw [hin,fM,aJ (by rw [jV]; omega)]; simp
  rw [e0]
  by_cases h7:k=7
  ·rw [<-xJC (big:=big) (hk7.1 h7)]
   simp only [go_sem,q1,q7,q14,q15,hil,h7]
   exact fin _ (jV _ _ _)
  have hsp:s.p=false:=by
   cases h:s.p
   ·rfl
   ·exact absurd (hk7.2 h) h7
  cases big
  ·simp only [go_sem,q1,q3,q7,q14,q15,hil,h7,c3]
   exact fin _ (jV _ _ _)
  ·have kr:=dJV F (M2.upd r12 ⟨(iK false n s).flatMap By.cs,88,n * 5⟩) r12 (n * 5) n (iK false n s) qHV (Hp.qV _ _ _) (by rw [jV]; omega)
   rw [jV] at kr
   simp only [go_sem,q1,q3,q7,q14,q15,hil,h7,c3]
   with_reducible refine wW kr ?_
   rintro u F' M' ⟨rfl,rfl,rfl⟩
   refine ⟨(fun h=>by cases h),?_⟩
   rw [xJB hsp,Hp.wZ]
   simp only [go_sem,q7]
   exact fin _ (jV _ _ _)
 have hi0:(0:Int)<=i:=by omega
 have hi1:i < n:=by omega
 have ei:i64.wrap ((i:Int)+1)=i+1:=dQ (by omega) (by omega)
 have ew3:i64.wrap (8 * (i:Int))=8 * (i:Int):=dQ (by omega) (by omega)
 have en3:¬(8 * (i:Int)) < 0:=by omega
 have hlen:((iK false n s).take i++List.replicate (n - i) (⟨0,0,0,0,0⟩:By)).length=n:=by
  rw [aO,dW,jV,bD]; omega
 have hlc:i * 5+5<=(((iK false n s).take i++List.replicate (n - i) (⟨0,0,0,0,0⟩:By)).flatMap By.cs).length:=by
  rw [yG By.len,hlen]; omega
 have fs:∀y:By,y=pK false n s i->(((iK false n s).take i++List.replicate (n - i) (⟨0,0,0,0,0⟩:By)).flatMap By.cs).take (i * 5)++y.cs++(((iK false n s).take i++List.replicate (n - i) (⟨0,0,0,0,0⟩:By)).flatMap By.cs).drop (i * 5+5)=((iK false n s).take (i+1)++List.replicate (n - (i+1)) (⟨0,0,0,0,0⟩:By)).flatMap By.cs:=fun y hy=>by
  rw [iC By.len y _ i (by rw [hlen]; exact hi1),yVD hi1,hy,wYG hi1]
 by_cases hsb:0 < s.b
 ·have hsp:s.p=true:=by
   rcases hs with h | h
   ·exact h.1
   ·omega
  have f2:=fs ⟨2,0,s.b,s.o,i⟩ (by unfold pK nS; rw [if_pos hsp,if_pos hsb])
  simp only [Go.Ax.By.cs] at f2
  simp only [setH,Hp.wZ,go_sem,q5,q7,q14,q15,hil,hi0,aB,aY,c5,hsb,hlc,f2,ei]
  exact ⟨hi1,rfl,rfl,(by simp only [go_sem, *] <;> rfl)⟩
 ·have f2:=fs ⟨1,band .i64 (sW .i64 s.n (8 * (i:Int))) 255,0,0,0⟩ (by
   unfold pK
   rcases hs with ⟨h1,h2,h3⟩ | ⟨h1,h2⟩
   ·rw [if_pos h1,h2,xJE i (by omega)]; unfold nS; rw [if_neg hsb]
   ·rw [if_neg (by rw [h1]; exact bK),if_neg bK])
  simp only [Go.Ax.By.cs] at f2
  simp only [setH,Hp.wZ,go_sem,q5,q7,q14,q15,hil,hi0,aB,aY,c5,hsb,hlc,ew3,en3,f2,ei]
  exact ⟨hi1,rfl,rfl,(by simp only [go_sem, *] <;> rfl)⟩
def uY (n:Nat):Int:=n
theorem jDY {l:List Bool}{i:Nat}(h:i < l.length):(l.map Value.bool)[i * 1]? = some (.bool (uAt l i)):=by
 rw [Nat.mul_one,List.getElem?_map];unfold uAt;rw [List.getElem?_eq_getElem h]; rfl
theorem qGH (l:List Bool)(i:Nat)(x:Bool)(h:i < l.length):(l.map Value.bool).take (i * 1)++[Value.bool x]++(l.map Value.bool).drop (i * 1+1)=(l.set i x).map Value.bool:=by
 rw [Nat.mul_one,List.map_set,List.set_eq_take_append_cons_drop,if_pos (by rw [bJ]; exact h)];simp
theorem yJD {op:Int}(h1:1<=op)(h2:op<=22):dO op=bH op:=by
 unfold dO bH;split
 ·rfl
 split
 ·rfl
 rw [if_pos (by omega)]
def lT (us:List Bool)(c:Prop) [Decidable c] (a:Int):List Bool:=if c then us.set a.toNat true else us
theorem wWC (us:List Bool)(c:Prop) [Decidable c] (a:Int):(lT us c a).length=us.length:=by
 unfold lT; split
 ·rw [aZ]
 ·rfl
theorem zF {us:List Bool}{c:Prop} [Decidable c] {a:Int} {j:Nat} (h:c->a.toNat < us.length):uAt (lT us c a) j=(decide (c/\a.toNat=j) || uAt us j):=by
 unfold lT;split
 ·rename_i hc; rw [wVY (h hc)]; simp [hc]
 ·rename_i hc; simp [hc]
theorem wKY {us:List Bool}{c:Prop} [Decidable c] {a:Int} {lo:Nat} (h:c->a.toNat < lo) (hl:lo<=us.length):dY (lT us c a) lo=dY us lo:=by
 unfold lT;split
 ·rename_i hc; exact jWC (h hc) hl
 ·rfl
theorem vJV {op:Int}(h:1 < bH op):bH op=2:=by
 unfold bH at h ⊢;by_cases c1:op=1\/op=2
 ·rw [if_pos c1] at h; omega
 rw [if_neg c1] at h ⊢;by_cases c2:3<=op/\op<=7
 ·rw [if_pos c2] at h; omega
 rw [if_neg c2]
theorem yWW {p:Pg}{us:List Bool}{lo e:Nat}{x:Xp}(h:Closed p us (lo+1) e)(he:lo<=e)(hx:p.exprs[lo]? = some x)(hu:uAt us lo=true)(ha:0 < bH x.op->0<=x.a/\x.a < lo)(hb:1 < bH x.op->0<=x.b/\x.b < lo) :
  Closed p (lT (lT us (0 < bH x.op) x.a) (1 < bH x.op) x.b) lo e/\dY (lT (lT us (0 < bH x.op) x.a) (1 < bH x.op) x.b) lo=lo :: dY us (lo+1):=by
 have hl:=h.len;have l1:(lT us (0 < bH x.op) x.a).length=e+1:=by rw [wWC,hl]
 have h1:0 < bH x.op->x.a.toNat < us.length:=fun c=>by have:=ha c; omega
 have h2:1 < bH x.op->x.b.toNat < (lT us (0 < bH x.op) x.a).length:=fun c=>by have:=hb c; omega
 have mono:∀j,uAt us j=true->uAt (lT (lT us (0 < bH x.op) x.a) (1 < bH x.op) x.b) j=true:=fun j hj=>by
  rw [zF h2,zF h1,hj]; simp
 have back:∀j,lo<=j->uAt (lT (lT us (0 < bH x.op) x.a) (1 < bH x.op) x.b) j=uAt us j:=fun j hj=>by
  rw [zF h2,zF h1];have e1:¬(0 < bH x.op/\x.a.toNat=j):=fun c=>by have:=ha c.1; omega
  have e2:¬(1 < bH x.op/\x.b.toNat=j):=fun c=>by have:=hb c.1; omega
  simp [e1,e2]
 refine ⟨⟨by rw [wWC,l1],mono _ h.top,fun i hi h1' h2' hu' hm=>?_,fun i hi h1' h2' hu' hm=>?_⟩,?_⟩
 ·by_cases c:i=lo
  ·subst c;rw [List.getElem?_eq_getElem hi] at hx;injection hx with hx
   rw [hx] at hm ⊢;rw [zF h2,zF h1]; simp [hm]
  ·exact mono _ (h.one i hi (by omega) h2' (by rw [back i h1'] at hu'; exact hu') hm)
 ·by_cases c:i=lo
  ·subst c;rw [List.getElem?_eq_getElem hi] at hx;injection hx with hx
   rw [hx] at hm ⊢;rw [zF h2]; simp [hm]
  ·exact mono _ (h.two i hi (by omega) h2' (by rw [back i h1'] at hu'; exact hu') hm)
 ·rw [wKY (fun c=>by have:=hb c; omega) (by omega),wKY (fun c=>by have:=ha c; omega) (by omega),wWY (by omega),hu,if_pos rfl]; rfl
def usI (p:Pg)(e r2 r10:Nat)(F0:Fz)(M0:Hp)(k:Nat)(σ:Env)(F:Fz)(M:Hp):Prop:=
 F0=F/\Keep M0 M/\Old F0 M/\Ax.look σ 6=some (.int .i64 ((e:Int) - k))/\∃us w,M r2=some ⟨p.cs,43,7⟩/\M r10=some ⟨us.map Value.bool,4,(e+1) * 1⟩/\Closed p us (e+1 - k) e/\Ax.look σ 4=some w/\
  yW 1 fV 3 F0 M0 M w ((dY us (e+1 - k)).reverse.map uY)
theorem dJY (p:Pg)(e:Nat)(hp:p.rd F)(hold:Old F M)(hc:wY p=true)(he:e < p.exprs.length) :
  aI prog 178 [p.val,.int .i64 e] F M (Makes F M fun u M'=>∃us a c,Closed p us 0 e/\u=.slice a ((dY us 0).map uY).length c/\lG F M' a c ((dY us 0).map uY)):=by
 refine qZ hm func178 kKH (aA rfl) ?_
 have few:=hp.few
 have xHD:=yQJ hc
 have ee:i64.wrap ((e:Int)+1)=((e+1:Nat):Int):=by rw [dQ (by omega) (by omega)]; omega
 simp only [zWB,go_sem]
 intro r2 hF2 hM2
 have n2:M r2=none:=hM2
 generalize eQ:M.upd r2 ⟨p.cs,43,7⟩=M1 at *
 obtain ⟨nG,mY,f2⟩:=nw eQ hold hF2 hM2
 clear eQ
 simp only [go_sem,ee]
 refine rY (aN _) (by simp only [maxLen]; omega) (by omega) ?_
 intro r10 qJG uF
 have n10:M r10=none:=nG.free uF
 have d2:=(qJ uF f2).1
 have e0:(0:Int)<=e:=by omega
 have e1:(e:Int) < ((e+1:Nat):Int):=by omega
 have hrep:(List.replicate (e+1) [Value.bool false]).flatten=(List.replicate (e+1) false).map Value.bool:=by
  rw [List.map_replicate]
  induction e+1 with
  | zero=>rfl
  | succ n ih=>rw [dS,List.flatten_cons,ih,dS]; rfl
 rw [hrep]
 have hset:=qGH (List.replicate (e+1) false) e true (by simp)
 have hlc:e * 1+1<=((List.replicate (e+1) false).map Value.bool).length:=by rw [bJ,bD]; omega
 simp only [setH,Hp.wZ,go_sem,e0,e1,aB,aY,hlc,hset]
 have hU:Closed p ((List.replicate (e+1) false).set e true) (e+1) e:=⟨by simp,by rw [wVY (by simp)]; simp,fun i _ h1 h2=>by omega,fun i _ h1 h2=>by omega⟩
 have hU0:dY ((List.replicate (e+1) false).set e true) (e+1)=[]:=jWB (by simp)
 generalize (List.replicate (e+1) false).set e true=us0 at *
 refine wV (e+1) (usI p e r2 r10 F M) ⟨rfl,nG.new n10,mY.upd qJG,by rw [show (e:Int) - ((0:Nat):Int)=e by omega]; exact (by simp only [go_sem, *] <;> rfl),us0,_,by rw [Hp.qK d2]; exact f2,Hp.qV _ _ _,hU,(by simp only [go_sem, *] <;> rfl),by rw [Nat.sub_zero,hU0]; exact yW.nil⟩ ?_
 clear hU hU0 hset hlc hrep f2 nG mY uF hM2
 rintro k σ F' M2 hk hst ⟨rfl,kp,old,q6,us,w,f2,f10,hU,q4,mine⟩
 have q1:=hst 1 rfl
 have q2:=hst 2 rfl
 have q5:=hst 5 rfl
 simp only [go_sem] at q1 q2 q5
 clear hst
 have hul:=hU.len
 by_cases hi:k<=e
 rotate_left
 ·have hk1:k=e+1:=by omega
  subst hk1
  have hneg:¬(0:Int)<=(e:Int) - ((e+1:Nat):Int):=by omega
  rw [fM] at hU mine
  have hne:¬(dY us 0).reverse.map uY=[]:=fun h=>by
   have:=wWA hul hU.top
   simp at h
   rw [h] at this; cases this
  rcases mine.own with ⟨_,h⟩ | ⟨g,cap,rfl,hFg,yF,hcap⟩
  ·exact absurd h hne
  have hgn:=mine.new g _ _ rfl
  have hll:((dY us 0).reverse.map uY).length<=1000:=by rw [bJ,List.length_reverse]; have:=qGK us 0; omega
  have kr:=dJH F M2 g (cap * 1) cap ((dY us 0).reverse.map uY) hFg yF (by omega)
  simp only [go_sem,q4,q6,hneg]
  with_reducible refine wW kr ?_
  rintro u F' M3 ⟨hG,rfl,rfl⟩
  subst hG
  refine ⟨(fun h=>by cases h),?_⟩
  have e2:((dY us 0).reverse.map uY).reverse=(dY us 0).map uY:=by rw [<-List.map_reverse,List.reverse_reverse]
  have e3:((dY us 0).reverse.map uY).length=((dY us 0).map uY).length:=by simp
  rw [e2,e3]
  simp only [go_sem,q4]
  refine qW ⟨rfl,kp.new hgn,old.upd hFg,us,_,_,hU,by rw [e3],?_⟩
  have own:gQ 1 fV 3 F' (M2.upd g ⟨((dY us 0).map uY).flatMap fV,3,cap * 1⟩) (.slice (some ⟨g,0,none⟩) ((dY us 0).map uY).length cap) ((dY us 0).map uY):=.inr ⟨g,cap,rfl,hFg,Hp.qV _ _ _,by rw [<-e3]; exact hcap.1,hcap.2⟩
  exact own.rd wJ (by rw [<-e3]; omega)
 obtain ⟨lo,hlo⟩:∃lo,lo=e - k:=⟨_,rfl⟩
 have hle:(e:Int) - k=lo:=by omega
 have hlo1:e+1 - k=lo+1:=by omega
 rw [hle] at q6
 rw [hlo1] at hU mine
 have hnx:(e:Int) - ((k+1:Nat):Int)=lo - 1:=by omega
 have hlo2:e+1 - (k+1)=lo:=by omega
 have i0:(0:Int)<=lo:=by omega
 have i1:(lo:Int) < ((e+1:Nat):Int):=by omega
 have i2:lo < p.exprs.length:=by omega
 have i3:(lo:Int) < p.exprs.length:=by omega
 have ej:i64.wrap ((lo:Int) - 1)=lo - 1:=dQ (by omega) (by omega)
 have b10:=qG (F:=F) f10
 have g10:=jDY (l:=us) (i:=lo) (by omega)
 cases hu:uAt us lo
 ·have hU2:Closed p us lo e:=⟨hul,hU.top,fun i hi' h1 h2 h3 h4=>by
   by_cases c:i=lo
   ·subst c; rw [hu] at h3; cases h3
   ·exact hU.one i hi' (by omega) h2 h3 h4,fun i hi' h1 h2 h3 h4=>by
   by_cases c:i=lo
   ·subst c; rw [hu] at h3; cases h3
   ·exact hU.two i hi' (by omega) h2 h3 h4⟩
  have hus:dY us lo=dY us (lo+1):=by rw [wWY (by omega),hu]; rfl
  rw [hu] at g10
  simp only [go_sem,q5,q6,i0,i1,aB,aY,b10,g10,ej]
  exact ⟨by omega,rfl,kp,old,by rw [hnx]; exact (by simp only [go_sem, *] <;> rfl),us,w,f2,f10,by rw [hlo2]; exact hU2,(by simp only [go_sem, *] <;> rfl),by rw [hlo2,hus]; exact mine⟩
 rw [hu] at g10
 have hx:=qQC hc i2
 obtain ⟨o1,o22,hpa,hpb⟩:=oD hx
 have ham:=yJD o1 o22
 obtain ⟨bx,ox,cx,eax,hbx,dx1,dx2⟩:=dF.at (hp.exprs M2 old) i2
 have hxe:=List.getElem?_eq_getElem i2
 have hmark:=yWW hU (by omega) hxe hu hpa hpb
 generalize p.exprs[lo]=x at *
 simp only [go_sem,q4,q5,q6,i0,i1,aB,aY,b10,g10]
 intro rb uK lW
 have nb:M rb=none:=kp.free lW
 simp only [go_sem]
 refine kU (ys:=[(lo:Int)]) wJ kJ (by decide) (mine.fresh lW) (kp.new nb) ⟨rfl,.inr ⟨⟨rb,0,none⟩,1,rfl,.inr ⟨rb,0,_,rfl,wH,by rfl⟩⟩⟩ (by simp; have:=qGK us (lo+1); omega) ?_
 rintro w1 M3 fr fC o3 wKK
 have dA:=o3 (old.upd uK)
 have frb:∀r' y,M2 r'=some y->¬y.elem=(3:Nat)->M3 r'=some y:=fun r' y hy hne=>fr r' y (by rw [Hp.qK (qJ lW hy).1]; exact hy) hne
 have g2:=frb _ _ f2 (by decide:¬(43:Nat)=3)
 have h10:=frb _ _ f10 (by decide:¬(4:Nat)=3)
 obtain ⟨bx,ox,cx,eax,hbx,dx1,dx2⟩:=dF.at (hp.exprs M3 dA) i2
 have hxe2:=List.getElem?_eq_getElem i2
 rw [hxe] at hxe2
 injection hxe2 with hxe2
 rw [<-hxe2] at dx2
 have b2:=qG (F:=F) g2
 simp only [go_sem,q2,q6,b2,eax,i0,i3,aB,hbx,dx1,dx2]
 intro r7 wU qB
 have n7:M r7=none:=fC.free qB
 have d72:=(qJ qB g2).1
 have dJA:=(qJ qB h10).1
 simp only [setH,Hp.wZ,go_sem]
 generalize eQ:M3.upd r7 ⟨x.cs,119,5⟩=M4 at *
 obtain ⟨lY,iO,f7⟩:=nw eQ dA wU qB
 clear eQ
 have g2:=lY _ _ g2
 have h10:=lY _ _ h10
 have b7:=qG (F:=F) f7
 have qWY:yW 1 fV 3 F M M4 w1 ((dY us (lo+1)).reverse.map uY++[(lo:Int)]):=⟨wKK.own.keep lY,wKK.new⟩
 have jA:=fC.trans lY
 have dJB:¬r10=r7:=dJA
 have c10:=qG (F:=F) h10
 have e9:(dY us (lo+1)).reverse.map uY++[(lo:Int)]=(lo :: dY us (lo+1)).reverse.map uY:=by simp [uY]
 rw [e9,<-hmark.2] at qWY
 try simp only [go_sem,q1,q2,q4,q5,q6,b7]
 with_reducible refine qQ (k93 F M4 x.op) ?_
 rw [ham]
 have nM:∀{Ma:Hp} {l:List Bool} {y:nH} {v:List Nat},yW 1 fV 3 F M Ma w1 (v.map uY)->Ma r10=some ⟨l.map Value.bool,4,(e+1) * 1⟩->yW 1 fV 3 F M (Ma.upd r10 y) w1 (v.map uY):=fun hm h=>by
  refine ⟨?_,hm.new⟩
  rcases hm.own with h1 | ⟨g,cap,h1,h2,h3,h4⟩
  ·exact .inl h1
  ·have:¬g=r10:=by rintro rfl; rw [h] at h3; injection h3 with h3; injection h3 with _ h3 _; exact absurd h3 (by decide)
   exact .inr ⟨g,cap,h1,h2,by rw [Hp.qK this]; exact h3,h4⟩
 try simp only [go_sem]
 refine gJ (fun σ' F' M5=>F=F'/\Keep M M5/\Old F M5/\M5 r2=some ⟨p.cs,43,7⟩/\M5 r7=some ⟨x.cs,119,5⟩/\M5 r10=some ⟨(lT us (0 < bH x.op) x.a).map Value.bool,4,(e+1) * 1⟩/\yW 1 fV 3 F M M5 w1 ((dY (lT (lT us (0 < bH x.op) x.a) (1 < bH x.op) x.b) lo).reverse.map uY)) ?_ ?_
 ·by_cases h0:0 < bH x.op
  ·have h0':(1:Int)<=bH x.op:=by omega
   have ha:=hpa h0
   obtain ⟨j,hj⟩:=aG ha.1
   have j1:(j:Int) < ((e+1:Nat):Int):=by omega
   have j0:(0:Int)<=j:=by omega
   have hs:=qGH us j true (by omega)
   have hlc:j * 1+1<=(us.map Value.bool).length:=by rw [bJ]; omega
   have em:lT us (0 < bH x.op) x.a=us.set j true:=by unfold lT; rw [if_pos h0,hj,aB]
   simp only [setH,go_sem,q5,b7,h0',hj,j0,j1,aB,aY,h10,hlc,hs]
   rw [<-hj,em]
   exact At.mk ⟨rfl,jA.new n10,iO.upd qJG,by rw [Hp.qK d2]; exact g2,by rw [Hp.qK (fun h=>dJB h.symm)]; exact f7,Hp.qV _ _ _,by rw [<-em]; exact nM qWY h10⟩
  ·have h0':¬(1:Int)<=bH x.op:=by omega
   have em:lT us (0 < bH x.op) x.a=us:=by unfold lT; rw [if_neg h0]
   simp only [go_sem,h0']
   rw [em] at qWY ⊢
   exact At.mk ⟨rfl,jA,iO,g2,f7,h10,qWY⟩
 rintro σ2 F' M5 hst ⟨hG,eH,dB,g25,g75,vJH,mQ⟩
 subst hG
 have t1:=hst 1 rfl
 have t2:=hst 2 rfl
 have t4:=hst 4 rfl
 have t5:=hst 5 rfl
 have t6:=hst 6 rfl
 have t7:=hst 7 rfl
 simp only [go_sem,q1,q2,q5,q6] at t1 t2 t4 t5 t6 t7
 clear hst
 have b75:=qG (F:=F) g75
 simp only [go_sem,t7,b75]
 with_reducible refine qQ (k93 F M5 x.op) ?_
 rw [ham]
 have hl5:(lT us (0 < bH x.op) x.a).length=e+1:=by rw [wWC,hul]
 generalize lT us (0 < bH x.op) x.a=us1 at *
 by_cases h1:1 < bH x.op
 ·have h1':bH x.op=2:=vJV h1
  have hb:=hpb h1
  obtain ⟨j,hj⟩:=aG hb.1
  have j1:(j:Int) < ((e+1:Nat):Int):=by omega
  have j0:(0:Int)<=j:=by omega
  have hs:=qGH us1 j true (by omega)
  have hlc:j * 1+1<=(us1.map Value.bool).length:=by rw [bJ]; omega
  have em:lT us1 (1 < bH x.op) x.b=us1.set j true:=by unfold lT; rw [if_pos h1,hj,aB]
  simp only [setH,go_sem,t5,t6,t7,b75,h1',hj,j0,j1,aB,aY,vJH,hlc,hs,ej]
  refine ⟨by omega,rfl,eH.new n10,dB.upd qJG,by rw [hnx]; exact (by simp only [go_sem, *] <;> rfl),lT us1 (1 < bH x.op) x.b,w1,by rw [Hp.qK d2]; exact g25,by rw [em]; exact Hp.qV _ _ _,by rw [hlo2]; exact hmark.1,(by simp only [go_sem, *] <;> rfl),by rw [hlo2]; exact nM mQ vJH⟩
 ·have h1':¬bH x.op=2:=by omega
  have em:lT us1 (1 < bH x.op) x.b=us1:=by unfold lT; rw [if_neg h1]
  rw [em] at hmark mQ
  simp only [go_sem,t6,h1',ej]
  exact ⟨by omega,rfl,eH,dB,by rw [hnx]; exact (by simp only [go_sem, *] <;> rfl),us1,w1,g25,vJH,by rw [hlo2]; exact hmark.1,(by simp only [go_sem, *] <;> rfl),by rw [hlo2]; exact mQ⟩
theorem jDA {F:Fz}{M:Hp}{a:Option Addr}{c:Nat}{l:List kF}(h:dF 5 kF.cs F M (.slice a l.length c) l){i:Int}{f:kF}(h0:0<=i)(hf:l[i.toNat]? = some f) :
  ∃b o cs,a=some ⟨b,o,none⟩/\blk F M b=some cs/\∃j:Nat,i=j/\(0:Int)<=j/\(j:Int) < l.length/\o+j * 5+5<=cs.length/\(cs.drop (o+j * 5)).take 5=f.cs/\cs[o+j * 5+4]? = some (.int .i64 f.w):=by
 obtain ⟨j,rfl⟩:=aG h0;rw [aB] at hf;obtain ⟨hj,rfl⟩:=List.getElem?_eq_some_iff.1 hf;obtain ⟨b,o,cs,e1,e2,d1,d2⟩:=dF.at h hj;obtain ⟨d3,_⟩:=kF.row d1 d2;exact ⟨b,o,cs,e1,e2,j,rfl,by omega,by omega,d1,d2,d3⟩
theorem dJC (r t n:Nat)(v:Mc)(x:Xp)(fa fb:kF)(i:Nat)(hM:M r=some ⟨v.cs,t,n⟩)(hp:v.p.rd F)(h:dF 2 Bl.cs F M (.slice v.a v.m.length v.c) v.m)(hr:∀y∈v.m,y.rd F M)(hl:dF 5 kF.cs F M (.slice v.lA v.l.length v.lC) v.l)(hold:Old F M)(hc:wY v.p=true)(hfm:iP v.p v.m)(hx:iV v.p.vars.length v.p.exprs i x=true)
  (hi:i<=v.p.exprs.length)(ha:0 < bH x.op->v.l[x.a.toNat]? = some fa/\(fa.w=0->GoodS v.p (bF v.p.exprs x.a) fa.s))(hb:1 < bH x.op->v.l[x.b.toNat]? = some fb/\(fb.w=0->GoodS v.p (bF v.p.exprs x.b) fb.s)) :
  aI prog 179 [.pointer (some ⟨r,0,none⟩),x.val] F M (Same F M (exF v.p v.m x fa fb).val):=by
 refine qZ hm func179 kKD (aA rfl) ?_;obtain ⟨o1,o22,hpa,hpb⟩:=oD hx;simp only [zWC,go_sem];intro r3 hF3 dN;generalize eQ:M.upd r3 ⟨x.cs,119,5⟩=M1 at *;obtain ⟨fC,dA,f3⟩:=nw eQ hold hF3 dN;clear eQ;simp only [go_sem];intro r4 mW jP;have n4:M r4=none:=fC.free jP;generalize eQ:M1.upd r4 ⟨[.bool false,.int .i64 0,.int .i64 0,.int .i64 0,.int .i64 0],223,5⟩=M2 at *;obtain ⟨jA,fP,f4⟩:=nw eQ dA mW jP;clear eQ;have kp:=fC.trans jA;have hM2:=kp _ _ hM;have br:=qG (F:=F) hM2;have b3:=qG (F:=F) (jA _ _ f3);have h2:=h.keep kp fP;have hl2:=hl.keep kp fP;have hr2:∀y∈v.m,y.rd F M2:=fun y hy=>dF.keep (hr y hy) kp fP
 clear fC jA dA f3 dN jP;have fin:∀(y:kF),lK F (M2.upd r4 ⟨y.cs,223,5⟩) (Same F M y.val) y.val:=fun y=>qX (kp.new n4) ⟨rfl,rfl,rfl⟩
 by_cases e1:x.op=1
 ·have e:exF v.p v.m x fa fb=⟨⟨decide (x.kind=7),x.n,0,0⟩,0⟩:=by unfold exF; rw [if_pos e1]
  rw [e];simp only [setH,go_sem,b3,e1,f4];exact fin ⟨⟨decide (x.kind=7),x.n,0,0⟩,0⟩
 by_cases e2:x.op=2
 ·have e:exF v.p v.m x fa fb=⟨⟨true,0,x.n,0⟩,0⟩:=by unfold exF; rw [if_neg e1,if_pos e2]
  rw [e];simp only [setH,go_sem,b3,e2,f4];exact fin ⟨⟨true,0,x.n,0⟩,0⟩
 have mo:0 < bH x.op:=by
  unfold bH; rw [if_neg (by omega)]; split <;> omega
 obtain ⟨ga,gs⟩:=ha mo;have hpa:=hpa mo;obtain ⟨bb,oo,cs,ela,hbk,j,hj,j0,j1,d1,d2,d3⟩:=jDA hl2 hpa.1 ga;by_cases hw:fa.w=0;rotate_left
 ·have e:exF v.p v.m x fa fb=fa:=by unfold exF; rw [if_neg e1,if_neg e2,if_pos hw]
  rw [e];simp only [setH,go_sem,br,b3,e1,e2,ela,hbk,hj,j0,j1,aB,aY,d1,d2,d3,hw,f4];exact fin fa
 have gs:=gs hw;by_cases h7:x.op<=7
 ·have e:exF v.p v.m x fa fb=qGJ v.p v.m x fa.s:=by unfold exF; rw [if_neg e1,if_neg e2,if_neg (fun h=>h hw),if_pos h7]
  rw [e];have ko:=dJK F M2 r t n v x fa i hM2 hp h2 hr2 fP hc hfm hx hi (by omega) h7 gs;simp only [go_sem,br,b3,e1,e2,ela,hbk,hj,j0,j1,aB,aY,d1,d2,d3,hw,h7];with_reducible refine qQ ko ?_;simp only [setH,go_sem,f4];exact fin _
 obtain ⟨mn,_⟩:=qJB hx (by omega);obtain ⟨gb,gt⟩:=hb (by omega);have hpb:=hpb (by omega);obtain ⟨bb',oo',cs',xGZ,hbk',k,hk,k0,k1,d1',d2',d3'⟩:=jDA hl2 hpb.1 gb;rw [ela] at xGZ;injection xGZ with xGZ
 injection xGZ with q1 q2
 subst q1 q2;rw [hbk] at hbk';injection hbk' with hbk'
 subst hbk';by_cases hw2:fb.w=0;rotate_left
 ·have e:exF v.p v.m x fa fb=fb:=by unfold exF; rw [if_neg e1,if_neg e2,if_neg (fun h=>h hw),if_neg h7,if_pos hw2]
  rw [e];simp only [setH,go_sem,br,b3,e1,e2,ela,hbk,hj,hk,j0,j1,k0,k1,aB,aY,d3,d1',d2',d3',hw,hw2,h7,f4];exact fin fb
 have gt:=gt hw2;have e:exF v.p v.m x fa fb=qGG v.p v.m x fa.s fb.s:=by unfold exF; rw [if_neg e1,if_neg e2,if_neg (fun h=>h hw),if_neg h7,if_neg (fun h=>h hw2)]
 rw [e];have ko:=dJJ F M2 r t n v x fa fb i hM2 hp h2 fP hc hfm hx hi (by omega) gs gt;simp only [go_sem,br,b3,e1,e2,ela,hbk,hj,hk,j0,j1,k0,k1,aB,aY,d1,d2,d3,d1',d2',d3',hw,hw2,h7];with_reducible refine qQ ko ?_;simp only [setH,go_sem,f4];exact fin _
theorem gZA (p:Pg)(a lA:Option Addr)(c lC:Nat)(m:List Bl)(l l':List kF)(h:l'.length=l.length):(Mc.mk p a c m lA lC l').cs=(Mc.mk p a c m lA lC l).cs:=by
 unfold Mc.cs;show p.cs++[.slice a m.length c,.slice lA l'.length lC]=p.cs++[.slice a m.length c,.slice lA l.length lC];rw [h]
def dJE (p:Pg)(m:List Bl)(a:Option Addr)(c:Nat)(e:Nat)(us:List Bool)(r3 r6 r16 r18:Nat)(F0:Fz)(N:Hp)(k:Nat)(σ:Env)(F:Fz)(M:Hp):Prop:=
 F0=F/\Keep N M/\Old F0 M/\Ax.look σ 23=some (.int .i64 k)/\M r3=some ⟨p.cs,43,7⟩/\M r6=some ⟨[.bool false,.int .i64 0,.int .i64 0,.int .i64 0],90,4⟩/\
  ∃fs:List kF,fs.length=e+1/\M r16=some ⟨fs.flatMap kF.cs,223,(e+1) * 5⟩/\M r18=some ⟨(Mc.mk p a c m (some ⟨r16,0,none⟩) (e+1) fs).cs,220,9⟩/\∀i (hi:i < (dY us 0).length),i < k->fs[(dY us 0)[i]]? = some (uP (lJ p m ((dY us 0)[i]:Int)))
theorem gZB (p:Pg)(a:Option Addr)(c:Nat)(m:List Bl)(e:Nat)(hp:p.rd F)(h:dF 2 Bl.cs F M (.slice a m.length c) m)(hr:∀y∈m,y.rd F M)(hold:Old F M)(hc:wY p=true)(hfm:iP p m)(he:e < p.exprs.length) :
  aI prog 144 [p.val,.slice a m.length c,.int .i64 e] F M (Same F M (.tuple #[(lJ p m e).1.val,.int .i64 (lJ p m e).2])):=by
 refine qZ hm func144 kZZ (aA rfl) ?_
 have few:=hp.few
 have xHD:=yQJ hc
 have ee:i64.wrap ((e:Int)+1)=((e+1:Nat):Int):=by rw [dQ (by omega) (by omega)]; omega
 simp only [zQC,go_sem]
 intro r3 hF3 dN
 have n3:M r3=none:=dN
 generalize eQ:M.upd r3 ⟨p.cs,43,7⟩=M1 at *
 obtain ⟨fC,dA,f3⟩:=nw eQ hold hF3 dN
 clear eQ
 simp only [go_sem]
 intro r6 vI oI
 have n6:M r6=none:=fC.free oI
 generalize eQ:M1.upd r6 ⟨[.bool false,.int .i64 0,.int .i64 0,.int .i64 0],90,4⟩=M2 at *
 obtain ⟨iZ,eG,f6⟩:=nw eQ dA vI oI
 clear eQ
 have kp:=fC.trans iZ
 have f32:=iZ _ _ f3
 have b3:=qG (F:=F) f32
 simp only [go_sem,ee,b3]
 refine rY (aN _) (by simp only [maxLen]; omega) (by omega) ?_
 intro r16 qKG qQQ
 have n16:M r16=none:=kp.free qQQ
 have hrep:(List.replicate (e+1) [Value.bool false,.int .i64 0,.int .i64 0,.int .i64 0,.int .i64 0]).flatten=(List.replicate (e+1) (uP (z0,0))).flatMap kF.cs:=qC (f:=kF.cs) (uP (z0,0)) (e+1)
 rw [hrep]
 generalize hfs:List.replicate (e+1) (uP (z0,0))=fs0
 have hfl:fs0.length=e+1:=by rw [<-hfs,bD]
 generalize eQ:M2.upd r16 ⟨fs0.flatMap kF.cs,223,(e+1) * 5⟩=M3 at *
 obtain ⟨uG,qE,f16⟩:=nw eQ eG qKG qQQ
 clear eQ
 have eM:p.cs++[Value.slice a m.length c,Value.slice (some ⟨r16,0,none⟩) (e+1) (e+1)]=(Mc.mk p a c m (some ⟨r16,0,none⟩) (e+1) fs0).cs:=by
  show _=p.cs++[.slice a m.length c,.slice (some ⟨r16,0,none⟩) fs0.length (e+1)]
  rw [hfl]
 simp only [go_sem,eM]
 intro r18 dJF vJD
 have n18:M r18=none:=(kp.trans uG).free vJD
 generalize eQ:M3.upd r18 ⟨(Mc.mk p a c m (some ⟨r16,0,none⟩) (e+1) fs0).cs,220,9⟩=M4 at *
 obtain ⟨jDB,xDE,f18⟩:=nw eQ qE dJF vJD
 clear eQ
 have kpA:=(kp.trans uG).trans jDB
 have f3:=jDB _ _ (uG _ _ f32)
 have f6:=jDB _ _ (uG _ _ f6)
 have f16:=jDB _ _ f16
 have ku:=aI.part kpA xDE (dJY F M p e hp hold hc he)
 have b3:=qG (F:=F) f3
 simp only [go_sem,b3]
 with_reducible refine wW ku ?_
 rintro u F' M5 ⟨hG,eH,dB,N,kN,oN,kNM,hNn,us,la,lc,hU,rfl,rdU⟩
 replace hG:=hG.symm
 subst hG
 refine ⟨(fun h=>by cases h),?_⟩
 have N3:N r3=none:=hNn r3 (by rw [f3]; simp) n3
 have N6:N r6=none:=hNn r6 (by rw [f6]; simp) n6
 have N16:N r16=none:=hNn r16 (by rw [f16]; simp) n16
 have N18:N r18=none:=hNn r18 (by rw [f18]; simp) n18
 have g3:=eH _ _ f3
 have g6:=eH _ _ f6
 have g16:=eH _ _ f16
 have g18:=eH _ _ f18
 have dGQ:¬r3=r16:=by rintro rfl; rw [f3] at f16; injection f16 with h; injection h with _ h _; exact absurd h (by decide)
 have gZC:¬r6=r16:=by rintro rfl; rw [f6] at f16; injection f16 with h; injection h with _ h _; exact absurd h (by decide)
 have gZE:¬r18=r16:=by rintro rfl; rw [f18] at f16; injection f16 with h; injection h with _ h _; exact absurd h (by decide)
 clear f3 f6 f16 f18 f32 b3 kp fC iZ uG jDB kpA dA eG qE xDE dN oI qQQ vJD ku eM hrep
 have hul:=hU.len
 have hlen:((dY us 0).map uY).length=(dY us 0).length:=bJ _
 have hll:=qGK us 0
 simp only [go_sem]
 refine wV (dY us 0).length (dJE p m a c e us r3 r6 r16 r18 F N) ⟨rfl,kNM,dB,(by simp only [go_sem, *] <;> rfl),g3,g6,fs0,hfl,g16,g18,fun i _ h=>by omega⟩ ?_
 clear g3 g6 g16 g18 hfs hfl
 rintro k σ F' M6 hk hst ⟨rfl,kpN,eG,q23,g3,g6,fs,hfl,g16,g18,hev⟩
 have q2:=hst 2 rfl
 have q3:=hst 3 rfl
 have q6:=hst 6 rfl
 have q8:=hst 8 rfl
 have q21:=hst 21 rfl
 have q22:=hst 22 rfl
 simp only [go_sem] at q2 q3 q6 q8 q21 q22
 clear hst
 rw [hlen] at q22
 have b18:=qG (F:=F) g18
 have b16:=qG (F:=F) g16
 by_cases hkl:(k:Int) < (dY us 0).length
 rotate_left
 ·obtain ⟨i,hi,hie⟩:=bZ (wWA hul hU.top)
  have hfe:=hev i hi (by omega)
  rw [hie] at hfe
  obtain ⟨he1,hfe⟩:=List.getElem?_eq_some_iff.1 hfe
  have d1:=lF (f:=kF.cs) (sz:=5) kF.len fs e he1
  rw [hfe] at d1
  have d0:e * 5+5<=(fs.flatMap kF.cs).length:=by rw [yG kF.len]; omega
  obtain ⟨d3,d4,_⟩:=kF.row d0 d1
  have d5:e * 5+4<=(fs.flatMap kF.cs).length:=by omega
  have d7:((fs.flatMap kF.cs).drop (e * 5)).take 4=(uP (lJ p m (e:Int))).s.cs:=by
   have:((fs.flatMap kF.cs).drop (e * 5)).take 4=(((fs.flatMap kF.cs).drop (e * 5)).take 5).take 4:=by rw [List.take_take]; rfl
   rw [this,d1]; rfl
  have e0:(0:Int)<=e:=by omega
  have e1:(e:Int) < fs.length:=by omega
  have d66:¬r16=r6:=fun h=>gZC h.symm
  have vJY:¬r18=r6:=by rintro rfl; rw [g6] at g18; injection g18 with h; injection h with _ h _; exact absurd h (by decide)
  have d68:¬r6=r18:=fun h=>vJY h.symm
  have c16:∀y,blk F (M6.upd r6 y) r16=some (fs.flatMap kF.cs):=fun y=>by rw [iG d66]; exact b16
  have c18:∀y,blk F (M6.upd r6 y) r18=some (Mc.mk p a c m (some ⟨r16,0,none⟩) (e+1) fs).cs:=fun y=>by rw [iG vJY]; exact b18
  simp only [setH,go_sem,q2,q6,q8,q22,q23,hkl,b18,e0,e1,aB,aY,aK,b16,d3,d5,d7,g6,d66,vJY]
  exact qX ((kN.trans kpN).new n6) ⟨rfl,rfl,rfl⟩
 have hk1:k < (dY us 0).length:=by omega
 have hjm:=qGZ.1 (aH hk1)
 have hset:∀j (y:kF),(dY us 0)[k]=j->fs.length=e+1->y=uP (lJ p m (j:Int))->∀i (hi:i < (dY us 0).length),i < k+1->(fs.set j y)[(dY us 0)[i]]? = some (uP (lJ p m ((dY us 0)[i]:Int))):=fun j y hj hl hy i hi hik=>by
  rw [List.getElem?_set]
  by_cases c:j=(dY us 0)[i]
  ·rw [if_pos c,<-c,if_pos (by rw [hl]; rw [<-hj]; omega),hy]
  ·rw [if_neg c]
   have:¬i=k:=by rintro rfl; exact c hj.symm
   exact hev i hi (by omega)
 have hpre:∀j,j < (dY us 0)[k]->uAt us j=true->fs[j]? = some (uP (lJ p m (j:Int))):=fun j hj hu=>by
  obtain ⟨i,hi,hik,e⟩:=jWE hk1 hj hu (by omega)
  have:=hev i hi hik
  rw [e] at this; exact this
 have hk2:k < ((dY us 0).map uY).length:=by rw [hlen]; exact hk1
 obtain ⟨nb,no,ncs,hna,hnb,nd⟩:=Ax.gW (rdU.keep kpN eG) hk2
 have hnj:((dY us 0).map uY)[k]=(((dY us 0)[k]:Nat):Int):=by rw [List.getElem_map]; rfl
 rw [hnj] at nd
 generalize (dY us 0)[k]=j at *
 have hje:j<=e:=by omega
 have hjp:j < p.exprs.length:=by omega
 have hx:=qQC hc hjp
 obtain ⟨o1,o22,hpa,hpb⟩:=oD hx
 have hev1:=wQE (m:=m) (List.getElem?_eq_getElem hjp) hpa hpb
 have hA:0 < bH (p.exprs[j]).op->fs[(p.exprs[j]).a.toNat]? = some (uP (lJ p m (p.exprs[j]).a))/\vS p (bF p.exprs (p.exprs[j]).a) (lJ p m (p.exprs[j]).a):=fun h0=>by
  have h1:=hpa h0
  obtain ⟨i,hi⟩:=aG h1.1
  have h2:=hU.one j hjp (Nat.zero_le _) hje hjm.2 h0
  rw [hi] at h2 ⊢
  rw [aB] at h2 ⊢
  exact ⟨hpre i (by omega) h2,wL hc hfm p.exprs.length i (by omega) (by omega)⟩
 have hB:1 < bH (p.exprs[j]).op->fs[(p.exprs[j]).b.toNat]? = some (uP (lJ p m (p.exprs[j]).b))/\vS p (bF p.exprs (p.exprs[j]).b) (lJ p m (p.exprs[j]).b):=fun h0=>by
  have h1:=hpb h0
  obtain ⟨i,hi⟩:=aG h1.1
  have h2:=hU.two j hjp (Nat.zero_le _) hje hjm.2 h0
  rw [hi] at h2 ⊢
  rw [aB] at h2 ⊢
  exact ⟨hpre i (by omega) h2,wL hc hfm p.exprs.length i (by omega) (by omega)⟩
 obtain ⟨bx,ox,cx,eax,hbx,dx1,dx2⟩:=dF.at (hp.exprs M6 eG) hjp
 generalize p.exprs[j]=x at *
 have gv:∀{k:Int} {r:Sc × Int},vS p k r->(uP r).w=0->GoodS p k (uP r).s:=fun h h0=>by
  rcases h with ⟨_,h⟩ | ⟨h,_⟩
  ·exact h
  ·have:_=(0:Int):=h0
   simp only [uP] at this
   omega
 have gZF:=xJF hc hfm hx (fa:=uP (lJ p m x.a)) (fb:=uP (lJ p m x.b)) (ra:=if 0 < bH x.op then lJ p m x.a else (z0,0)) (rb:=if 1 < bH x.op then lJ p m x.b else (z0,0)) (fun h=>by rw [if_pos h]; exact ⟨(hA h).2,rfl⟩) (fun h=>by rw [if_pos h]; exact ⟨(hB h).2,rfl⟩)
 rw [<-hev1] at gZF
 have dGW:gQ 5 kF.cs 223 F M6 (.slice (some ⟨r16,0,none⟩) fs.length (e+1)) fs:=.inr ⟨r16,e+1,rfl,qKG,g16,by omega,by simp only [maxLen]; omega⟩
 have ke:=dJC F M6 r18 220 9 (Mc.mk p a c m (some ⟨r16,0,none⟩) (e+1) fs) x (uP (lJ p m x.a)) (uP (lJ p m x.b)) j g18 hp (h.keep (kN.trans kpN) eG) (fun y hy=>dF.keep (hr y hy) (kN.trans kpN) eG) (dGW.rd kF.len (by show fs.length<=_; omega)) eG hc hfm hx (by show j<=p.exprs.length; omega) (fun h=>⟨(hA h).1,gv (hA h).2⟩) (fun h=>⟨(hB h).1,gv (hB h).2⟩)
 have b3:=qG (F:=F) g3
 have k0:(0:Int)<=k:=by omega
 have k2:(k:Int) < ((dY us 0).map uY).length:=by omega
 have j0:(0:Int)<=j:=by omega
 have j1:(j:Int) < p.exprs.length:=by omega
 have j2:(j:Int) < fs.length:=by omega
 have ek:i64.wrap ((k:Int)+1)=k+1:=dQ (by omega) (by omega)
 subst hna
 simp only [go_sem,q3,q8,q21,q22,q23,hkl,k0,k2,aB,hnb,nd,b3,eax,j0,j1,hbx,dx1,dx2]
 with_reducible refine qQ ke ?_
 generalize exF p m x (uP (lJ p m x.a)) (uP (lJ p m x.b))=y at *
 clear ke hA hB hev1 hx
 simp only [go_sem]
 intro r11 wQD vZ
 have N11:N r11=none:=kpN.free vZ
 have d3:=(qJ vZ g3).1
 have d6:=(qJ vZ g6).1
 have d16:=(qJ vZ g16).1
 have d18:=(qJ vZ g18).1
 have d16':¬r11=r16:=fun h=>d16 h.symm
 have hz:List.take 0 y.cs++z0.cs++List.drop 4 y.cs=(⟨z0,y.w⟩:kF).cs:=rfl
 have hz2:[Value.bool false,.int .i64 0,.int .i64 0,.int .i64 0]++List.drop 4 y.cs=(⟨z0,y.w⟩:kF).cs:=rfl
 simp only [setH,Hp.wZ,go_sem]
 refine gJ (fun σ' F' M7=>F=F'/\M7=M6.upd r11 ⟨(qWE y).cs,223,5⟩) ?_ ?_
 ·unfold qWE
  by_cases hw:y.w=0
  ·rw [if_pos hw]
   simp only [go_sem,hw]
   exact At.mk ⟨rfl,rfl⟩
  ·rw [if_neg hw]
   simp only [setH,Hp.wZ,go_sem,hw]
   exact At.mk ⟨rfl,rfl⟩
 rintro σ2 F' M7 hst ⟨hG,rfl⟩
 subst hG
 have t8:=hst 8 rfl
 have t10:=hst 10 rfl
 have t11:=hst 11 rfl
 have t23:=hst 23 rfl
 simp only [go_sem,q8,q23] at t8 t10 t11 t23
 clear hst
 rw [gZF]
 have c18:∀w,blk F (M6.upd r11 w) r18=some (Mc.mk p a c m (some ⟨r16,0,none⟩) (e+1) fs).cs:=fun w=>by rw [iG d18]; exact b18
 have c16:∀w,(M6.upd r11 w) r16=some ⟨fs.flatMap kF.cs,223,(e+1) * 5⟩:=fun w=>by rw [Hp.qK d16]; exact g16
 have w0:j * 5+5<=(fs.flatMap kF.cs).length:=by rw [yG kF.len]; omega
 have w1:=iC (f:=kF.cs) (sz:=5) kF.len (uP (lJ p m (j:Int))) fs j (by omega)
 have hset:=hset j (uP (lJ p m (j:Int))) rfl hfl rfl
 have gKQ:(fs.set j (uP (lJ p m (j:Int)))).length=e+1:=by rw [aZ]; exact hfl
 have hmc:=gZA p a (some ⟨r16,0,none⟩) c (e+1) m fs (fs.set j (uP (lJ p m (j:Int)))) (by rw [hfl,gKQ])
 generalize uP (lJ p m (j:Int))=z at *
 simp only [setH,go_sem,t8,t10,t11,t23,c18,j0,j2,aB,aY,c16,w0,w1,ek]
 refine ⟨hk1,rfl,(kpN.new N11).new N16,(eG.upd wQD).upd qKG,(by simp only [go_sem, *] <;> rfl),by rw [Hp.qK dGQ,Hp.qK d3]; exact g3,by rw [Hp.qK gZC,Hp.qK d6]; exact g6,fs.set j z,gKQ,Hp.qV _ _ _,by rw [hmc,Hp.qK gZE,Hp.qK d18]; exact g18,hset⟩
theorem gKW (u:Value)(l:List Int)(h:dF 1 fV F M u l)(hold:Old F M)(hl:l.length<=100000) :
  aI prog 110 [u] F M (tK 1 fV 3 l F M):=by
 refine qZ hm func110 kWF (aA rfl) ?_;have h':=h;obtain ⟨_,ad,cap,_,rfl,hrd⟩:=h;cases ad with
 | none=>
  have:l=[]:=by
   rcases hrd with h | ⟨b,o,cs,h,_⟩
   ·exact h
   ·cases h
  subst this;simp only [vQK,go_sem,Option.isNone_none];exact qW ⟨rfl,.inl ⟨rfl,rfl,rfl⟩⟩
 | some ad=>
  simp only [vQK,go_sem,Option.isNone_some];intro rb uK lW;simp only [go_sem];have oV:Keep M (M.upd rb ⟨[],3,0⟩):=(Keep.refl M).new lW;have qWC:yW 1 fV 3 F M (M.upd rb ⟨[],3,0⟩) (.slice (some ⟨rb,0,none⟩) ([]:List Int).length 0) []:=
   ⟨.inr ⟨rb,0,rfl,uK,Hp.qV _ _ _,by simp,by decide⟩,fun g n c h=>by cases h; exact lW⟩
  refine kU (xs:=[]) (ys:=l) (fun x=>rfl) kJ (by decide) qWC oV (dF.src (fun x=>rfl) (h'.keep oV (hold.upd uK)) (fun h=>by cases h)) (by simp; omega) ?_;rintro v' M5 hfr eH ho5 mQ;rw [List.nil_append] at mQ;simp only [go_sem];exact mQ.done eH
theorem dGX (u:Value)(l:List Bl)(h:dF 2 Bl.cs F M u l)(hold:Old F M)(hl:l.length<=100000) :
  aI prog 176 [u] F M (tK 2 Bl.cs 86 l F M):=by
 refine qZ hm func176 kKG (aA rfl) ?_;have h':=h;obtain ⟨_,ad,cap,_,rfl,hrd⟩:=h;cases ad with
 | none=>
  have:l=[]:=by
   rcases hrd with h | ⟨b,o,cs,h,_⟩
   ·exact h
   ·cases h
  subst this;simp only [vQD,go_sem,Option.isNone_none];exact qW ⟨rfl,.inl ⟨rfl,rfl,rfl⟩⟩
 | some ad=>
  simp only [vQD,go_sem,Option.isNone_some];intro rb uK lW;simp only [go_sem];have oV:Keep M (M.upd rb ⟨[],86,0⟩):=(Keep.refl M).new lW;have qWC:yW 2 Bl.cs 86 F M (M.upd rb ⟨[],86,0⟩) (.slice (some ⟨rb,0,none⟩) ([]:List Bl).length 0) []:=
   ⟨.inr ⟨rb,0,rfl,uK,Hp.qV _ _ _,by simp,by decide⟩,fun g n c h=>by cases h; exact lW⟩
  refine kU (xs:=[]) (ys:=l) (fun x=>rfl) Bl.plain (by decide) qWC oV (dF.src (fun x=>rfl) (h'.keep oV (hold.upd uK)) (fun h=>by cases h)) (by simp; omega) ?_;rintro v' M5 hfr eH ho5 mQ;rw [List.nil_append] at mQ;simp only [go_sem];exact mQ.done eH
theorem dGZ (u:Value)(l:List By)(h:dF 5 By.cs F M u l)(hold:Old F M)(hl:l.length<=100000) :
  aI prog 177 [u] F M (tK 5 By.cs 88 l F M):=by
 refine qZ hm func177 kKV (aA rfl) ?_;have h':=h;obtain ⟨_,ad,cap,_,rfl,hrd⟩:=h;cases ad with
 | none=>
  have:l=[]:=by
   rcases hrd with h | ⟨b,o,cs,h,_⟩
   ·exact h
   ·cases h
  subst this;simp only [vQY,go_sem,Option.isNone_none];exact qW ⟨rfl,.inl ⟨rfl,rfl,rfl⟩⟩
 | some ad=>
  simp only [vQY,go_sem,Option.isNone_some];intro rb uK lW;simp only [go_sem];have oV:Keep M (M.upd rb ⟨[],88,0⟩):=(Keep.refl M).new lW;have qWC:yW 5 By.cs 88 F M (M.upd rb ⟨[],88,0⟩) (.slice (some ⟨rb,0,none⟩) ([]:List By).length 0) []:=
   ⟨.inr ⟨rb,0,rfl,uK,Hp.qV _ _ _,by simp,by decide⟩,fun g n c h=>by cases h; exact lW⟩
  refine kU (xs:=[]) (ys:=l) (fun x=>rfl) By.plain (by decide) qWC oV (dF.src (fun x=>rfl) (h'.keep oV (hold.upd uK)) (fun h=>by cases h)) (by simp; omega) ?_;rintro v' M5 hfr eH ho5 mQ;rw [List.nil_append] at mQ;simp only [go_sem];exact mQ.done eH
theorem vJA {L:List Bl}{i:Nat}(hi:i < L.length){y:Bl}(hy:L[i]=y)(a:Option Addr)(n c:Nat)(l:List By)(hn:n=l.length):(L.flatMap Bl.cs).take (i * 2+1)++[Value.slice a n c]++(L.flatMap Bl.cs).drop (i * 2+1+1)=(L.set i ⟨y.st,a,c,l⟩).flatMap Bl.cs:=by
 subst hn;have h1:=iC (f:=Bl.cs) (sz:=2) Bl.len ⟨y.st,a,c,l⟩ L i hi;have h2:=lF (f:=Bl.cs) (sz:=2) Bl.len L i hi;rw [hy] at h2;obtain ⟨h3,_⟩:=Bl.row h2;rw [<-h1,List.take_add_one,h3];simp [Bl.cs]
def dGK (l:List Bl)(v:Value)(F0:Fz)(M0:Hp)(i:Nat)(σ:Env)(F:Fz)(M:Hp):Prop:=
 F0=F/\Keep M0 M/\Old F0 M/\Ax.look σ 8=some (.int .i64 i)/\∃l':List Bl,yW 2 Bl.cs 86 F0 M0 M v (l'++l.drop i)/\l'.map zZ=(l.take i).map zZ/\(∀x∈l',yW 5 By.cs 88 F0 M0 M (.slice x.lA x.l.length x.lC) x.l)/\l'.Pairwise qWZ
theorem dGJ (a:Option Addr)(c:Nat)(l:List Bl)(h:dF 2 Bl.cs F M (.slice a l.length c) l)(hr:∀x∈l,dF 5 By.cs F M (.slice x.lA x.l.length x.lC) x.l)(hold:Old F M)(hl:l.length<=100000)(hp:∀x∈l,x.l.length<=100000) :
  aI prog 143 [.slice a l.length c] F M (wKJ l F M):=by
 refine qZ hm func143 e143 (aA rfl) ?_
 have kc:=dGX F M _ l h hold hl
 simp only [c143,go_sem]
 with_reducible refine wW kc ?_
 rintro v F' M1 hq
 have tZ:=hq.mine (Keep.refl M)
 obtain ⟨hG,le,oV,oq,a1,c1,hv,rdq⟩:=hq.le Bl.len (by omega)
 have kY:=oq hold
 replace hG:=hG.symm
 subst hG
 subst hv
 refine ⟨(fun h=>by cases h),?_⟩
 clear hq kc oq le rdq
 simp only [go_sem]
 refine wV l.length (dGK l (.slice a1 l.length c1) F M) ⟨rfl,oV,kY,(by simp only [go_sem, *] <;> rfl),[],tZ,rfl,(fun x hx=>by cases hx),List.Pairwise.nil⟩ ?_
 clear tZ
 rintro i σ F' M2 hi hst ⟨rfl,kp,old,q8,l',mine,hpc,hown,hds⟩
 have q0:=hst 0 rfl
 have q7:=hst 7 rfl
 simp only [go_sem] at q0 q7
 clear hst
 have hll:l'.length=i:=by have:=congrArg List.length hpc; simp at this; omega
 by_cases hil:(i:Int) < l.length
 rotate_left
 ·have hin:i=l.length:=by omega
  rw [dL (by omega),fA] at mine
  rw [aJ (by omega)] at hpc
  have e:l.length=l'.length:=by omega
  simp only [go_sem,q0,q7,q8,hil]
  refine qW ⟨rfl,kp,old,a1,c1,l',by rw [e],hpc,⟨by rw [<-e]; exact mine.own,fun x hx=>(hown x hx).own,hds⟩,mine.new,fun x hx g e=>(hown x hx).new g _ _ (by rw [e])⟩
 have hi0:(0:Int)<=i:=by omega
 have hi1:i < l.length:=by omega
 have ei:i64.wrap ((i:Int)+1)=i+1:=dQ (by omega) (by omega)
 have hLl:(l'++l.drop i).length=l.length:=by rw [aO,List.length_drop]; omega
 have hLi:(l'++l.drop i)[i]'(by omega)=l[i]:=by
  rw [List.getElem_append_right (by omega),List.getElem_drop]
  congr 1; omega
 rcases mine.own with ⟨_,h2⟩ | ⟨g,cap,h1,h2,h3,h4⟩
 ·rw [h2] at hLl; simp at hLl; omega
 have hgn:=mine.new g _ _ h1
 injection h1 with h1 h1n h1c
 subst h1 h1c
 have b1:=qG (F:=F) h3
 have d1:=lF (f:=Bl.cs) (sz:=2) Bl.len (l'++l.drop i) i (by omega)
 have w2:i * 2+1+1<=((l'++l.drop i).flatMap Bl.cs).length:=by rw [yG Bl.len]; omega
 have hs:=fun a' n c' l'' hn=>vJA (L:=l'++l.drop i) (i:=i) (by omega) hLi a' n c' l'' hn
 have hdrop:∀z:Bl,(l'++l.drop i).set i z=(l'++[z])++l.drop (i+1):=fun z=>by
  rw [List.set_append,if_neg (by omega),hll,fM,dH hi1,List.set_cons_zero,fG]
  rfl
 rw [hLi] at d1
 have t1:=aF hi1
 have hx:=hr _ (aH hi1)
 have hxl:=hp _ (aH hi1)
 clear hLi
 generalize l[i]=x at *
 obtain ⟨d2,d3⟩:=Bl.row d1
 have kb:=dGZ F M2 _ x.l (hx.keep kp old) old hxl
 simp only [go_sem,q0,q7,q8,hil,hi0,aB,aY,b1,d3]
 with_reducible refine wW kb ?_
 rintro u F' M3 hq
 have jDC:=hq.mine (Keep.refl M2)
 obtain ⟨hG,le,fC,oq,a2,c2,hv,rdq⟩:=hq.le By.len (by omega)
 have dA:=oq old
 replace hG:=hG.symm
 subst hG
 subst hv
 refine ⟨(fun h=>by cases h),?_⟩
 have g3:=fC _ _ h3
 have hs2:=hs a2 _ c2 x.l rfl
 rw [hdrop] at hs2
 have hFg:=h2
 have gKX:((l'++[(⟨x.st,a2,c2,x.l⟩:Bl)])++l.drop (i+1)).length=l.length:=by
  rw [aO,aO,bM,List.length_drop]; omega
 generalize hLL:l'++l.drop i=L at *
 generalize hL2:(l'++[(⟨x.st,a2,c2,x.l⟩:Bl)])++l.drop (i+1)=L2 at *
 simp only [setH,go_sem,q8,hil,hi0,aB,aY,g3,w2,hs2,ei]
 have fr:∀(y:nH) r' z,M3 r'=some z->¬z.elem=86->(M3.upd g y) r'=some z:=fun y r' z hz hne=>by
  have:¬r'=g:=by rintro rfl; rw [g3] at hz; injection hz with hz; exact hne (by rw [<-hz])
  rw [Hp.qK this]; exact hz
 refine ⟨hi1,rfl,(kp.trans fC).new hgn,dA.upd hFg,by simp only [go_sem] <;> rfl,l'++[(⟨x.st,a2,c2,x.l⟩:Bl)],by rw [hL2]; exact ⟨.inr ⟨g,c1,by rw [gKX],hFg,Hp.qV _ _ _,by rw [gKX,<-hLl]; exact h4⟩,fun g' n c e=>by cases e; exact hgn⟩,?_,fun z hz=>?_,?_⟩
 ·rw [bP,hpc,t1,bP]; rfl
 ·rcases aW.1 hz with hz | hz
  ·have:=hown z hz
   exact ⟨(this.own.keep fC).frame (fr _) (by decide),this.new⟩
  ·rw [aX.1 hz]
   exact ⟨jDC.own.frame (fr _) (by decide),fun g' n c' e=>kp.free (jDC.new g' n c' e)⟩
 ·refine List.pairwise_append.2 ⟨hds,List.pairwise_singleton _ _,fun y hy z hz g' e1 e2=>?_⟩
  rw [aX.1 hz] at e2
  rcases (hown y hy).own with ⟨e,_⟩ | ⟨g2,cap,e,_,hM,_⟩
  ·rw [e1] at e; cases e
  ·rw [e1] at e
   injection e with e
   injection e with e
   subst e
   have:=jDC.new g2 _ _ (by rw [show a2=some ⟨g2,0,none⟩ from e2])
   rw [this] at hM; cases hM
def dGG (s:dM)(F:Fz)(M:Hp)(u:Value)(F':Fz)(M':Hp):Prop:=
 F'=F/\Keep M M'/\Old F M'/\∃s':dM,u=s'.val/\s'.q=s.q/\fH 86 88 F M' s'.bG s'.bV s'.blocks/\yW 1 fV 3 F M M' (.slice s'.dV s'.next.length s'.dD) s'.next/\(∀g,s'.bG=some ⟨g,0,none⟩->M g=none)/\∀x∈s'.blocks,∀g,x.lA=some ⟨g,0,none⟩->M g=none
theorem jDE {m m':List Bl}(h:m'.map zZ=m.map zZ):kD m'=kD m:=by
 have key:∀l:List Bl,kD l=(l.map zZ).map fun x=>⟨x.1,none,0,x.2⟩:=fun l=>by unfold kD; rw [List.map_map]; rfl
 rw [key,key,h]
theorem dGV (s:dM)(h:s.rd F M)(hold:Old F M)(hl:s.blocks.length<=100000/\s.next.length<=100000)(hp:∀x∈s.blocks,x.l.length<=100000) :
  aI prog 111 [s.val] F M (dGG s F M):=by
 refine qZ hm func111 kXQ (aA rfl) ?_
 simp only [vYA,go_sem]
 intro r1 hF1 hM1
 have n1:M r1=none:=hM1
 generalize eQ:M.upd r1 ⟨s.cs,57,5⟩=M1 at *
 obtain ⟨oV,kY,f1⟩:=nw eQ hold hF1 hM1
 clear eQ
 simp only [go_sem]
 intro r2 hF2 hM2
 have n2:M r2=none:=oV.free hM2
 have d12:=(qJ hM2 f1).1
 have d21:¬r2=r1:=fun h=>d12 h.symm
 generalize eQ:M1.upd r2 ⟨[.slice none 0 0,.slice none 0 0,.int .i64 0,.int .i64 0,.int .i64 0],57,5⟩=M2 at *
 obtain ⟨nG,mY,f2⟩:=nw eQ kY hF2 hM2
 clear eQ
 have kp:=oV.trans nG
 have f1:=nG _ _ f1
 have b1:=qG (F:=F) f1
 have h2:=h.keep kp mY
 have kB:=dGJ F M2 s.bG s.bV s.blocks h2.blocks (fun x hx=>h2.bytes x hx) mY hl.1 hp
 simp only [go_sem,b1]
 with_reducible refine wW kB ?_
 rintro u F' M3 ⟨hG,fC,dA,a,c,m',rfl,hbk,own,hnew,jDF⟩
 replace hG:=hG.symm
 subst hG
 refine ⟨(fun _=>fC.le dA),?_⟩
 have g1:=fC _ _ f1
 have g2:=fC _ _ f2
 have c1:=qG (F:=F) g1
 have h3:=h2.keep fC dA
 have kn:=gKW F M3 _ s.next h3.next dA hl.2
 simp only [go_sem]
 with_reducible refine wW kn ?_
 rintro u F' M4 hq
 have yHA:=hq.mine (Keep.refl M3)
 obtain ⟨hG,le,jA,oq,a2,c2,hv,rdq⟩:=hq.le wJ (by omega)
 have fP:=oq dA
 replace hG:=hG.symm
 subst hG
 subst hv
 refine ⟨(fun _=>le),?_⟩
 have e1:=jA _ _ g1
 have e2:=jA _ _ g2
 have own4:=own.keep jA
 have eC:Value.slice a m'.length c :: List.drop 1 s.cs=(⟨a,c,m',s.dV,s.dD,s.next,s.inp,s.p,s.w⟩:dM).cs:=rfl
 have eC2:List.take 1 (⟨a,c,m',s.dV,s.dD,s.next,s.inp,s.p,s.w⟩:dM).cs++[Value.slice a2 s.next.length c2]++List.drop 2 (⟨a,c,m',s.dV,s.dD,s.next,s.inp,s.p,s.w⟩:dM).cs=(⟨a,c,m',a2,c2,s.next,s.inp,s.p,s.w⟩:dM).cs:=rfl
 have hfr:∀(y:nH) (M5:Hp),M5=(M4.upd r1 y)->∀r' z,M4 r'=some z->¬z.elem=57->M5 r'=some z:=fun y M5 e r' z hz hne=>by
  have:¬r'=r1:=by rintro rfl; rw [e1] at hz; injection hz with hz; exact hne (by rw [<-hz])
  rw [e,Hp.qK this]; exact hz
 have hfr2:∀(y y2:nH),∀r' z,M4 r'=some z->¬z.elem=57->((M4.upd r1 y).upd r2 y2) r'=some z:=fun y y2 r' z hz hne=>by
  have:¬r'=r2:=by rintro rfl; rw [e2] at hz; injection hz with hz; exact hne (by rw [<-hz])
  rw [Hp.qK this]; exact hfr y _ rfl r' z hz hne
 have g1':∀y,blk F (M4.upd r1 y) r1=some y.cells:=fun y=>qG (Hp.qV _ _ _)
 have g2':∀y,(M4.upd r1 y) r2=some ⟨[.slice none 0 0,.slice none 0 0,.int .i64 0,.int .i64 0,.int .i64 0],57,5⟩:=fun y=>by rw [Hp.qK d21]; exact e2
 simp only [setH,Hp.wZ,go_sem,e1,eC,eC2,g1',g2']
 have kpE:∀y y2,Keep M ((M4.upd r1 y).upd r2 y2):=fun y y2=>(((kp.trans fC).trans jA).new n1).new n2
 refine qW ⟨rfl,kpE _ _,(fP.upd hF1).upd hF2,⟨a,c,m',a2,c2,s.next,s.inp,s.p,s.w⟩,rfl,?_,⟨own4.row.frame (hfr2 _ _) (by decide),fun x hx=>(own4.rows x hx).frame (hfr2 _ _) (by decide),own4.dist⟩,⟨yHA.own.frame (hfr2 _ _) (by decide),fun g n c' e=>(kp.trans fC).free (yHA.new g n c' e)⟩,fun g e=>kp.free (hnew g _ _ (by rw [show a=some ⟨g,0,none⟩ from e])),fun x hx g e=>kp.free (jDF x hx g e)⟩
 unfold dM.q
 rw [jDE hbk]
theorem gKZ (n:Nat)(hold:Old F M)(hn:n<=1000):aI prog 109 [.int .i64 n] F M (wYE ⟨1,none,0,List.replicate n ⟨0,0,0,0,0⟩⟩ F M):=by
 refine qZ hm func109 e109 (aA rfl) ?_;simp only [c109,go_sem];intro r2 hF2 hM2;have n2:M r2=none:=hM2;generalize eQ:M.upd r2 ⟨[.int .i64 0,.slice none 0 0],86,2⟩=M1 at *;obtain ⟨nG,mY,f2⟩:=nw eQ hold hF2 hM2;clear eQ;simp only [go_sem];refine rY (aN _) (by simp only [maxLen]; omega) (by omega) ?_;intro r4 mW jP;have n4:M r4=none:=nG.free jP;have d2:=(qJ jP f2).1;have d4:¬r4=r2:=fun h=>d2 h.symm
 have hrep:(List.replicate n [Value.int .i64 0,.int .i64 0,.int .i64 0,.int .i64 0,.int .i64 0]).flatten=(List.replicate n (⟨0,0,0,0,0⟩:By)).flatMap By.cs:=qC (f:=By.cs) ⟨0,0,0,0,0⟩ n;rw [hrep];generalize hlz:List.replicate n (⟨0,0,0,0,0⟩:By)=lz;have hll:lz.length=n:=by rw [<-hlz,bD]
 generalize eQ:M1.upd r4 ⟨lz.flatMap By.cs,88,n * 5⟩=M2 at *;obtain ⟨jA,fP,f4⟩:=nw eQ mY mW jP;clear eQ;have g2:=jA _ _ f2;have eB:[Value.int .i64 1,Value.slice (some ⟨r4,0,none⟩) n n]=(⟨1,some ⟨r4,0,none⟩,n,lz⟩:Bl).cs:=by unfold Bl.cs; rw [hll]
 simp only [setH,go_sem,g2,eB];refine qW ⟨rfl,(nG.trans jA).new n2,fP.upd hF2,⟨1,some ⟨r4,0,none⟩,n,lz⟩,rfl,rfl,rfl,.inr ⟨r4,n,by rw [hll],mW,by rw [Hp.qK d4]; exact f4,by rw [hll]; exact aN _,by simp only [maxLen]; omega⟩,fun g m c e=>by cases e; exact n4⟩
theorem k33 (n:Int):aI prog 33 [.int .i64 n] F M (Same F M (.bool (decide (0<=n) && decide (n<=400)))):=by
 refine qZ hm func33 e33 (aA rfl) ?_;by_cases h0:0<=n
 ·by_cases h1:n<=400
  ·simp only [c33,go_sem,h0,h1];exact qW ⟨rfl,rfl,rfl⟩
  ·simp only [c33,go_sem,h0,h1];exact qW ⟨rfl,rfl,rfl⟩
 ·simp only [c33,go_sem,h0];exact qW ⟨rfl,rfl,rfl⟩
theorem k74 (s:dM):aI prog 74 [s.val] F M (Same F M (.bool (wB s.q))):=by
 refine qZ hm func74 e74 (aA rfl) ?_;have he:wB s.q=(decide (s.next.length=0) || !decide (s.p=0/\s.w=0)):=rfl;have ez:Value.agg #[.int .i64 0,.int .i64 0]=(⟨0,0⟩:Al).val:=rfl;have ea:∀l,l=s.cs->Value.agg (List.take 2 (List.drop 3 l)).toArray=(⟨s.p,s.w⟩:Al).val:=fun l h=>by rw [h]; rfl
 have ea:=ea _ rfl;have hd:decide ((⟨s.p,s.w⟩:Al)=⟨0,0⟩)=decide (s.p=0/\s.w=0):=by
  congr 1; simp
 rw [he];simp only [c74,go_sem];intro r1 hF1 hM1;by_cases h0:s.next.length=0
 ·have h0':(s.next.length:Int)=0:=by omega
  simp only [go_sem,h0];exact qH hM1 (qW ⟨rfl,rfl,rfl⟩)
 ·have h0':¬(s.next.length:Int)=0:=by omega
  simp only [go_sem,h0',h0,ez];exact qH hM1 (qW ⟨by simp [],rfl,rfl⟩)
def zB:Bl:=⟨0,none,0,[]⟩
def qGD (n:Int):Bl:=⟨1,none,0,List.replicate n.toNat ⟨0,0,0,0,0⟩⟩
def rH (l:List Bl)(n:Nat):List Bl:=zB :: l++List.replicate (n - 1 - l.length) zB
theorem wWE {l:List Bl}{n:Nat}(h:l.length < n):(rH l n).length=n:=by
 unfold rH; rw [aO,fF,bD]; omega
theorem jYQ {l:List Bl}{n:Nat}(h:l.length+1 < n)(x:Bl):(rH l n).set (l.length+1) x=rH (l++[x]) n:=by
 unfold rH;have e:n - 1 - l.length=(n - 1 - (l++[x]).length)+1:=by rw [aO,bM]; omega
 rw [e,dS,List.cons_append,List.set_cons_succ,List.set_append,if_neg (by omega),fM,List.set_cons_zero];simp
def vJB (p:Pg)(n r1 r2 r14:Nat)(F0:Fz)(M0:Hp)(i:Nat)(σ:Env)(F:Fz)(M:Hp):Prop:=
 F0=F/\Keep M0 M/\Old F0 M/\Ax.look σ 18=some (.int .i64 i)/\M r1=some ⟨p.cs,43,7⟩/\M r2=some ⟨[.slice none 0 0,.slice none 0 0,.int .i64 0,.int .i64 0,.int .i64 0],57,5⟩/\
  ∃l':List Bl,l'.map Bl.no=(p.vars.take i).map qGD/\M r14=some ⟨(rH l' n).flatMap Bl.cs,86,n * 2⟩/\(∀x∈l',yW 5 By.cs 88 F0 M0 M (.slice x.lA x.l.length x.lC) x.l)/\l'.Pairwise qWZ
theorem k73 (p:Pg)(hp:p.rd F)(hold:Old F M)(hc:wY p=true) :
  aI prog 73 [p.val] F M (Makes F M fun u M'=>∃s:dM,u=s.val/\s.q=fZ p/\s.rd F M'):=by
 refine qZ hm func73 e73 (aA rfl) ?_
 have few:=hp.few
 obtain ⟨_,hv4,hn2,hvs,hns⟩:=yH hc
 obtain ⟨n,hn⟩:∃n,n=1+p.vars.length+p.news.length:=⟨_,rfl⟩
 have ew1:i64.wrap (1+(p.vars.length:Int))=1+p.vars.length:=dQ (by omega) (by omega)
 have ew2:i64.wrap (1+(p.vars.length:Int)+p.news.length)=(n:Int):=by rw [dQ (by omega) (by omega)]; omega
 simp only [c73,go_sem]
 intro r1 hF1 hM1
 generalize eQ:M.upd r1 ⟨p.cs,43,7⟩=M1 at *
 obtain ⟨oV,kY,f1⟩:=nw eQ hold hF1 hM1
 clear eQ
 simp only [go_sem]
 intro r2 hF2 hM2
 have n2:M r2=none:=oV.free hM2
 generalize eQ:M1.upd r2 ⟨[.slice none 0 0,.slice none 0 0,.int .i64 0,.int .i64 0,.int .i64 0],57,5⟩=M2 at *
 obtain ⟨nG,mY,f2⟩:=nw eQ kY hF2 hM2
 clear eQ
 have kp:=oV.trans nG
 have f1:=nG _ _ f1
 have b1:=qG (F:=F) f1
 simp only [go_sem,b1,ew1,ew2]
 refine rY (aN _) (by simp only [maxLen]; omega) (by omega) ?_
 intro r14 vJC jYW
 have n14:M r14=none:=kp.free jYW
 have d1:=(qJ jYW f1).1
 have d2:=(qJ jYW f2).1
 have hrep:(List.replicate n [Value.int .i64 0,.slice none 0 0]).flatten=(rH [] n).flatMap Bl.cs:=by
  have:rH [] n=List.replicate n zB:=by
   unfold rH
   obtain ⟨k,rfl⟩:∃k,n=k+1:=⟨n - 1,by omega⟩
   rw [dS]; simp
  rw [this]
  exact qC (f:=Bl.cs) zB n
 rw [hrep]
 generalize eQ:M2.upd r14 ⟨(rH [] n).flatMap Bl.cs,86,n * 2⟩=M3 at *
 obtain ⟨qGX,yHV,f14⟩:=nw eQ mY vJC jYW
 clear eQ
 have f1:=qGX _ _ f1
 have f2:=qGX _ _ f2
 have b1:=qG (F:=F) f1
 have kp:=kp.trans qGX
 simp only [go_sem,b1]
 refine wV p.vars.length (vJB p n r1 r2 r14 F M) ⟨rfl,kp,yHV,(by simp only [go_sem, *] <;> rfl),f1,f2,[],rfl,f14,(fun x hx=>by cases hx),List.Pairwise.nil⟩ ?_
 clear f1 f2 f14 b1 kp oV nG qGX kY mY yHV hM1 hM2 jYW hrep
 rintro i σ F' M4 hi hst ⟨rfl,kp,old,q18,f1,f2,l',hl',f14,hown,hds⟩
 have q1:=hst 1 rfl
 have q2:=hst 2 rfl
 have q3:=hst 3 rfl
 have q16:=hst 16 rfl
 have q17:=hst 17 rfl
 simp only [go_sem] at q1 q2 q3 q16 q17
 clear hst
 have hll:l'.length=i:=by have:=congrArg List.length hl'; simp at this; omega
 have b1:=qG (F:=F) f1
 by_cases hil:(i:Int) < p.vars.length
 rotate_left
 ·have hin:i=p.vars.length:=by omega
  rw [aJ (by omega)] at hl'
  have hrl:=wWE (l:=l') (n:=n) (by omega)
  have kn:=gKW F M4 _ p.main (hp.main M4 old) old (by omega)
  simp only [go_sem,q1,q3,q17,q18,hil,b1]
  with_reducible refine wW kn ?_
  rintro u F' M5 hq
  have yHA:=hq.mine (Keep.refl M4)
  obtain ⟨hG,le,eH,oq,a2,c2,hv,rdq⟩:=hq.le wJ (by omega)
  have dB:=oq old
  replace hG:=hG.symm
  subst hG
  subst hv
  refine ⟨(fun h=>by cases h),?_⟩
  have g2:=eH _ _ f2
  have g14:=eH _ _ f14
  have eC:[Value.slice (some ⟨r14,0,none⟩) n n,Value.slice a2 p.main.length c2,Value.int .i64 0,Value.int .i64 0,Value.int .i64 0]=(⟨some ⟨r14,0,none⟩,n,rH l' n,a2,c2,p.main,0,0,0⟩:dM).cs:=by
   unfold dM.cs; rw [hrl]
  simp only [setH,go_sem,q2,g2,eC]
  have kpE:∀y,Keep M (M5.upd r2 y):=fun y=>(kp.trans eH).new n2
  have hfr:∀(y:nH) r' z,M5 r'=some z->¬z.elem=57->(M5.upd r2 y) r'=some z:=fun y r' z hz hne=>by
   have:¬r'=r2:=by rintro rfl; rw [g2] at hz; injection hz with hz; exact hne (by rw [<-hz])
   rw [Hp.qK this]; exact hz
  have mem:∀y,fH 86 88 F (M5.upd r2 y) (some ⟨r14,0,none⟩) n (rH l' n):=fun y=>by
   refine ⟨.inr ⟨r14,n,by rw [hrl],vJC,hfr y _ _ g14 (show ¬(86:Nat)=57 by decide),by rw [hrl]; exact aN _,by simp only [maxLen]; omega⟩,fun x hx=>?_,?_⟩
   ·unfold rH at hx
    rcases aW.1 hx with hx | hx
    ·rcases aQ.1 hx with hx | hx
     ·rw [hx]; exact .inl ⟨rfl,rfl⟩
     ·exact ((hown x hx).own.keep eH).frame (hfr y) (by decide)
    ·rw [dK hx]; exact .inl ⟨rfl,rfl⟩
   ·unfold rH
    refine List.pairwise_append.2 ⟨List.pairwise_cons.2 ⟨fun z _=>(nJ (x:=zB) rfl).1,hds⟩,?_,fun a _ b hb=>?_⟩
    ·rw [List.pairwise_replicate]; right; exact (nJ (x:=zB) rfl).1
    ·rw [dK hb]; exact (nJ (x:=zB) rfl).2
  have hnx:gQ 1 fV 3 F (M5.upd r2 ⟨(⟨some ⟨r14,0,none⟩,n,rH l' n,a2,c2,p.main,0,0,0⟩:dM).cs,57,5⟩) (.slice a2 p.main.length c2) p.main:=yHA.own.frame (hfr _) (by decide)
  have hq0:(⟨some ⟨r14,0,none⟩,n,rH l' n,a2,c2,p.main,0,0,0⟩:dM).q=fZ p:=by
   unfold dM.q fZ
   have:kD (rH l' n)=⟨0,none,0,[]⟩ :: p.vars.map (fun n=>⟨1,none,0,List.replicate n.toNat ⟨0,0,0,0,0⟩⟩)++p.news.map (fun _=>⟨0,none,0,[]⟩):=by
    unfold kD rH
    rw [bP,List.map_cons,hl',List.map_replicate,show n - 1 - l'.length=p.news.length by omega]
    rw [List.map_const']
    rfl
   rw [this]
  have jDH:∀y∈rH l' n,y.l.length<=1000000:=fun y hy=>by
   unfold rH at hy
   rcases aW.1 hy with hx | hx
   ·rcases aQ.1 hx with hx | hx
    ·rw [hx]; decide
    ·have h1:y.no∈p.vars.map qGD:=by rw [<-hl']; exact eF hx
     obtain ⟨k,hk,e⟩:=List.mem_map.1 h1
     have h2:y.l=(qGD k).l:=(congrArg Bl.l e).symm
     have:=hvs k hk
     rw [h2]; unfold qGD; rw [bD]; omega
   ·rw [dK hx]; decide
  exact qW ⟨rfl,kpE _,dB.upd hF2,⟨some ⟨r14,0,none⟩,n,rH l' n,a2,c2,p.main,0,0,0⟩,rfl,hq0,wKH (mem _) hnx (by show (rH l' n).length<=_; omega) jDH (by show p.main.length<=_; omega)⟩
 have hi0:(0:Int)<=i:=by omega
 have hi1:i < p.vars.length:=by omega
 have ei:i64.wrap ((i:Int)+1)=i+1:=dQ (by omega) (by omega)
 obtain ⟨nb,no,ncs,hna,hnb,nd⟩:=Ax.gW (hp.vars M4 old) hi1
 have t1:=aF hi1
 have hv:=hvs _ (aH hi1)
 generalize p.vars[i]=z at *
 obtain ⟨w,rfl⟩:=aG (show 0<=z by omega)
 have kf:=gKZ F M4 w old (by omega)
 simp only [go_sem,q3,q16,q17,q18,hil,hi0,hna,hnb,nd,ei,aB]
 with_reducible refine wW kf ?_
 rintro u F' M5 ⟨hG,eH,dB,x',rfl,hs',hc',own'⟩
 replace hG:=hG.symm
 subst hG
 refine ⟨(fun h=>by cases h),?_⟩
 have g1:=eH _ _ f1
 have g2:=eH _ _ f2
 have g14:=eH _ _ f14
 have j0:(0:Int)<=(i:Int)+1:=by omega
 have j1:(i:Int)+1 < n:=by omega
 have ej:((i:Int)+1).toNat=i+1:=by omega
 have w2:(i+1) * 2+2<=((rH l' n).flatMap Bl.cs).length:=by rw [yG Bl.len,wWE (by omega)]; omega
 have w1:=iC (f:=Bl.cs) (sz:=2) Bl.len x' (rH l' n) (i+1) (by rw [wWE (by omega)]; omega)
 have hsx:=jYQ (l:=l') (n:=n) (by omega) x'
 rw [hll] at hsx
 rw [hsx] at w1
 simp only [setH,go_sem,q18,j0,j1,ej,aY,g14,w2,w1,ei]
 have fr:∀(y:nH) r' z,M5 r'=some z->¬z.elem=86->(M5.upd r14 y) r'=some z:=fun y r' z hz hne=>by
  have:¬r'=r14:=by rintro rfl; rw [g14] at hz; injection hz with hz; exact hne (by rw [<-hz])
  rw [Hp.qK this]; exact hz
 refine ⟨hi1,rfl,(kp.trans eH).new n14,dB.upd vJC,(by simp only [go_sem, *] <;> rfl),fr _ _ _ g1 (show ¬(43:Nat)=86 by decide),fr _ _ _ g2 (show ¬(57:Nat)=86 by decide),l'++[x'],?_,Hp.qV _ _ _,fun y hy=>?_,?_⟩
 ·rw [bP,hl',t1,bP]
  congr 1
  show [x'.no]=[qGD w]
  unfold Bl.no qGD
  rw [hs',hc',aB]
 ·rcases aW.1 hy with hy | hy
  ·exact ⟨((hown y hy).own.keep eH).frame (fr _) (by decide),(hown y hy).new⟩
  ·rw [aX.1 hy]
   exact ⟨own'.own.frame (fr _) (by decide),fun g n c e=>kp.free (own'.new g n c e)⟩
 ·refine List.pairwise_append.2 ⟨hds,List.pairwise_singleton _ _,fun y hy z hz g' e1 e2=>?_⟩
  rw [aX.1 hz] at e2
  rcases (hown y hy).own with ⟨e,_⟩ | ⟨g2,cap,e,_,hM,_⟩
  ·rw [e1] at e; cases e
  ·rw [e1] at e
   injection e with e
   injection e with e
   subst e
   have:=own'.new g2 _ _ (by rw [e2])
   rw [this] at hM; cases hM
def gKK (p:Pg)(a:Option Addr)(c:Nat)(m:List Bl)(to:Sc)(k:Int)(v:Sc)(F:Fz)(M:Hp)(u:Value)(F':Fz)(M':Hp):Prop:=
 F'=F/\Old F M'/\u=.int .i64 (pV m (yJ p.ptr k) to)/\∃m2,fH 86 88 F M' a c m2/\m2.length=m.length/\Mv (qGV a m) M (qGV a m2) M'/\
  kD m2=if pV m (yJ p.ptr k) to=0 then wWQ p (kD m) to k v else kD m
theorem dGH (p:Pg)(k:Int)(a:Option Addr)(c:Nat)(m:List Bl)(to v:Sc)(own:fH 86 88 F M a c m)(hold:Old F M)(hc:wY p=true)(hfm:iP p m)(hk:isS k=true)(hs:GoodS p 7 to)(hv:wVA v)(hv7:k=7↔v.p=true) :
  aI prog 202 [.agg #[.bool p.big,.int .i64 p.ptr],.slice a m.length c,to.val,.int .i64 k,v.val] F M (gKK p a c m to k v F M):=by
 obtain ⟨b,off,rfl,hb,ho,hos⟩:=wM hs hfm hc
 have hpre:=yH hc
 have qJY:=hpre.1
 have hml:=hfm.len
 have jDH:∀y∈m,y.l.length<=32:=fun y hy=>by obtain ⟨i',hi',rfl⟩:=bZ hy; exact (hfm.bytes i' hi').2.2.2
 have yKA:=gV qJY (.inr (.inr hk))
 obtain ⟨n,hnq⟩:∃n:Nat,yJ p.ptr k=n:=aG (by omega)
 have hn4:1<=n/\n<=4:=by omega
 obtain ⟨rdm,rdb,_,_⟩:=own.rd (by omega) (fun y hy=>by have:=jDH y hy; omega)
 refine qZ hm func202 kJH (aA rfl) ?_
 simp only [zXA,go_sem]
 intro r5 lM gU
 have n5:M r5=none:=gU
 generalize eQ:M.upd r5 ⟨[.bool p.big,.int .i64 p.ptr],39,2⟩=M1 at *
 obtain ⟨eH,dB,f5⟩:=nw eQ hold lM gU
 clear eQ
 simp only [go_sem]
 intro r7 wU qB
 have n7:M r7=none:=eH.free qB
 generalize eQ:M1.upd r7 ⟨(Sc.mk true 0 b off).cs,90,4⟩=M2 at *
 obtain ⟨lY,iO,f7⟩:=nw eQ dB wU qB
 clear eQ
 simp only [go_sem]
 intro r9 hF9 hM9
 have n9:M r9=none:=(eH.trans lY).free hM9
 generalize eQ:M2.upd r9 ⟨v.cs,90,4⟩=M3 at *
 obtain ⟨xE,mZ,f9⟩:=nw eQ iO hF9 hM9
 clear eQ
 have kp:=(eH.trans lY).trans xE
 have f5:=xE _ _ (lY _ _ f5)
 have f7:=xE _ _ f7
 have b5:=qG (F:=F) f5
 have b7:=qG (F:=F) f7
 have b9:=qG (F:=F) f9
 have h3:=rdm.keep kp mZ
 have kw:=gZV F M3 p.big p.ptr k a c m b off h3 mZ qJY hk hb (by omega)
 simp only [go_sem,b5,b7]
 with_reducible refine qQ kw ?_
 unfold gKK
 rw [hnq] at kw ⊢
 by_cases hw:pV m n ⟨true,0,b,off⟩=0
 rotate_left
 ·simp only [go_sem,hw]
  refine qX kp ⟨rfl,hold,rfl,m,own,rfl,Mv.refl,rfl⟩
 simp only [hw,if_true]
 have hw2:=hw
 have wVC:=yY hb
 unfold pV at hw2
 rw [show (Sc.mk true 0 b off).b=(b:Int) from rfl,wVC,show (Sc.mk true 0 b off).o=(off:Int) from rfl] at hw2
 have hfit:off+n<=(m[b]).l.length:=by
  split at hw2
  ·have:=(wGB hw2).1; omega
  ·cases hw2
 have zYB:=jDH _ (aH hb)
 have hxo:=own.rows _ (aH hb)
 obtain ⟨bb,o,cs,ea,hbk,rows⟩:=h3.rows (by omega)
 obtain ⟨g1,g2⟩:=rows b hb
 have hbm:m[b]∈m:=aH hb
 clear rows hw2 kw
 have hX:∃x,m[b]=x:=⟨_,rfl⟩
 obtain ⟨x,hx⟩:=hX
 rw [hx] at hfit zYB hxo g2 wVC hbm
 obtain ⟨g2,g3⟩:=Bl.row g2
 rcases hxo with ⟨_,h2⟩ | ⟨g,cap,h1,hFg,yF,hcap⟩
 ·rw [h2] at hfit; simp at hfit; omega
 injection h1 with h1 h1n h1c
 have hb0:(0:Int)<=b:=by omega
 have hbl:(b:Int) < m.length:=by omega
 have ho0:(0:Int)<=off:=by omega
 have e2:(off:Int)<=x.l.length:=by omega
 have ks:=dJD F M3 p.big p.ptr k v qJY hk hv hv7 mZ
 rw [hnq,aB] at ks
 subst ea
 simp only [go_sem,b5,b7,b9,hb0,hbl,aB,hbk,g3,ho0,e2]
 with_reducible refine wW ks ?_
 rintro u F' M4 hq
 have gKJ:=hq.mine (Keep.refl M3)
 obtain ⟨hG,le,jA,oq,a2,c2,hu,rdq⟩:=hq.le By.len (by rw [jV]; omega)
 have fP:=oq mZ
 replace hG:=hG.symm
 subst hG
 subst hu
 refine ⟨(fun _=>le),?_⟩
 have g4:=jA _ _ (kp _ _ yF)
 simp only [go_sem]
 have hcap1:off+n<=cap:=by omega
 have hne:¬(x.lC:Int)=off:=by omega
 have ead:Option.map (fun y:Addr=>y.add (off * 5)) x.lA=some ⟨g,off * 5,none⟩:=by
  rw [h1]
  simp only [cZ,Addr.add]
  split
  ·rename_i h0; rw [h0]
  ·simp
 rw [if_neg hne,ead]
 have hbs:=jV p.big n v
 generalize dGD:iK p.big n v=bs at *
 have hmin:min bs.length (x.l.length - off)=n:=by omega
 have hys:(bs.flatMap By.cs).take (n * 5)=bs.flatMap By.cs:=aJ (by rw [yG By.len,hbs]; exact aN _)
 have hsp:=yQE (l:=x.l) (bs:=bs) (off:=off) (by omega)
 have dGY:=vP (l:=x.l) (bs:=bs) (at_:=off) (by omega)
 refine ⟨g,off * 5,x.l.length - off,x.lC - off,rfl,_,rfl,bs.length,bs.flatMap By.cs,gKJ.own.src By.len,yZV By.plain bs,⟨x.l.flatMap By.cs,88,cap * 5⟩,g4,?_,?_⟩
 ·show off * 5+(x.l.length - off) * 5<=(x.l.flatMap By.cs).length
  rw [yG By.len,<-Nat.add_mul]
  exact Nat.mul_le_mul_right 5 (by omega)
 rw [hmin,hys,show (n:Nat) * 5=bs.length * 5 by rw [hbs]]
 simp only []
 rw [hsp]
 simp only [go_sem]
 have own4:=own.keep (kp.trans jA)
 subst hx
 have hl:=own4.lay (by decide) hb (g:=g) (n:=cap * 5) h1 g4 (l':=splice (m[b]).l off bs) dGY
 refine qW ⟨rfl,fP.upd hFg,rfl,m.set b ⟨(m[b]).st,(m[b]).lA,(m[b]).lC,splice (m[b]).l off bs⟩,hl,aZ,⟨fun q z hq hn=>?_,fun q hq=>.inl (jDG (x:=⟨(m[b]).st,(m[b]).lA,(m[b]).lC,splice (m[b]).l off bs⟩) hb rfl q hq)⟩,?_⟩
 ·have:¬q=g:=by rintro rfl; exact hn (.inr ⟨_,hbm,h1⟩)
  rw [Hp.qK this]; exact jA _ _ (kp _ _ hq)
 ·rw [qQJ]
  unfold wWQ
  rw [(uT m _).1,(uT m _).2,hnq]
  show setB (kD m) b (m[b]).st (splice (m[b]).l off bs)=setB (kD m) b (jD m (b:Int)).st (splice (jD m (b:Int)).l (off:Int).toNat (iK p.big (n:Int).toNat v))
  rw [wVC,aB,aB,dGD]
def NxR (F:Fz)(M:Hp)(a:Option Addr)(c:Nat)(l:List Int):Prop:=∀M',Old F M'->(∀q x,M q=some x->x.elem=3->M' q=some x)->lG F M' a c l
theorem NxR.step {F:Fz}{M M':Hp}{a:Option Addr}{c:Nat}{l:List Int}(h:NxR F M a c l)(fr:∀q x,M q=some x->x.elem=3->M' q=some x):NxR F M' a c l:=fun M2 o h2=>h M2 o fun q x hq he=>h2 q x (fr q x hq he) he
theorem NxR.rd {F:Fz}{M:Hp}{a:Option Addr}{c:Nat}{l:List Int}(h:NxR F M a c l)(o:Old F M):lG F M a c l:=h M o fun _ _ h _=>h
theorem NxR.of {F:Fz}{M:Hp}{a:Option Addr}{c:Nat}{l:List Int}(h:gQ 1 fV 3 F M (.slice a l.length c) l)(hl:l.length<=1000000):NxR F M a c l:=fun M' o fr=>by
 have h':gQ 1 fV 3 F M' (.slice a l.length c) l:=by
  rcases h with h | ⟨g,cap,h1,h2,h3,h4⟩
  ·exact .inl h
  ·exact .inr ⟨g,cap,h1,h2,fr _ _ h3 rfl,h4⟩
 exact h'.rd wJ (by omega)
structure DrM (r:Nat)(p:Pg)(t:Sr)(s:dM)(F:Fz)(M:Hp):Prop where
 d:M r=some ⟨(Dr.mk p t s).cs,170,14⟩
 own:fH 86 88 F M s.bG s.bV s.blocks
 next:NxR F M s.dV s.dD s.next
 nz:s.dV=none->s.dD=0
def drS (r:Nat)(s:dM)(q:Nat):Prop:=q=r\/qGV s.bG s.blocks q
def Sr.rdF (F:Fz)(t:Sr):Prop:=∀M,Old F M->t.rd F M
def doR (p:Pg)(t:Sr)(r:Nat)(s:dM)(R:Qs × Int)(F:Fz)(M:Hp)(u:Value)(F':Fz)(M':Hp):Prop:=
 F'=F/\Old F M'/\u=.int .i64 R.2/\∃s',DrM r p t s' F M'/\s'.q=R.1/\Mv (drS r s) M (drS r s') M'/\s'.bG=s.bG
theorem wKA {F:Fz}{M:Hp}{a:Option Addr}{c:Nat}{m:List Bl}(h:fH 86 88 F M a c m){q:Nat}(hq:qGV a m q):∃x,M q=some x/\(x.elem=(86:Nat)\/x.elem=(88:Nat)):=by
 rcases hq with hq | ⟨y,hy,e⟩
 ·rcases h.row with ⟨h1,_⟩ | ⟨g,cap,h1,_,h3,_⟩
  ·injection h1 with h1; rw [hq] at h1; cases h1
  ·injection h1 with h1; rw [hq] at h1; injection h1 with h1; injection h1 with h1; subst h1
   exact ⟨_,h3,.inl rfl⟩
 ·rcases h.rows y hy with ⟨h1,_⟩ | ⟨g,cap,h1,_,h3,_⟩
  ·injection h1 with h1; rw [e] at h1; cases h1
  ·injection h1 with h1; rw [e] at h1; injection h1 with h1; injection h1 with h1; subst h1
   exact ⟨_,h3,.inr rfl⟩
theorem DrM.keep {r:Nat}{p:Pg}{t:Sr}{s:dM}{F:Fz}{M M':Hp}(h:DrM r p t s F M)(kp:Keep M M'):DrM r p t s F M':=
 ⟨kp _ _ h.d,h.own.keep kp,h.next.step fun q x hq _=>kp q x hq,h.nz⟩
theorem DrM.mem {r:Nat}{p:Pg}{t:Sr}{s:dM}{F:Fz}{M M':Hp}{m2:List Bl}(h:DrM r p t s F M)(own:fH 86 88 F M' s.bG s.bV m2)(hl:m2.length=s.blocks.length)(st:∀q x,M q=some x->¬qGV s.bG s.blocks q->M' q=some x) :
  DrM r p t ⟨s.bG,s.bV,m2,s.dV,s.dD,s.next,s.inp,s.p,s.w⟩ F M':=by
 have hn:∀q x,M q=some x->¬x.elem=(86:Nat)->¬x.elem=(88:Nat)->M' q=some x:=fun q x hq h1 h2=>st q x hq fun hs=>by
  obtain ⟨y,hy,e⟩:=wKA h.own hs;rw [hq] at hy; injection hy with hy; subst hy
  rcases e with e | e
  ·exact h1 e
  ·exact h2 e
 refine ⟨?_,own,h.next.step fun q x hq he=>hn q x hq (by rw [he]; decide) (by rw [he]; decide),h.nz⟩;have e:(Dr.mk p t ⟨s.bG,s.bV,m2,s.dV,s.dD,s.next,s.inp,s.p,s.w⟩).cs=(Dr.mk p t s).cs:=by
  unfold Dr.cs dM.cs; simp only [hl]
 rw [e];exact hn r _ h.d (by show ¬(170:Nat)=_; decide) (by show ¬(170:Nat)=_; decide)
theorem DrM.put {r:Nat}{p:Pg}{t:Sr}{s:dM}{F:Fz}{M:Hp}(h:DrM r p t s F M)(nA:Option Addr)(nC:Nat)(n:List Int)(inp q w:Int)(hn:NxR F M nA nC n)(hz:nA=none->nC=0) :
  DrM r p t ⟨s.bG,s.bV,s.blocks,nA,nC,n,inp,q,w⟩ F (M.upd r ⟨(Dr.mk p t ⟨s.bG,s.bV,s.blocks,nA,nC,n,inp,q,w⟩).cs,170,14⟩):=by
 have hd:=h.d;refine ⟨Hp.qV _ _ _,oH h.own hd (by decide) (by decide),hn.step fun q x hq he=>?_,hz⟩;have:¬q=r:=by rintro rfl; rw [hd] at hq; injection hq with hq; rw [<-hq] at he; exact absurd he (show ¬(170:Nat)=3 by decide)
 rw [Hp.qK this]; exact hq
theorem Mv.drM {r:Nat}{s s':dM}{M M':Hp}(h:Mv (qGV s.bG s.blocks) M (qGV s'.bG s'.blocks) M'):Mv (drS r s) M (drS r s') M':=
 ⟨fun q x hq hs=>h.stay q x hq fun h1=>hs (.inr h1),fun q hq=>by
  rcases hq with h1 | h1
  ·exact .inl (.inl h1)
  ·rcases h.new q h1 with h2 | h2
   ·exact .inl (.inr h2)
   ·exact .inr h2⟩
theorem Mv.drU {r:Nat}{s s':dM}{M:Hp}{e:nH}(h:∀q,qGV s'.bG s'.blocks q->qGV s.bG s.blocks q):Mv (drS r s) M (drS r s') (M.upd r e):=
 ⟨fun q x hq hs=>by rw [Hp.qK (fun h=>hs (.inl h))]; exact hq,fun q hq=>.inl (hq.imp id (h q))⟩
theorem Mv.back {S S':Nat->Prop}{M M1 M':Hp}(kp:Keep M M1)(h:Mv S M1 S' M'):Mv S M S' M':=
 ⟨fun q x hq hs=>h.stay q x (kp q x hq) hs,fun q hq=>by
  rcases h.new q hq with h1 | h1
  ·exact .inl h1
  ·exact .inr (kp.free h1)⟩
theorem vJE (r:Nat)(p:Pg)(t:Sr)(s:dM)(to v:Sc)(k:Int)(hD:DrM r p t s F M)(hold:Old F M)(hc:wY p=true)(hfm:iP p s.blocks)(hk:isS k=true)(hs:GoodS p 7 to)(hv:wVA v)(hv7:k=7↔v.p=true) :
  aI prog 180 [.pointer (some ⟨r,0,none⟩),to.val,.int .i64 k,v.val] F M (doR p t r s (qQW p s.q s.q.m to k v 0) F M):=by
 refine qZ hm func180 kKY (aA rfl) ?_
 simp only [zWE,go_sem]
 intro r5 lM gU
 generalize eQ:M.upd r5 ⟨to.cs,90,4⟩=M1 at *
 obtain ⟨eH,dB,f5⟩:=nw eQ hold lM gU
 clear eQ
 simp only [go_sem]
 intro r7 wU qB
 generalize eQ:M1.upd r7 ⟨v.cs,90,4⟩=M2 at *
 obtain ⟨lY,iO,f7⟩:=nw eQ dB wU qB
 clear eQ
 have kp:=eH.trans lY
 have D2:=hD.keep kp
 have br:=qG (F:=F) D2.d
 have b5:=qG (F:=F) (lY _ _ f5)
 have b7:=qG (F:=F) f7
 have kl:=dGH F M2 p k s.bG s.bV s.blocks to v D2.own iO hc hfm hk hs hv hv7
 simp only [go_sem,br,b5,b7]
 with_reducible refine wW kl ?_
 rintro u F' M3 ⟨hG,dA,rfl,m2,dGB,hl,mv,hm2⟩
 replace hG:=hG.symm
 subst hG
 refine ⟨(fun h=>by cases h),?_⟩
 simp only [go_sem]
 have D3:=D2.mem dGB hl mv.stay
 refine qW ⟨rfl,dA,?_,⟨s.bG,s.bV,m2,s.dV,s.dD,s.next,s.inp,s.p,s.w⟩,D3,?_,Mv.back kp (Mv.drM mv),rfl⟩
 ·unfold qQW
  rw [show s.q.m=kD s.blocks from rfl,wWW]
  split
  ·rename_i h; rw [h]
  ·rfl
 ·unfold qQW
  rw [show s.q.m=kD s.blocks from rfl,wWW]
  unfold dM.q
  rw [hm2]
  split
  ·simp
  ·rfl
end Go.Proofs.Tryz.K
