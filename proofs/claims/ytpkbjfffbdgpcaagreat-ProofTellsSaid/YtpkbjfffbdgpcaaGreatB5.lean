/- Parts B5: the machine's runs of small codes, contracts of functions, plain facts. -/
import Derived.Test.YtpkbjfffbdgpcaaGreatB4
open Nat renaming add_zero->aK,le_of_ble_eq_true->aA,zero_mul->dX
open Int renaming eq_ofNat_of_zero_le->aG,toNat_natCast->aB
open Bool renaming and_eq_false_iff->bI,and_eq_true->aC,eq_iff_iff->dG,or_eq_false_iff->dU,or_eq_true->dJ,true_and->bQ
open List renaming all_eq_false->dP,all_eq_true->bW,append_assoc->fG,drop_eq_getElem_cons->dH,drop_eq_nil_of_le->dL,getElem_mem->aH,length_cons->fF,mem_append->aW,mem_cons->aQ,not_mem_nil->aV,replicate_succ->dS,take_of_length_le->aJ,take_succ_eq_append_getElem->aF
open Option renaming isSome_some->aU,map_some->cZ
open Go.Proofs.Tryz
open Go.IntKind (i64)
set_option maxRecDepth 100000
set_option linter.unusedSimpArgs false
set_option linter.unusedVariables false
set_option maxHeartbeats 4000000
namespace Go.Proofs.Tryz.K
open Go Go.Ax Go.Proofs.Tryz.S
variable (F:Fz) (M:Hp)
theorem zHZ (p:Pg)(hp:p.rd F)(hold:Old F M):aI prog 106 [p.val] F M (tK 1 fV 3 (yK p) F M):=by
 refine qZ hm func106 kWC (aA rfl) ?_;have hfew:=hp.few;simp only [vYD,go_sem];intro r1 hF1 hM1;simp only [go_sem];intro r3 hF3 dN;simp only [qD] at dN;simp only [go_sem,dN];intro r8 hF8 rQ;simp only [qD] at rQ;have kp:Keep M (((M.upd r1 ⟨p.cs,43,7⟩).upd r3 ⟨[.int .i64 0],3,1⟩).upd r8 ⟨[.slice (some ⟨r3,0,none⟩) 1 1,.slice p.vA p.vars.length p.vC,.slice p.nA p.news.length p.nC],23,3⟩):=(by repeat' first | exact Keep.refl _ | (refine Keep.new ?_ (by simp only [*])))
 have iE:Old F (((M.upd r1 ⟨p.cs,43,7⟩).upd r3 ⟨[.int .i64 0],3,1⟩).upd r8 ⟨[.slice (some ⟨r3,0,none⟩) 1 1,.slice p.vA p.vars.length p.vC,.slice p.nA p.news.length p.nC],23,3⟩):=(by repeat' first | assumption | (refine Old.upd ?_ (by assumption)))
 simp only [go_sem];have b3:blk F (((M.upd r1 ⟨p.cs,43,7⟩).upd r3 ⟨[.int .i64 0],3,1⟩).upd r8 ⟨[.slice (some ⟨r3,0,none⟩) 1 1,.slice p.vA p.vars.length p.vC,.slice p.nA p.news.length p.nC],23,3⟩) r3=some [.int .i64 0]:=by simp only [go_sem,rQ]
 refine wW (jJA F _ (some ⟨r8,0,none⟩) 3 [(some ⟨r3,0,none⟩,1,[0]),(p.vA,p.vC,p.vars),(p.nA,p.nC,p.news)] iE (gZ qZC (by simp) (by simp) (by rw [wH]; simp [slC])) ?_ (by simp)) ?_
 ·intro y hy;simp only [aQ,aV,or_false] at hy;rcases hy with rfl | rfl | rfl
  ·exact ⟨gZ wJ (by simp) (by simp) (by rw [b3]; rfl),by simp,by simp⟩
  ·exact ⟨hp.vars _ iE,by simp only []; omega,hp.zero.1⟩
  ·exact ⟨hp.news _ iE,by simp only []; omega,hp.zero.2.1⟩
 rintro u G M2 hq;have e2:([(some ⟨r3,0,none⟩,1,[0]),(p.vA,p.vC,p.vars),(p.nA,p.nC,p.news)]:List Lz).flatMap (·.2.2)=yK p:=by simp [yK]
 rw [e2] at hq;obtain ⟨hG,_,_,_,aq,cq,rfl,rdq⟩:=hq.le wJ (by simp [yK]; omega);refine ⟨(fun h=>by cases h),?_⟩;simp only [go_sem];exact hG ▸ hq.lK kp
theorem k78 (p:Pg)(hp:p.rd F)(hold:Old F M):aI prog 78 [p.val] F M (tK 1 fV 3 (yK p) F M):=by
 refine qZ hm func78 e78 (aA rfl) ?_;have hfew:=hp.few;simp only [c78,go_sem];intro r1 hF1 hM1;simp only [go_sem];intro r3 hF3 dN;simp only [qD] at dN;have oV:Keep M (M.upd r1 ⟨p.cs,43,7⟩):=(Keep.refl M).new hM1;have mine:yW 1 fV 3 F M ((M.upd r1 ⟨p.cs,43,7⟩).upd r3 ⟨[.int .i64 0],3,1⟩) (.slice (some ⟨r3,0,none⟩) 1 1) [0]:=yW.one (x:=(0:Int)) (f:=fV) hF3 dN.2 rfl;have fC:Keep M ((M.upd r1 ⟨p.cs,43,7⟩).upd r3 ⟨[.int .i64 0],3,1⟩):=(by repeat' first | exact Keep.refl _ | (refine Keep.new ?_ (by simp only [*])))
 have dA:Old F ((M.upd r1 ⟨p.cs,43,7⟩).upd r3 ⟨[.int .i64 0],3,1⟩):=(by repeat' first | assumption | (refine Old.upd ?_ (by assumption)))
 simp only [go_sem];refine kU (xs:=[0]) (ys:=p.vars) wJ kJ (by decide) mine fC (dF.src wJ (hp.vars _ dA) hp.zero.1) (by simp; omega) ?_;rintro v5 M5 vXH eH ho5 mQ;have dB:=ho5 dA;simp only [go_sem];refine kU (xs:=[0]++p.vars) (ys:=p.news) wJ kJ (by decide) mQ eH (dF.src wJ (hp.news _ dB) hp.zero.2.1) (by simp; omega) ?_;rintro v6 M6 hfr6 iZ ho6 qKQ;obtain ⟨a6,c6,e6⟩:=qKQ.shape;simp only [go_sem];exact qKQ.done iZ
end Go.Proofs.Tryz.K
namespace Go.Ax
open Go
def lQ (x:By):Bool:=
 if x.st=0 then decide (x=⟨0,0,0,0,0⟩) else if x.st=1 then (decide (0<=x.n) && decide (x.n<=255)) && decide (x.b=0) && decide (x.o=0) && decide (x.i=0)
 else if x.st=2 then decide (x.n=0) && (decide (1<=x.b) && decide (x.b<=32)) && (decide (0<=x.o) && decide (x.o<=32)) && (decide (0<=x.i) && decide (x.i<=3)) else false
end Go.Ax
namespace Go.Proofs.Tryz.K
open Go Go.Ax Go.Proofs.Tryz.S
variable (F:Fz) (M:Hp)
def kDD (l:List By)(p:By->Bool)(F0:Fz)(M0:Hp)(i:Nat)(σ:Env)(F:Fz)(M:Hp):Prop:=
 F0=F/\M0=M/\Ax.look σ 8=some (.int .i64 i)/\(l.take i).any p=false
theorem kDY (ad:Option Addr)(cap:Nat)(l:List By)(g:Nat)(ca:List Value)(p:By->Bool)(h:dF 5 By.cs F M (.slice ad l.length cap) l)
  (hp:∀v∈l,aI prog g ([v.val]++ca) F M (Same F M (.bool (p v)))) :
  aI prog 217 [.slice ad l.length cap,.func (.func g) #[] ca.toArray] F M fun r F' M'=>F'=F/\M'=M/\((l.any p=false/\r=.int .i64 (-1))\/∃i:Nat,r=.int .i64 i/\∃hi:i < l.length,p l[i]=true/\(l.take i).any p=false):=by
 refine qZ hm func217 e217 (aA rfl) ?_;simp only [zZK,go_sem];refine wV l.length (kDD l p F M) ⟨rfl,rfl,(by simp only [go_sem, *] <;> rfl),rfl⟩ ?_;rintro i σ F' M' hi hs ⟨rfl,rfl,h8,ha⟩;have s0:=hs 0 rfl;have s1:=hs 1 rfl;have s7:=hs 7 rfl;simp only [go_sem] at s0 s1 s7;clear hs;by_cases hil:(i:Int) < l.length
 ·have hi0:(0:Int)<=i:=by omega
  have eU:i < l.length:=by omega
  have hle:=h.1;have ei:i64.wrap ((i:Int)+1)=i+1:=dQ (by omega) (by omega);have t1:=aF eU;have hfin:p l[i]=true->(l.any p=false/\Value.int .i64 (i:Int)=.int .i64 (-1))\/∃j:Nat,Value.int .i64 (i:Int)=.int .i64 j/\∃hi:j < l.length,p l[j]=true/\(l.take j).any p=false:=fun hv=>.inr ⟨i,rfl,eU,hv,ha⟩
  obtain ⟨b,o,cs,rfl,hb,d1,d2⟩:=dF.at h eU;have hq:=hp l[i] (aH _);generalize l[i]=v at *;simp only [go_sem,s0,s1,s7,h8,hil,hi0,aB,hb,d1,d2];refine qQ hq ?_;cases hv:p v
  ·simp only [go_sem,h8,ei];exact ⟨eU,rfl,rfl,(by simp only [go_sem, *] <;> rfl),by rw [t1,List.any_append,ha]; simp [hv]⟩
  ·simp only [go_sem];exact qW ⟨rfl,rfl,hfin hv⟩
 ·rw [aJ (by omega)] at ha;simp only [go_sem,s7,h8,hil];exact qW ⟨rfl,rfl,.inl ⟨ha,rfl⟩⟩
theorem kDA (ad:Option Addr)(cap:Nat)(l:List By)(g:Nat)(ca:List Value)(p:By->Bool)(h:dF 5 By.cs F M (.slice ad l.length cap) l)
  (hp:∀v∈l,aI prog g ([v.val]++ca) F M (Same F M (.bool (p v)))) :
  aI prog 203 [.slice ad l.length cap,.func (.func g) #[] ca.toArray] F M (Same F M (.bool (l.any p))):=by
 refine qZ hm func203 e203 (aA rfl) ?_;simp only [c203,go_sem];refine wW (kDY F M ad cap l g ca p h hp) ?_;rintro r G M' ⟨hG,hM,hz⟩;rw [hG,hM];refine ⟨(fun h=>by cases h),?_⟩;rcases hz with ⟨hz,rfl⟩ | ⟨i,rfl,hi,hz,_⟩
 ·simp only [go_sem];exact qW ⟨by rw [hz],rfl,rfl⟩
 ·have:l.any p=true:=List.any_eq_true.2 ⟨_,aH hi,hz⟩;have hi0:(0:Int)<=i:=by omega
  simp only [go_sem,hi0];exact qW ⟨by rw [this],rfl,rfl⟩
end Go.Proofs.Tryz.K
namespace Go.Ax
open Go
@[go_sem] theorem dM.bad2 {s:dM}:List.take 2 (List.drop 3 s.cs)=Al.cs ⟨s.p,s.w⟩:=rfl
def nP (sz:List Int)(b:Int):Int:=(sz[b.toNat]?).getD 0
def zL (sz:List Int)(x:By):Bool:=!(decide (x.st=2) && (decide ((sz.length:Int)<=x.b) || decide (nP sz x.b < x.o)))
theorem wQK {sz:List Int}{i:Nat}(h:i < sz.length):nP sz i=sz[i]:=by
 unfold nP;rw [aB,List.getElem?_eq_getElem h]; rfl
end Go.Ax
namespace Go.Proofs.Tryz.K
open Go Go.Ax Go.Proofs.Tryz.S
variable (F:Fz) (M:Hp)
def fQ (p:Int × Int):Value:=.tuple #[.int .i64 p.1,.int .i64 p.2]
theorem vZX (k v:Int)(hk:isK k=true):aI prog 192 [.int .i64 k,.int .i64 v] F M (Same F M (fQ (rM k v))):=by
 refine qZ hm func192 kJW (aA rfl) ?_;have hw:=jQ k;have lw:=jJ hw;have hp:=zJ hw;simp only [zXG,go_sem];refine qQ (k52 F _ k) ?_;simp only [go_sem,zV hk];refine qQ (yZG F _ k) ?_;have w1:i64.wrap (iF k - 1)=iF k - 1:=dQ (by omega) (by omega);have s0:¬iF k - 1 < 0:=by omega
 have e1:qF .i64 1 (iF k - 1)=jR (iF k):=qXZ (by omega) (by omega);have e2:i64.wrap (jR (iF k) - 1)=jR (iF k) - 1:=dQ (by omega) (by omega);have e4:i64.wrap (0 - jR (iF k)) = -(jR (iF k)):=by rw [dQ (by omega) (by omega)]; omega
 cases hs:wP k
 ·simp only [go_sem];refine qQ (qZA F _ _ _ lw.1 lw.2) ?_;simp only [go_sem];exact qW ⟨by simp [fQ,rM,hs],rfl,rfl⟩
 ·simp only [go_sem,w1,s0,e1,e2,e4,not_false_eq_true];refine qQ (k47 F _ v _ _) ?_;by_cases hb:-(jR (iF k))<=v/\v<=jR (iF k) - 1
  ·have:(decide (-(jR (iF k))<=v) && decide (v<=jR (iF k) - 1))=true:=by simp [hb.1,hb.2]
   simp only [go_sem,this];refine qQ (qZA F _ _ _ lw.1 lw.2) ?_;simp only [go_sem];have hn:¬(wP k=true/\(v < jH k\/gH k < v)):=by
    simp only [jH,gH,hs,if_true]; omega
   exact qW ⟨by simp only [fQ,rM,if_neg hn],rfl,rfl⟩
  ·have:(decide (-(jR (iF k))<=v) && decide (v<=jR (iF k) - 1))=false:=by
    rw [bI]; simp only [decide_eq_false_iff_not]; omega
   simp only [go_sem,this];have hn:wP k=true/\(v < jH k\/gH k < v):=by
    refine ⟨hs,?_⟩;simp only [jH,gH,hs,if_true]; omega
   exact qW ⟨by simp only [fQ,rM,if_pos hn],rfl,rfl⟩
theorem wGV (k v:Int)(hk:isK k=true):aI prog 223 [.int .i64 k,.int .i64 v] F M (Same F M (fQ (rM k v))):=by
 refine qZ hm func223 e223 (aA rfl) ?_;have lw:=jJ (jQ k);simp only [zZG,go_sem];refine qQ (zJQ F _ k hk) ?_;simp only [go_sem];refine qQ (xXJ F _ k) ?_;cases hs:wP k
 ·simp only [go_sem];refine qQ (qHZ F _ k hk) ?_;simp only [go_sem];refine qQ (wDK F _ _ _ lw.1 lw.2) ?_;simp only [go_sem];exact qW ⟨by simp [fQ,rM,hs],rfl,rfl⟩
 by_cases h1:v < jH k
 ·simp only [go_sem,h1];exact qW ⟨by simp [fQ,rM,hs,h1],rfl,rfl⟩
 by_cases h2:gH k < v
 ·simp only [go_sem,h1,h2];exact qW ⟨by simp [fQ,rM,hs,h2],rfl,rfl⟩
 simp only [go_sem,h1,h2];refine qQ (qHZ F _ k hk) ?_;simp only [go_sem];refine qQ (wDK F _ _ _ lw.1 lw.2) ?_;simp only [go_sem];exact qW ⟨by simp [fQ,rM,h1,h2],rfl,rfl⟩
theorem zHK (op k u v:Int)(hk:isK k=true)(hop:op=11\/op=12)(u0:jH k<=u)(u1:u<=gH k)(v0:jH k<=v)(v1:v<=gH k) :
  aI prog 224 [.int .i64 op,.int .i64 k,.int .i64 u,.int .i64 v] F M (Same F M (fQ (yL op k u v))):=by
 refine qZ hm func224 e224 (aA rfl) ?_;have kd:=kinds hk;have rm:=yZY (v:=v) hk u0 u1;have em:u.tmod v % 2 ^ (iF k).toNat=(rM k (u.tmod v)).1/\(rM k (u.tmod v)).2=0:=by rw [yZD rm.1 rm.2]; exact ⟨rfl,rfl⟩
 simp only [zZV,go_sem];refine qQ (zJQ F _ k hk) ?_;by_cases hv:v=0
 ·simp only [go_sem,hv];exact qW ⟨by simp [fQ,yL],rfl,rfl⟩
 simp only [go_sem,hv];refine qQ (xXJ F _ k) ?_;by_cases hc:wP k=true/\u=jH k/\v = -1
 ·obtain ⟨c1,c2,c3⟩:=hc;simp only [go_sem,c1,c2,c3];exact qW ⟨by simp [fQ,yL,c1],rfl,rfl⟩
 have rq:=qYC hk u0 u1 v0 hv hc;have eq:i64.wrap (u.tdiv v)=u.tdiv v:=dQ (by omega) (by omega);have fq:=yZD rq.1 rq.2;have fm:=yZD rm.1 rm.2;have rest:∀b1 b2:Bool,True:=fun _ _=>trivial
 have dv:yL op k u v=((if op=11 then u.tdiv v else u.tmod v) % 2 ^ (iF k).toNat,0):=by unfold yL; rw [if_neg hv,if_neg hc]
 have hcase:(wP k=false)\/(wP k=true/\¬u=jH k)\/(wP k=true/\u=jH k/\¬v = -1):=by
  cases hs:wP k
  ·exact .inl rfl
  ·by_cases h1:u=jH k
   ·exact .inr (.inr ⟨rfl,h1,fun h=>hc ⟨hs,h1,h⟩⟩)
   ·exact .inr (.inl ⟨rfl,h1⟩)
 rcases hop with rfl | rfl
 ·rcases hcase with h1 | ⟨h1,h2⟩ | ⟨h1,h2,h3⟩
  ·simp only [go_sem,h1,hv,eq,not_false_eq_true];refine qQ (wGV F _ k _ hk) ?_;rw [fq];simp only [fQ,go_sem];exact qW ⟨by rw [dv]; simp [],rfl,rfl⟩
  ·simp only [go_sem,h1,h2,hv,eq,not_false_eq_true];refine qQ (wGV F _ k _ hk) ?_;rw [fq];simp only [fQ,go_sem];exact qW ⟨by rw [dv]; simp [],rfl,rfl⟩
  ·rw [h2] at eq fq dv;simp only [go_sem,h1,h2,h3,hv,eq,not_false_eq_true];refine qQ (wGV F _ k _ hk) ?_;rw [fq];simp only [fQ,go_sem];exact qW ⟨by rw [dv]; simp [],rfl,rfl⟩
 ·rcases hcase with h1 | ⟨h1,h2⟩ | ⟨h1,h2,h3⟩
  ·simp only [go_sem,h1,hv,not_false_eq_true];refine qQ (wGV F _ k _ hk) ?_;rw [fm];simp only [fQ,go_sem];exact qW ⟨by rw [dv]; simp [],rfl,rfl⟩
  ·simp only [go_sem,h1,h2,hv,not_false_eq_true];refine qQ (wGV F _ k _ hk) ?_;rw [fm];simp only [fQ,go_sem];exact qW ⟨by rw [dv]; simp [],rfl,rfl⟩
  ·rw [h2] at fm dv;simp only [go_sem,h1,h2,h3,hv,not_false_eq_true];refine qQ (wGV F _ k _ hk) ?_;rw [fm];simp only [fQ,go_sem];exact qW ⟨by rw [dv]; simp [],rfl,rfl⟩
theorem zHJ (op k a u v:Int)(hk:isK k=true)(hop:op=16\/op=17)(a0:0<=a)(a1:a<=wD (iF k)) :
  aI prog 225 [.int .i64 op,.int .i64 k,.int .i64 a,.int .i64 u,.int .i64 v] F M (Same F M (fQ (oQ op k a u v))):=by
 refine qZ hm func225 kJA (aA rfl) ?_;have kd:=kinds hk;have ow:=wDY k;have lw:=jJ (jQ k);simp only [zZH,go_sem];refine qQ (qHZ F _ k hk) ?_;by_cases h1:v < 0
 ·simp only [go_sem,h1];exact qW ⟨by simp [fQ,oQ,h1],rfl,rfl⟩
 by_cases h2:iF k<=v
 ·simp only [go_sem,h1,h2];exact qW ⟨by simp [fQ,oQ,h2],rfl,rfl⟩
 have e1:=jJJ (a:=a) (v:=v) a0 (by omega) (by omega) (by omega);have e2:=yGE (u:=u) (v:=v) (by omega) (by omega);have dv:oQ op k a u v=((if op=16 then a * 2 ^ v.toNat else u / 2 ^ v.toNat) % 2 ^ (iF k).toNat,0):=by unfold oQ; rw [if_neg (by omega)]
 rw [dv];rcases hop with rfl | rfl
 ·simp only [go_sem,h1,h2,e1,not_false_eq_true];refine qQ (wDK F _ _ _ lw.1 lw.2) ?_;simp only [go_sem];exact qW ⟨rfl,rfl,rfl⟩
 ·simp only [go_sem,h1,h2,e2,not_false_eq_true];refine qQ (wDK F _ _ _ lw.1 lw.2) ?_;simp only [go_sem];exact qW ⟨rfl,rfl,rfl⟩
theorem vZZ (b:Bool):aI prog 220 [.bool b] F M (Same F M (.int .i64 (if b then 1 else 0))):=by
 refine qZ hm func220 e220 (aA rfl) ?_;cases b
 ·simp only [vQC,go_sem];exact qW ⟨rfl,rfl,rfl⟩
 ·simp only [vQC,go_sem];exact qW ⟨rfl,rfl,rfl⟩
def yVH (op:Int):Bool:=decide (8<=op) && decide (op<=19)
theorem wKQ {op:Int}(h:yVH op=true):op=8\/op=9\/op=10\/(op=11\/op=12)\/op=13\/op=14\/op=15\/(op=16\/op=17)\/op=18\/op=19:=by
 simp [yVH] at h;omega
theorem zHG (op k a b:Int)(hk:isK k=true)(hop:yVH op=true)(a0:0<=a)(a1:a<=wD (iF k))(b0:0<=b)(b1:b<=wD (iF k)) :
  aI prog 214 [.int .i64 op,.int .i64 k,.int .i64 a,.int .i64 b] F M (Same F M (fQ (rO op k a b))):=by
 refine qZ hm func214 e214 (aA rfl) ?_;have kd:=kinds hk;have ra:=yI a0 a1 (k:=k);have rb:=yI b0 b1 (k:=k);have inj:yX k a=yX k b↔a=b:=⟨fun h=>jKD a0 a1 b0 b1 h,fun h=>by rw [h]⟩
 have vZK:i64.wrap (yX k a+yX k b)=yX k a+yX k b:=dQ (by omega) (by omega);have vZJ:i64.wrap (yX k a - yX k b)=yX k a - yX k b:=dQ (by omega) (by omega);have kDB:rM k (i64.wrap (yX k a * yX k b))=rM k (yX k a * yX k b):=jJG (by
  cases hs:wP k
  ·exact .inl rfl
  ·have:=wZY hk hs ra.1 ra.2 rb.1 rb.2;exact .inr ⟨by omega,by omega⟩)
 simp only [zZW,go_sem];refine qQ (vWY F _ k a a0 a1) ?_;simp only [go_sem];refine qQ (vWY F _ k b b0 b1) ?_;rcases wKQ hop with rfl | rfl | rfl | h | rfl | rfl | rfl | h | rfl | rfl
 ·simp only [go_sem,vZK];refine qQ (wGV F _ k _ hk) ?_;simp only [fQ,go_sem];exact qW ⟨rfl,rfl,rfl⟩
 ·simp only [go_sem,vZJ];refine qQ (wGV F _ k _ hk) ?_;simp only [fQ,go_sem];exact qW ⟨rfl,rfl,rfl⟩
 ·simp only [go_sem];refine qQ (wGV F _ k _ hk) ?_;rw [kDB];simp only [fQ,go_sem];exact qW ⟨rfl,rfl,rfl⟩
 ·have e:rO op k a b=yL op k (yX k a) (yX k b):=by rcases h with rfl | rfl <;> rfl
  rw [e];rcases h with rfl | rfl
  ·simp only [go_sem];refine qQ (zHK F _ 11 k _ _ hk (.inl rfl) ra.1 ra.2 rb.1 rb.2) ?_;simp only [fQ,go_sem];exact qW ⟨rfl,rfl,rfl⟩
  ·simp only [go_sem];refine qQ (zHK F _ 12 k _ _ hk (.inr rfl) ra.1 ra.2 rb.1 rb.2) ?_;simp only [fQ,go_sem];exact qW ⟨rfl,rfl,rfl⟩
 ·simp only [go_sem];exact qW ⟨rfl,rfl,rfl⟩
 ·simp only [go_sem];exact qW ⟨rfl,rfl,rfl⟩
 ·simp only [go_sem];exact qW ⟨rfl,rfl,rfl⟩
 ·have e:rO op k a b=oQ op k a (yX k a) (yX k b):=wZD h;rw [e];rcases h with rfl | rfl
  ·simp only [go_sem];refine qQ (zHJ F _ 16 k a _ _ hk (.inl rfl) a0 a1) ?_;simp only [fQ,go_sem];exact qW ⟨rfl,rfl,rfl⟩
  ·simp only [go_sem];refine qQ (zHJ F _ 17 k a _ _ hk (.inr rfl) a0 a1) ?_;simp only [fQ,go_sem];exact qW ⟨rfl,rfl,rfl⟩
 ·simp only [go_sem];refine qQ (vZZ F _ _) ?_;simp only [go_sem];exact qW ⟨by simp only [fQ,rO]; simp [inj],rfl,rfl⟩
 ·simp only [go_sem];refine qQ (vZZ F _ _) ?_;simp only [go_sem];exact qW ⟨by simp only [fQ,rO]; simp,rfl,rfl⟩
theorem zHV (op k a b:Int)(hk:isK k=true)(hop:yVH op=true)(a0:0<=a)(a1:a<=wD (iF k))(b0:0<=b)(b1:b<=wD (iF k)) :
  aI prog 166 [.int .i64 op,.int .i64 k,.int .i64 a,.int .i64 b] F M (Same F M (fQ (rO op k a b))):=by
 refine qZ hm func166 e166 (aA rfl) ?_;have kd:=kinds hk;have ow:=wDY k;have hW:=jQ k;have lw:=jJ hW;have hp:=zJ hW;have ra:=yI a0 a1 (k:=k);have rb:=yI b0 b1 (k:=k);have vZK:i64.wrap (yX k a+yX k b)=yX k a+yX k b:=dQ (by omega) (by omega);have vZJ:i64.wrap (yX k a - yX k b)=yX k a - yX k b:=dQ (by omega) (by omega);have w1:i64.wrap (iF k - 1)=iF k - 1:=dQ (by omega) (by omega);have s0:¬iF k - 1 < 0:=by omega
 have s00:¬iF k < 0:=by omega
 have e1:qF .i64 1 (iF k - 1)=jR (iF k):=qXZ (by omega) (by omega);have e4:i64.wrap (0 - jR (iF k)) = -(jR (iF k)):=by rw [dQ (by omega) (by omega)]; omega
 simp only [zWV,go_sem];refine qQ (k52 F _ k) ?_;simp only [go_sem,zV hk];refine qQ (vWA F _ k a a0 a1) ?_;simp only [go_sem];refine qQ (vWA F _ k b b0 b1) ?_;rcases wKQ hop with rfl | rfl | rfl | h | rfl | rfl | rfl | h | rfl | rfl
 ·simp only [go_sem,vZK];refine qQ (vZX F _ k _ hk) ?_;simp only [fQ,go_sem];exact qW ⟨rfl,rfl,rfl⟩
 ·simp only [go_sem,vZJ];refine qQ (vZX F _ k _ hk) ?_;simp only [fQ,go_sem];exact qW ⟨rfl,rfl,rfl⟩
 ·simp only [go_sem];refine qQ (yZG F _ k) ?_;cases hs:wP k
  ·have ea:yX k a=a:=by simp [yX,hs]
   have eb:yX k b=b:=by simp [yX,hs]
   have c1:IntKind.u64.wrap a=a:=u64_in a0 (by omega);have c2:IntKind.u64.wrap b=b:=u64_in b0 (by omega);have c3:=xXC hW;have c4:IntKind.u64.wrap (2 ^ (iF k).toNat - 1)=wD (iF k):=u64_in (by omega) (by omega);have hm:0<=a * b:=Int.mul_nonneg a0 b0;have hm1:a * b<=4294967295 * 4294967295:=Int.mul_le_mul (by omega) (by omega) b0 (by omega);have c5:IntKind.u64.wrap (a * b)=a * b:=u64_in hm (by omega);have c6:band .u64 (a * b) (wD (iF k))=a * b % 2 ^ (iF k).toNat:=by
    obtain ⟨n,hn⟩:∃n:Nat,a * b=n:=⟨(a * b).toNat,by omega⟩
    rw [hn];exact u64_and hW (by omega)
   have hn:=jJX (wI (x:=a * b) hW);have c7:i64.wrap (a * b % 2 ^ (iF k).toNat)=a * b % 2 ^ (iF k).toNat:=dQ (by omega) (by omega);simp only [go_sem,ea,eb,c1,c2,s00,c3,c4,c5,c6,c7,not_false_eq_true];refine qW ⟨?_,rfl,rfl⟩;show _=fQ (rM k (yX k a * yX k b));rw [wGZ hs,ea,eb];rfl
  ·have hb:=wZY hk hs ra.1 ra.2 rb.1 rb.2;have c1:i64.wrap (yX k a * yX k b)=yX k a * yX k b:=dQ (by omega) (by omega);simp only [go_sem,c1];refine qQ (vZX F _ k _ hk) ?_;simp only [fQ,go_sem];exact qW ⟨rfl,rfl,rfl⟩
 ·have e:rO op k a b=yL op k (yX k a) (yX k b):=by rcases h with rfl | rfl <;> rfl
  rw [e];generalize yX k a=u at *;generalize yX k b=v at *;have hop2:op=11\/op=12:=h;by_cases hv:v=0
  ·have dv:yL op k u v=(0,6):=by unfold yL; rw [if_pos hv]
   rw [dv];rcases h with rfl | rfl <;> simp only [go_sem,hv] <;> exact qW ⟨rfl,rfl,rfl⟩
  have hl:wP k=true->jH k = -(jR (iF k)):=fun h=>by simp [jH,h]
  by_cases hc:wP k=true/\u=jH k/\v = -1
  ·have dv:yL op k u v=(0,4):=by unfold yL; rw [if_neg hv,if_pos hc]
   rw [dv];obtain ⟨c1,c2,c3⟩:=hc;rw [hl c1] at c2;rcases h with rfl | rfl
   ·simp only [go_sem,hv];refine qQ (yZG F _ k) ?_;simp only [go_sem,c1,c2,c3,w1,s0,e1,e4,not_false_eq_true];exact qW ⟨rfl,rfl,rfl⟩
   ·simp only [go_sem,hv];refine qQ (yZG F _ k) ?_;simp only [go_sem,c1,c2,c3,w1,s0,e1,e4,not_false_eq_true];exact qW ⟨rfl,rfl,rfl⟩
  have dv:yL op k u v=((if op=11 then u.tdiv v else u.tmod v) % 2 ^ (iF k).toNat,0):=by unfold yL; rw [if_neg hv,if_neg hc]
  rw [dv];have rq:=qYC hk ra.1 ra.2 rb.1 hv hc;have eq:i64.wrap (u.tdiv v)=u.tdiv v:=dQ (by omega) (by omega);have hcase:(wP k=false)\/(wP k=true/\¬u = -(jR (iF k)))\/(wP k=true/\u = -(jR (iF k))/\¬v = -1):=by
   cases hs:wP k
   ·exact .inl rfl
   ·by_cases h1:u = -(jR (iF k))
    ·exact .inr (.inr ⟨rfl,h1,fun h=>hc ⟨hs,by rw [hl hs]; exact h1,h⟩⟩)
    ·exact .inr (.inl ⟨rfl,h1⟩)
  rcases h with rfl | rfl
  ·simp only [go_sem,hv];refine qQ (yZG F _ k) ?_;rcases hcase with h1 | ⟨h1,h2⟩ | ⟨h1,h2,h3⟩
   ·simp only [go_sem,h1,hv,eq,not_false_eq_true];refine qQ (qZA F _ _ _ lw.1 lw.2) ?_;simp only [go_sem];exact qW ⟨rfl,rfl,rfl⟩
   ·simp only [go_sem,h1,h2,hv,eq,w1,s0,e1,e4,not_false_eq_true];refine qQ (qZA F _ _ _ lw.1 lw.2) ?_;simp only [go_sem];exact qW ⟨rfl,rfl,rfl⟩
   ·rw [h2] at eq ⊢;simp only [go_sem,h1,h3,hv,eq,w1,s0,e1,e4,not_false_eq_true];refine qQ (qZA F _ _ _ lw.1 lw.2) ?_;simp only [go_sem];exact qW ⟨rfl,rfl,rfl⟩
  ·simp only [go_sem,hv];refine qQ (yZG F _ k) ?_;rcases hcase with h1 | ⟨h1,h2⟩ | ⟨h1,h2,h3⟩
   ·simp only [go_sem,h1,hv,not_false_eq_true];refine qQ (qZA F _ _ _ lw.1 lw.2) ?_;simp only [go_sem];exact qW ⟨rfl,rfl,rfl⟩
   ·simp only [go_sem,h1,h2,hv,w1,s0,e1,e4,not_false_eq_true];refine qQ (qZA F _ _ _ lw.1 lw.2) ?_;simp only [go_sem];exact qW ⟨rfl,rfl,rfl⟩
   ·rw [h2] at ⊢;simp only [go_sem,h1,h3,hv,w1,s0,e1,e4,not_false_eq_true];refine qQ (qZA F _ _ _ lw.1 lw.2) ?_;simp only [go_sem];exact qW ⟨rfl,rfl,rfl⟩
 ·simp only [go_sem];exact qW ⟨rfl,rfl,rfl⟩
 ·simp only [go_sem];exact qW ⟨rfl,rfl,rfl⟩
 ·simp only [go_sem];exact qW ⟨rfl,rfl,rfl⟩
 ·rw [wZD h];generalize yX k a=u at *;generalize yX k b=v at *;by_cases hv:0<=v/\v<=iF k - 1
  ·have c0:(decide (0<=v) && decide (v<=iF k - 1))=true:=by simp [hv.1,hv.2]
   have dv:oQ op k a u v=((if op=16 then a * 2 ^ v.toNat else u / 2 ^ v.toNat) % 2 ^ (iF k).toNat,0):=by unfold oQ; rw [if_neg (by omega)]
   rw [dv];have h1:¬v < 0:=by omega
   have c1:=jJJ (a:=a) (v:=v) a0 (by omega) (by omega) (by omega);have c2:=yGE (u:=u) (v:=v) (by omega) (by omega);rcases h with rfl | rfl
   ·simp only [go_sem,w1];refine qQ (k49 F _ v _) ?_;simp only [go_sem,c0,h1,c1,not_false_eq_true];refine qQ (qZA F _ _ _ lw.1 lw.2) ?_;simp only [go_sem];exact qW ⟨rfl,rfl,rfl⟩
   ·simp only [go_sem,w1];refine qQ (k49 F _ v _) ?_;simp only [go_sem,c0,h1,c2,not_false_eq_true];refine qQ (qZA F _ _ _ lw.1 lw.2) ?_;simp only [go_sem];exact qW ⟨rfl,rfl,rfl⟩
  ·have c0:(decide (0<=v) && decide (v<=iF k - 1))=false:=by
    rw [bI]; simp only [decide_eq_false_iff_not]; omega
   have dv:oQ op k a u v=(0,5):=by unfold oQ; rw [if_pos (by omega)]
   rw [dv];rcases h with rfl | rfl
   ·simp only [go_sem,w1];refine qQ (k49 F _ v _) ?_;simp only [go_sem,c0];exact qW ⟨rfl,rfl,rfl⟩
   ·simp only [go_sem,w1];refine qQ (k49 F _ v _) ?_;simp only [go_sem,c0];exact qW ⟨rfl,rfl,rfl⟩
 ·simp only [go_sem];refine qQ (vWB F _ _) ?_;simp only [go_sem];exact qW ⟨by simp only [fQ,rO]; simp,rfl,rfl⟩
 ·simp only [go_sem];refine qQ (vWB F _ _) ?_;simp only [go_sem];exact qW ⟨by simp only [fQ,rO]; simp,rfl,rfl⟩
theorem gW {F:Fz}{M:Hp}{u:Value}{l:List Int}(h:dF 1 fV F M u l){i:Nat}(hi:i < l.length):∃b o cap cs,u=.slice (some ⟨b,o,none⟩) l.length cap/\blk F M b=some cs/\cs[o+i]? = some (.int .i64 l[i]):=by
 obtain ⟨_,ad,cap,_,rfl,h⟩:=h;rcases h with h | ⟨b,o,cs,rfl,hb,hc⟩
 ·rw [h] at hi; simp at hi
 ·have:=one_row (hc i hi).2;rw [Nat.mul_one] at this;exact ⟨b,o,cap,cs,rfl,hb,this⟩
theorem zHH (x:Int):aI prog 175 [.int .i64 x] F M (Same F M (.bool false)):=by
 refine qZ hm func175 kKJ (aA rfl) ?_;simp only [c175,go_sem];exact qW ⟨by simp,rfl,rfl⟩
end Go.Proofs.Tryz.K
namespace Go.Ax
open Go
@[go_sem] theorem Pg.take2 {p:Pg}:List.take 2 p.cs=[.bool p.big,.int .i64 p.ptr]:=rfl
@[go_sem] theorem Cl.zZC {s:Cl}:List.take 6 (List.drop 3 s.cs)=s.v.cs:=rfl
@[go_sem] theorem Cl.wDZ {s:Cl}:List.take 7 (List.drop 3 s.cs)=gG s.v (.slice s.lA s.l.length s.lC):=rfl
def yJ (ptr k:Int):Int:=if k=0\/k=11 then 1 else if k=7 then ptr else (wK k).tdiv 8
def jY (c:Pc):Bool:=
 if c.k=0 then decide (c.v=V.zero) && decide (c.l.length=0) else if c.k=11 then c.v.ok && decide (c.v.w=8) && gX c.l else isS c.k && uM c.k c.v c.l
def pU (l:List Ba)(n:Int):Bool:=l.all fun x=>decide (x.b<=n)
def pI (ptr:Int)(sz:List Int)(c:Pc):Bool:=
 jY c && (decide (1<=c.b) && decide (c.b < sz.length)) && decide (0<=c.p) && pU c.l ((sz.length:Int) - 1) && decide (c.p.tmod (yJ ptr c.k)=0) && decide (c.p<=nP sz c.b - yJ ptr c.k)
def sV (a b:Pc):Bool:=if a.b=b.b then (if a.p=b.p then decide (a.k < b.k) else decide (a.p < b.p)) else decide (a.b < b.b)
def zY (l:List Pc)(i:Nat)(c:Pc):Bool:=match l[i - 1]? with | some b=>sV b c | none=>true
def qJJ (ptr:Int)(sz:List Int)(l:List Pc)(i:Nat):Bool:=match l[i]? with
 | some c=>pI ptr sz c && (decide (i=0) || zY l i c)
 | none=>true
theorem wQJ {ptr:Int}{sz:List Int}{l:List Pc}{i:Nat}{c:Pc}(h:l[i]? = some c):qJJ ptr sz l i=(pI ptr sz c && (decide (i=0) || zY l i c)):=by
 unfold qJJ; rw [h]
theorem wQG {l:List Pc}{i:Nat}{b c:Pc}(h:l[i - 1]? = some b):zY l i c=sV b c:=by
 unfold zY; rw [h]
def rD (ptr:Int)(sz:List Int)(l:List Pc)(n:Nat):Bool:=(List.range n).all (qJJ ptr sz l)
structure Pe where
 no:Bool
 cells:List Pc
 news:List Int
instance Pe.dec:DecidableEq Pe:=fun x y=>decidable_of_iff (x.no=y.no/\x.cells=y.cells/\x.news=y.news) (by cases x; cases y; simp)
def En.pe (e:En):Pe:=⟨e.no,e.cells.map Cl.pc,e.news⟩
def inB (n:Int):Bool:=decide (1<=n) && decide (n<=15)
def pJ (p:Pg)(e:Pe):Bool:=
 if e.no=true then decide (e.cells.length=0) && decide (e.news.length=0)
 else decide (e.cells.length<=200) && decide (e.news.length=p.news.length) && e.news.all inB && rD p.ptr (yK p) e.cells e.cells.length
theorem qKW {ptr:Int}{sz:List Int}{l:List Pc}{n:Nat}:rD ptr sz l (n+1)=(rD ptr sz l n && qJJ ptr sz l n):=by
 unfold rD;rw [List.range_succ,List.all_append];simp
theorem wQV {ptr:Int}{sz:List Int}{l:List Pc}{n i:Nat}(hi:i < n)(h:qJJ ptr sz l i=false):rD ptr sz l n=false:=by
 unfold rD;rw [dP];exact ⟨i,by simpa using hi,by simp [h]⟩
theorem yH {p:Pg}(h:wY p=true):(p.ptr=2\/p.ptr=4)/\p.vars.length<=4/\p.news.length<=2/\(∀n∈p.vars,1<=n/\n<=32)/\(∀n∈p.news,1<=n/\n<=32):=by
 simp only [wY,rC,aC,dJ,decide_eq_true_eq,bW,vO] at h;obtain ⟨⟨⟨⟨⟨⟨⟨h1,h2⟩,h3⟩,_⟩,_⟩,_⟩,_⟩,_⟩:=h;exact ⟨h1,h2.1,h3.1,h2.2,h3.2⟩
theorem jI (p:Pg):(yK p).length=1+p.vars.length+p.news.length:=by simp [yK]; omega
theorem jE {p:Pg}(h:wY p=true)(b:Int):0<=nP (yK p) b/\nP (yK p) b<=32:=by
 obtain ⟨_,_,_,h4,h5⟩:=yH h;unfold nP;cases he:(yK p)[b.toNat]? with
 | none=>simp
 | some n=>
  have hm:=List.mem_of_getElem? he;simp only [yK,aW,aQ,aV,or_false,Option.getD_some] at hm ⊢;rcases hm with (hm | hm) | hm
  ·omega
  ·have:=h4 _ hm; omega
  ·have:=h5 _ hm; omega
theorem jGJ {k:Int}(h:isS k=true)(h7:¬k=7):wK k=8\/wK k=16\/wK k=32:=by
 have:isK k=true:=by simp [isS,isK] at h ⊢; omega
 rw [zV this];unfold iF;split
 ·omega
 split <;> omega
theorem gV {ptr k:Int}(hp:ptr=2\/ptr=4)(hk:k=0\/k=11\/isS k=true):1<=yJ ptr k/\yJ ptr k<=4:=by
 unfold yJ;split
 ·omega
 rename_i h0;split
 ·omega
 rename_i h7;have:isS k=true:=by
  rcases hk with h | h | h
  ·exact absurd (.inl h) h0
  ·exact absurd (.inr h) h0
  ·exact h
 rcases jGJ this h7 with h | h | h <;> rw [h] <;> decide
theorem yS {c:Pc}(h:jY c=true):c.k=0\/c.k=11\/isS c.k=true:=by
 unfold jY at h;split at h
 ·exact .inl (by assumption)
 split at h
 ·exact .inr (.inl (by assumption))
 ·simp only [aC] at h;exact .inr (.inr h.1)
theorem wYJ {l:List Ba}(h:gX l=true)(n:Int):pU l (n - 1)=(decide (l.length=0) || decide ((l.getLast?.map (·.b)).getD 0 < n)):=by
 have hs:=(yYB h).2;clear h;cases l with
 | nil=>simp [pU]
 | cons x l=>
  have key:∀(y:Ba) (l:List Ba),(y :: l).Pairwise (fun x y=>x.b < y.b)->∀z∈y :: l,z.b<=((y :: l).getLast (by simp)).b:=by
   intro y l
   induction l generalizing y with
   | nil=>intro _ z hz; simp at hz; subst hz; simp
   | cons u l ih=>
    intro hp z hz;rw [List.getLast_cons (by simp)];rcases aQ.1 hz with rfl | hz
    ·have h1:=(List.pairwise_cons.1 hp).1 u (by simp);have h2:=ih u (List.pairwise_cons.1 hp).2 u (by simp);omega
    ·exact ih u (List.pairwise_cons.1 hp).2 z hz
  rw [List.getLast?_eq_some_getLast (by simp)];simp only [cZ,Option.getD_some,fF,Nat.add_one_ne_zero,decide_false,Bool.false_or];have hk:=key x l hs;generalize hg:(x :: l).getLast (by simp)=g at *;have hgm:g∈x :: l:=by rw [<-hg]; exact List.getLast_mem _
  unfold pU;by_cases hn:g.b < n
  ·rw [decide_eq_true hn,bW];intro z hz;have:=hk z hz;simp; omega
  ·rw [decide_eq_false hn,dP];exact ⟨g,hgm,by simp; omega⟩
def wS (a b:Int):Int:=if a < b then -1 else if b < a then 1 else 0
def orV (l:List Int):Int:=(l.find? fun n=>!decide (n=0)).getD 0
def jGG (a b:Pc):Int:=orV [wS a.b b.b,wS a.p b.p,wS a.k b.k]
theorem yKZ (a b:Pc):decide (0<=jGG a b) = !sV a b:=by
 have hc:∀x y:Int,(x < y/\wS x y = -1)\/(x=y/\wS x y=0)\/(y < x/\wS x y=1):=fun x y=>by
  unfold wS;split
  ·exact .inl ⟨by assumption,rfl⟩
  split
  ·exact .inr (.inr ⟨by assumption,rfl⟩)
  ·exact .inr (.inl ⟨by omega,rfl⟩)
 unfold jGG sV orV;generalize hx:wS a.b b.b=x at *;generalize hy:wS a.p b.p=y at *;generalize hz:wS a.k b.k=z at *;have c1:=hc a.b b.b;have c2:=hc a.p b.p;have c3:=hc a.k b.k;rw [hx] at c1;rw [hy] at c2;rw [hz] at c3;clear hx hy hz hc;rcases c1 with ⟨h1,rfl⟩ | ⟨h1,rfl⟩ | ⟨h1,rfl⟩
 ·have:¬a.b=b.b:=by omega
  simp [this,h1]
 ·rcases c2 with ⟨h2,rfl⟩ | ⟨h2,rfl⟩ | ⟨h2,rfl⟩
  ·have:¬a.p=b.p:=by omega
   simp [h1,this,h2]
  ·rcases c3 with ⟨h3,rfl⟩ | ⟨h3,rfl⟩ | ⟨h3,rfl⟩
   ·simp [h1,h2,h3]
   ·simp [h1,h2,h3]
   ·have:¬a.k < b.k:=by omega
    simp [h1,h2,this]; try omega
  ·have h4:¬a.p=b.p:=by omega
   have h5:¬a.p < b.p:=by omega
   simp [h1,h4,h5]; try omega
 ·have h4:¬a.b=b.b:=by omega
  have h5:¬a.b < b.b:=by omega
  simp [h4,h5]; try omega
end Go.Ax
namespace Go.Proofs.Tryz.K
open Go Go.Ax Go.Proofs.Tryz.S
variable (F:Fz) (M:Hp)
theorem sJ {ptr k:Int}(h0:¬k=0)(h11:¬k=11):yJ ptr k=nZ ptr k:=by
 unfold yJ nZ; rw [if_neg (by omega)]
theorem zHD (big:Bool)(ptr k:Int)(hk:k=0\/k=11\/isS k=true):aI prog 115 [.agg #[.bool big,.int .i64 ptr],.int .i64 k] F M (Same F M (.int .i64 (yJ ptr k))):=by
 refine qZ hm func115 e115 (aA rfl) ?_;by_cases h0:k=0
 ·simp only [xWE,go_sem]
  repeat' first
  | simp only [go_sem, *]
  | (with_reducible first | apply cD | apply cN | apply cB | apply cO | apply tD | apply fD | apply tN | apply fN | apply tB | apply fB | apply tO | apply fO) <;> intro hc
  | (intro rx hFx lD; (try simp only [qD] at lD))
  all_goals (refine qX (M:=M) (by repeat' first | exact Keep.refl _ | (refine Keep.new ?_ (by simp only [*]))) ⟨?_,rfl,rfl⟩)
  all_goals simp_all [yJ]
 by_cases h11:k=11
 ·simp only [xWE,go_sem]
  repeat' first
  | simp only [go_sem, *]
  | (with_reducible first | apply cD | apply cN | apply cB | apply cO | apply tD | apply fD | apply tN | apply fN | apply tB | apply fB | apply tO | apply fO) <;> intro hc
  | (intro rx hFx lD; (try simp only [qD] at lD))
  all_goals (refine qX (M:=M) (by repeat' first | exact Keep.refl _ | (refine Keep.new ?_ (by simp only [*]))) ⟨?_,rfl,rfl⟩)
  all_goals simp_all [yJ]
 have hs:isS k=true:=by
  rcases hk with h | h | h
  ·exact absurd h h0
  ·exact absurd h h11
  ·exact h
 simp only [xWE,go_sem]
 repeat' first
  | simp only [go_sem, *]
  | (with_reducible first | apply cD | apply cN | apply cB | apply cO | apply tD | apply fD | apply tN | apply fN | apply tB | apply fB | apply tO | apply fO) <;> intro hc
  | (intro rx hFx lD; (try simp only [qD] at lD))
  | with_reducible refine qQ (xZA _ _ _ _ _ hs) ?_
 all_goals (refine qX (M:=M) (by repeat' first | exact Keep.refl _ | (refine Keep.new ?_ (by simp only [*]))) ⟨?_,rfl,rfl⟩)
 rw [sJ h0 h11]
theorem zHY (p:Pg)(k:Int):aI prog 116 [p.val,.int .i64 k] F M (Same F M (.int .i64 (yJ p.ptr k))):=by
 refine qZ hm func116 e116 (aA rfl) ?_;by_cases h0:k=0
 ·simp only [c116,go_sem]
  repeat' first
  | simp only [go_sem, *]
  | (with_reducible first | apply cD | apply cN | apply cB | apply cO | apply tD | apply fD | apply tN | apply fN | apply tB | apply fB | apply tO | apply fO) <;> intro hc
  | (intro rx hFx lD; (try simp only [qD] at lD))
  all_goals (refine qX (M:=M) (by repeat' first | exact Keep.refl _ | (refine Keep.new ?_ (by simp only [*]))) ⟨?_,rfl,rfl⟩)
  all_goals simp_all [yJ]
 by_cases h11:k=11
 ·simp only [c116,go_sem]
  repeat' first
  | simp only [go_sem, *]
  | (with_reducible first | apply cD | apply cN | apply cB | apply cO | apply tD | apply fD | apply tN | apply fN | apply tB | apply fB | apply tO | apply fO) <;> intro hc
  | (intro rx hFx lD; (try simp only [qD] at lD))
  all_goals (refine qX (M:=M) (by repeat' first | exact Keep.refl _ | (refine Keep.new ?_ (by simp only [*]))) ⟨?_,rfl,rfl⟩)
  all_goals simp_all [yJ]
 simp only [c116,go_sem]
 repeat' first
  | simp only [go_sem,aK, *]
  | (with_reducible first | apply cD | apply cN | apply cB | apply cO | apply tD | apply fD | apply tN | apply fN | apply tB | apply fB | apply tO | apply fO) <;> intro hc
  | (intro rx hFx lD; (try simp only [qD] at lD))
  | with_reducible refine qQ (k89 _ _ _ _ _) ?_
 all_goals (refine qX (M:=M) (by repeat' first | exact Keep.refl _ | (refine Keep.new ?_ (by simp only [*]))) ⟨?_,rfl,rfl⟩)
 rw [sJ h0 h11]
theorem kDC (x:Ba)(n:Int)(r3:Nat)(e3:nH)(h3:M r3=some e3)(c3:e3.cells=[.int .i64 n]):aI prog 174 [x.val,.pointer (some ⟨r3,0,none⟩)] F M (Same F M (.bool (!decide (x.b<=n)))):=by
 refine qZ hm func174 kKK (aA rfl) ?_;have b3:=qG (F:=F) h3;rw [c3] at b3;simp only [zWA,go_sem]
 repeat' first
  | simp only [go_sem,wX,aU,aK, *]
  | (with_reducible first | apply cD | apply cN | apply cB | apply cO | apply tD | apply fD | apply tN | apply fN | apply tB | apply fB | apply tO | apply fO) <;> intro hc
  | (intro rx hFx lD; (try simp only [qD] at lD))
 all_goals (refine qX (M:=M) (by repeat' first | exact Keep.refl _ | (refine Keep.new ?_ (by simp only [*]))) ⟨?_,rfl,rfl⟩)
 all_goals (refine congrArg Value.bool ?_; first | rfl | ((try simp only [aC,dJ,decide_eq_true_eq,bI,dU,decide_eq_false_iff_not,Bool.not_eq_true',Bool.not_eq_false',Bool.and_eq_false_imp] at *); rw [dG]; (try simp [*]); (try first | omega | (intros; omega) | (intros; exfalso; omega) | (simp_all; done) | (simp_all; omega))))
theorem kDE (a:Option Addr)(c:Nat)(l:List Ba)(n:Int)(h:dF 7 Ba.cs F M (.slice a l.length c) l):aI prog 140 [.slice a l.length c,.int .i64 n] F M (Same F M (.bool (pU l n))):=by
 refine qZ hm func140 kZQ (aA rfl) ?_;simp only [zQA,go_sem];intro r3 hF3 dN;have h3:dF 7 Ba.cs F (M.upd r3 ⟨[.int .i64 n],3,1⟩) (.slice a l.length c) l:=dF.new h hF3 dN;have kc:=zJF F _ (.slice a l.length c) l _ [.pointer (some ⟨r3,0,none⟩)] (fun x=>!decide (x.b<=n)) h3 (fun v _=>kDC F _ v n r3 _ (Hp.qV _ _ _) rfl);have e9:(l.any fun x=>!decide (x.b<=n)) = !pU l n:=(List.not_all_eq_any_not).symm;rw [e9] at kc;clear h3 h e9
 repeat' first
  | simp only [go_sem, *]
  | (with_reducible first | apply cD | apply cN | apply cB | apply cO | apply tD | apply fD | apply tN | apply fN | apply tB | apply fB | apply tO | apply fO) <;> intro hc
  | (intro rx hFx lD; (try simp only [qD] at lD))
  | with_reducible refine qQ kc ?_
 all_goals (refine qX (M:=M) (by repeat' first | exact Keep.refl _ | (refine Keep.new ?_ (by simp only [*]))) ⟨?_,rfl,rfl⟩)
 simp
theorem kDF (c:Cl)(h:c.rd F M):aI prog 139 [c.val] F M (Same F M (.bool (jY c.pc))):=by
 refine qZ hm func139 kXF (aA rfl) ?_;simp only [c139,go_sem];intro r1 hF1 hM1;have h1:dF 7 Ba.cs F (M.upd r1 ⟨c.cs,100,10⟩) (.slice c.lA c.l.length c.lC) c.l:=dF.new h hF1 hM1;have k1:=vWK F (M.upd r1 ⟨c.cs,100,10⟩) c.v;have k2:=zGW F (M.upd r1 ⟨c.cs,100,10⟩) _ _ h1;have k3:=kVY F (M.upd r1 ⟨c.cs,100,10⟩) c.k c.v _ _ h1;have k4:=vWF F (M.upd r1 ⟨c.cs,100,10⟩) c.k;have ez:((c.l.length:Int)=0)=(c.l.length=0):=by
  apply propext; omega
 have e0:V.mk 0 false 0 0 0 0=V.zero:=rfl;clear h h1;obtain ⟨n,hn⟩:∃n,n=decide (c.l.length=0):=⟨_,rfl⟩
 have hR:jY c.pc=(if c.k=0 then decide (c.v=V.zero) && n else if c.k=11 then c.v.ok && decide (c.v.w=8) && gX c.l else isS c.k && uM c.k c.v c.l):=by rw [hn]; rfl
 have en:decide ((c.l.length:Int)=0)=n:=by rw [hn]; exact decide_eq_decide.2 (by omega)
 clear hn ez;rw [hR];clear hR;by_cases q0:c.k=0
 ·rw [if_pos q0]
  repeat' first
  | simp only [go_sem,aK, *]
  | (with_reducible first | apply cD | apply cN | apply cB | apply cO | apply tD | apply fD | apply tN | apply fN | apply tB | apply fB | apply tO | apply fO) <;> intro hc
  | (intro rx hFx lD; (try simp only [qD] at lD))
   | simp only [e0,go_sem, *]
  all_goals (refine qX (M:=M) (by repeat' first | exact Keep.refl _ | (refine Keep.new ?_ (by simp only [*]))) ⟨?_,rfl,rfl⟩)
  all_goals (refine congrArg Value.bool ?_; first | rfl | ((try simp only [aC,dJ,decide_eq_true_eq,bI,dU,decide_eq_false_iff_not,Bool.not_eq_true',Bool.not_eq_false',Bool.and_eq_false_imp] at *); rw [dG]; (try simp [*]); (try first | omega | (intros; omega) | (intros; exfalso; omega) | (simp_all; done) | (simp_all; omega))))
 by_cases q1:c.k=11
 ·rw [if_neg q0,if_pos q1];clear k3
  repeat' first
  | simp only [go_sem,aK, *]
  | (with_reducible first | apply cD | apply cN | apply cB | apply cO | apply tD | apply fD | apply tN | apply fN | apply tB | apply fB | apply tO | apply fO) <;> intro hc
  | (intro rx hFx lD; (try simp only [qD] at lD))
   | with_reducible refine qQ k1 ?_
   | with_reducible refine qQ k2 ?_
  all_goals (refine qX (M:=M) (by repeat' first | exact Keep.refl _ | (refine Keep.new ?_ (by simp only [*]))) ⟨?_,rfl,rfl⟩)
  all_goals clear k1 k2
  all_goals (refine congrArg Value.bool ?_; first | rfl | ((try simp only [aC,dJ,decide_eq_true_eq,bI,dU,decide_eq_false_iff_not,Bool.not_eq_true',Bool.not_eq_false',Bool.and_eq_false_imp] at *); rw [dG]; (try simp [*]); (try first | omega | (intros; omega) | (intros; exfalso; omega) | (simp_all; done) | (simp_all; omega))))
 rw [if_neg q0,if_neg q1]
 repeat' first
  | simp only [go_sem, *]
  | (with_reducible first | apply cD | apply cN | apply cB | apply cO | apply tD | apply fD | apply tN | apply fN | apply tB | apply fB | apply tO | apply fO) <;> intro hc
  | (intro rx hFx lD; (try simp only [qD] at lD))
  | with_reducible refine qQ k3 ?_
  | with_reducible refine qQ k4 ?_
 all_goals (refine qX (M:=M) (by repeat' first | exact Keep.refl _ | (refine Keep.new ?_ (by simp only [*]))) ⟨?_,rfl,rfl⟩)
 all_goals clear k1 k2 k3 k4
 all_goals (refine congrArg Value.bool ?_; first | rfl | ((try simp only [aC,dJ,decide_eq_true_eq,bI,dU,decide_eq_false_iff_not,Bool.not_eq_true',Bool.not_eq_false',Bool.and_eq_false_imp] at *); rw [dG]; (try simp [*]); (try first | omega | (intros; omega) | (intros; exfalso; omega) | (simp_all; done) | (simp_all; omega))))
theorem vZG (x y:Int):aI prog 142 [.int .i64 x,.int .i64 y] F M (Same F M (.int .i64 (wS x y))):=by
 refine qZ hm func142 kZX (aA rfl) ?_;unfold wS;simp only [zQB,go_sem];refine qQ (zHH _ _ x) ?_;simp only [go_sem];refine qQ (zHH _ _ y) ?_
 repeat' first
  | simp only [go_sem, *]
  | (with_reducible first | apply cD | apply cN | apply cB | apply cO | apply tD | apply fD | apply tN | apply fN | apply tB | apply fB | apply tO | apply fO) <;> intro hc
  | (intro rx hFx lD; (try simp only [qD] at lD))
 all_goals (refine qX (M:=M) (by repeat' first | exact Keep.refl _ | (refine Keep.new ?_ (by simp only [*]))) ⟨?_,rfl,rfl⟩)
 all_goals simp [*]
theorem kYQ (a:Option Addr)(c:Nat)(l:List Int)(h:lG F M a c l):aI prog 141 [.slice a l.length c] F M (Same F M (.int .i64 (orV l))):=by
 refine qZ hm func141 kZW (aA rfl) ?_;have hl:=h.1;simp only [c141,go_sem];refine wV l.length (fun i σ F' M'=>F=F'/\M=M'/\Ax.look σ 8=some (.int .i64 i)/\orV l=orV (l.drop i)) ⟨rfl,rfl,(by simp only [go_sem, *] <;> rfl),rfl⟩ ?_;rintro i σ F' M' hi hs ⟨rfl,rfl,h8,he⟩;have s0:=hs 6 rfl;have s7:=hs 7 rfl;have s3:=hs 3 rfl;simp only [go_sem] at s0 s7 s3;clear hs;by_cases hil:(i:Int) < l.length;rotate_left
 ·rw [dL (by omega)] at he;simp only [go_sem,s3,s7,h8,hil];exact qW ⟨by rw [he]; rfl,rfl,rfl⟩
 have hi0:(0:Int)<=i:=by omega
 have hi1:i < l.length:=by omega
 have ei:i64.wrap ((i:Int)+1)=i+1:=dQ (by omega) (by omega);obtain ⟨b,o,cs,rfl,hb,d1⟩:=Ax.gW h hi1;rw [dH hi1] at he;generalize l[i]=x at *;by_cases hx:x=0
 ·simp only [go_sem,s0,s3,s7,h8,hil,hi0,aB,hb,d1,hx,ei];exact ⟨hi1,rfl,rfl,(by simp only [go_sem, *] <;> rfl),by rw [he,hx]; rfl⟩
 ·simp only [go_sem,s0,s3,s7,h8,hil,hi0,aB,hb,d1,hx];exact qW ⟨by rw [he]; simp [orV,hx],rfl,rfl⟩
theorem kYW (a b:Cl):aI prog 108 [a.val,b.val] F M (Same F M (.int .i64 (jGG a.pc b.pc))):=by
 refine qZ hm func108 e108 (aA rfl) ?_;simp only [vYY,go_sem];intro r2 hF2 hM2;simp only [go_sem];intro r3 hF3 dN;simp only [qD] at dN;simp only [go_sem,dN];refine qQ (vZG _ _ a.b b.b) ?_;simp only [go_sem];refine qQ (vZG _ _ a.p b.p) ?_;simp only [go_sem];refine qQ (vZG _ _ a.k b.k) ?_;simp only [go_sem];intro r4 mW jP;simp only [qD] at jP;have hr:lG F (((M.upd r2 ⟨a.cs,100,10⟩).upd r3 ⟨b.cs,100,10⟩).upd r4 ⟨[.int .i64 (wS a.b b.b),.int .i64 (wS a.p b.p),.int .i64 (wS a.k b.k)],3,3⟩) (some ⟨r4,0,none⟩) 3 [wS a.b b.b,wS a.p b.p,wS a.k b.k]:=gZ wJ (by simp) (by simp) (by rw [wH]; rfl);simp only [go_sem];refine qQ (kYQ F _ _ 3 [wS a.b b.b,wS a.p b.p,wS a.k b.k] hr) ?_;simp only [go_sem]
 all_goals (refine qX (M:=M) (by repeat' first | exact Keep.refl _ | (refine Keep.new ?_ (by simp only [*]))) ⟨?_,rfl,rfl⟩)
 rfl
theorem k80 (a b:Cl):aI prog 80 [a.val,b.val] F M (Same F M (.bool (sV a.pc b.pc))):=by
 refine qZ hm func80 e80 (aA rfl) ?_;simp only [c80,go_sem]
 repeat' first
  | simp only [go_sem,wX,aU,aK, *]
  | (with_reducible first | apply cD | apply cN | apply cB | apply cO | apply tD | apply fD | apply tN | apply fN | apply tB | apply fB | apply tO | apply fO) <;> intro hc
  | (intro rx hFx lD; (try simp only [qD] at lD))
 all_goals (refine qX (M:=M) (by repeat' first | exact Keep.refl _ | (refine Keep.new ?_ (by simp only [*]))) ⟨?_,rfl,rfl⟩)
 all_goals (simp only [sV,Cl.pc, *]; try rfl)
theorem kYX (a:Option Addr)(c:Nat)(l:List Ba)(n:Int)(h:dF 7 Ba.cs F M (.slice a l.length c) l)(hp:gX l=true) :
  aI prog 120 [.slice a l.length c,.int .i64 n] F M (Same F M (.bool (pU l (n - 1)))):=by
 refine qZ hm func120 e120 (aA rfl) ?_;rw [wYJ hp];have hl:=h.1;by_cases h0:l.length=0
 ·have e0:(l.length:Int)=0:=by omega
  simp only [vQJ,go_sem,e0];exact qW ⟨by simp [h0],rfl,rfl⟩
 have hi:l.length - 1 < l.length:=by omega
 have e0:¬(l.length:Int)=0:=by omega
 have ew:i64.wrap ((l.length:Int) - 1)=((l.length - 1:Nat):Int):=by rw [dQ (by omega) (by omega)]; omega
 have hi0:(0:Int)<=((l.length - 1:Nat):Int):=by omega
 have hil:((l.length - 1:Nat):Int) < l.length:=by omega
 obtain ⟨b,o,cs,rfl,hb,d1,d2⟩:=dF.at h hi;obtain ⟨d3,_⟩:=qYB d1 d2;have eg:(l.getLast?.map (·.b)).getD 0=l[l.length - 1].b:=by
  rw [List.getLast?_eq_getElem?,List.getElem?_eq_getElem hi]; rfl
 generalize l[l.length - 1]=x at *;rw [eg];simp only [vQJ,go_sem,e0,ew,hi0,hil,aB,aK,hb,d3];exact qW ⟨by simp [h0],rfl,rfl⟩
def kYZ (l:List En)(p:En->Bool)(F0:Fz)(M0:Hp)(i:Nat)(σ:Env)(F:Fz)(M:Hp):Prop:=
 F0=F/\M0=M/\Ax.look σ 8=some (.int .i64 i)/\(l.take i).any p=false
theorem kYK (ad:Option Addr)(cap:Nat)(l:List En)(g:Nat)(ca:List Value)(p:En->Bool)(h:dF 3 En.cs F M (.slice ad l.length cap) l)
  (hp:∀v∈l,aI prog g ([v.val]++ca) F M (Same F M (.bool (p v)))) :
  aI prog 104 [.slice ad l.length cap,.func (.func g) #[] ca.toArray] F M fun r F' M'=>F'=F/\M'=M/\((l.any p=false/\r=.int .i64 (-1))\/∃i:Nat,r=.int .i64 i/\∃hi:i < l.length,p l[i]=true/\(l.take i).any p=false):=by
 refine qZ hm func104 kWA (aA rfl) ?_;simp only [vYH,go_sem];refine wV l.length (kYZ l p F M) ⟨rfl,rfl,(by simp only [go_sem, *] <;> rfl),rfl⟩ ?_;rintro i σ F' M' hi hs ⟨rfl,rfl,h8,ha⟩;have s0:=hs 0 rfl;have s1:=hs 1 rfl;have s7:=hs 7 rfl;simp only [go_sem] at s0 s1 s7;clear hs;by_cases hil:(i:Int) < l.length
 ·have hi0:(0:Int)<=i:=by omega
  have eU:i < l.length:=by omega
  have hle:=h.1;have ei:i64.wrap ((i:Int)+1)=i+1:=dQ (by omega) (by omega);have t1:=aF eU;have hfin:p l[i]=true->(l.any p=false/\Value.int .i64 (i:Int)=.int .i64 (-1))\/∃j:Nat,Value.int .i64 (i:Int)=.int .i64 j/\∃hi:j < l.length,p l[j]=true/\(l.take j).any p=false:=fun hv=>.inr ⟨i,rfl,eU,hv,ha⟩
  obtain ⟨b,o,cs,rfl,hb,d1,d2⟩:=dF.at h eU;have hq:=hp l[i] (aH _);generalize l[i]=v at *;simp only [go_sem,s0,s1,s7,h8,hil,hi0,aB,hb,d1,d2];refine qQ hq ?_;cases hv:p v
  ·simp only [go_sem,h8,ei];exact ⟨eU,rfl,rfl,(by simp only [go_sem, *] <;> rfl),by rw [t1,List.any_append,ha]; simp [hv]⟩
  ·simp only [go_sem];exact qW ⟨rfl,rfl,hfin hv⟩
 ·rw [aJ (by omega)] at ha;simp only [go_sem,s7,h8,hil];exact qW ⟨rfl,rfl,.inl ⟨ha,rfl⟩⟩
theorem k70 (ad:Option Addr)(cap:Nat)(l:List En)(g:Nat)(ca:List Value)(p:En->Bool)(h:dF 3 En.cs F M (.slice ad l.length cap) l)
  (hp:∀v∈l,aI prog g ([v.val]++ca) F M (Same F M (.bool (p v)))) :
  aI prog 70 [.slice ad l.length cap,.func (.func g) #[] ca.toArray] F M (Same F M (.bool (l.any p))):=by
 refine qZ hm func70 e70 (aA rfl) ?_;simp only [c70,go_sem];refine wW (kYK F M ad cap l g ca p h hp) ?_;rintro r G M' ⟨hG,hM,hz⟩;rw [hG,hM];refine ⟨(fun h=>by cases h),?_⟩;rcases hz with ⟨hz,rfl⟩ | ⟨i,rfl,hi,hz,_⟩
 ·simp only [go_sem];exact qW ⟨by rw [hz],rfl,rfl⟩
 ·have:l.any p=true:=List.any_eq_true.2 ⟨_,aH hi,hz⟩;have hi0:(0:Int)<=i:=by omega
  simp only [go_sem,hi0];exact qW ⟨by rw [this],rfl,rfl⟩
theorem kYJ (p:Pg)(sa:Option Addr)(sc:Nat)(sz:List Int)(c:Cl)(hs:lG F M sa sc sz)(hsz:∀b,0<=nP sz b/\nP sz b<=32)(hp:p.ptr=2\/p.ptr=4)(h:c.rd F M) :
  aI prog 107 [p.val,.slice sa sz.length sc,c.val] F M (Same F M (.bool (pI p.ptr sz c.pc))):=by
 refine qZ hm func107 kWE (aA rfl) ?_;have hsl:=hs.1;have ew:i64.wrap ((sz.length:Int) - 1)=sz.length - 1:=dQ (by omega) (by omega);simp only [c107,go_sem];intro r3 hF3 dN;simp only [go_sem];intro r5 lM gU;simp only [qD] at gU;have h5:c.rd F ((M.upd r3 ⟨p.cs,43,7⟩).upd r5 ⟨c.cs,100,10⟩):=dF.new (dF.new h hF3 dN) lM (by simp only [qD,not_false_eq_true,and_self, *]);have k1:=kDF F _ c h5;have k2:=kDE F _ c.lA c.lC c.l ((sz.length:Int) - 1) h5;cases hc:jY c.pc
 ·simp only [go_sem];refine qQ k1 ?_;rw [hc];simp only [go_sem]
  all_goals (refine qX (M:=M) (by repeat' first | exact Keep.refl _ | (refine Keep.new ?_ (by simp only [*]))) ⟨?_,rfl,rfl⟩)
  simp [pI,hc]
 have hk:c.k=0\/c.k=11\/isS c.k=true:=yS hc;obtain ⟨n1,n4⟩:=gV hp hk;have k3:=zHD F ((M.upd r3 ⟨p.cs,43,7⟩).upd r5 ⟨c.cs,100,10⟩) p.big p.ptr c.k hk;have hR:pI p.ptr sz c.pc=((decide (1<=c.b) && decide (c.b < sz.length)) && decide (0<=c.p) && pU c.l ((sz.length:Int) - 1) && decide (c.p.tmod (yJ p.ptr c.k)=0) && decide (c.p<=nP sz c.b - yJ p.ptr c.k)):=by
  unfold pI; rw [hc]; rfl
 rw [hR];have en:¬yJ p.ptr c.k=0:=by omega
 have ez:=hsz c.b;have ew2:i64.wrap (nP sz c.b - yJ p.ptr c.k)=nP sz c.b - yJ p.ptr c.k:=dQ (by omega) (by omega);rw [hc] at k1;generalize yJ p.ptr c.k=n at *;by_cases hb:1<=c.b/\c.b < sz.length;rotate_left
 ·clear k2 k3 h5 h hs hsz hk hR hc
  repeat' first
  | simp only [go_sem,aK, *]
  | (with_reducible first | apply cD | apply cN | apply cB | apply cO | apply tD | apply fD | apply tN | apply fN | apply tB | apply fB | apply tO | apply fO) <;> intro hc
  | (intro rx hFx lD; (try simp only [qD] at lD))
   | with_reducible refine qQ k1 ?_
  all_goals try (exfalso; omega)
  all_goals (refine qX (M:=M) (by repeat' first | exact Keep.refl _ | (refine Keep.new ?_ (by simp only [*]))) ⟨?_,rfl,rfl⟩)
  all_goals clear k1
  all_goals (refine congrArg Value.bool ?_; first | rfl | ((try simp only [aC,dJ,decide_eq_true_eq,bI,dU,decide_eq_false_iff_not,Bool.not_eq_true',Bool.not_eq_false',Bool.and_eq_false_imp] at *); rw [dG]; (try simp [*]); (try first | omega | (intros; omega) | (intros; exfalso; omega) | (simp_all; done) | (simp_all; omega))))
 obtain ⟨i,hi⟩:=aG (by omega:0<=c.b);have hil:i < sz.length:=by omega
 have hi0:(0:Int)<=i:=by omega
 have eU:(i:Int) < sz.length:=by omega
 obtain ⟨b,o,cs,rfl,hb',d1⟩:=Ax.gW hs hil;have es:=wQK hil;rw [hi] at ez ew2;rw [es] at ez ew2;obtain ⟨hb1,hb2⟩:=hb;have e1:¬c.b < 1:=by omega
 have e2:¬(sz.length:Int)<=c.b:=by omega
 have hR2:((decide (1<=c.b) && decide (c.b < sz.length)) && decide (0<=c.p) && pU c.l ((sz.length:Int) - 1) && decide (c.p.tmod n=0) && decide (c.p<=nP sz c.b - n))=(decide (0<=c.p) && pU c.l ((sz.length:Int) - 1) && decide (c.p.tmod n=0) && decide (c.p<=sz[i] - n)):=by
  rw [decide_eq_true hb1,decide_eq_true hb2,hi,es]; rfl
 rw [hR2];generalize sz[i]=z at *;rw [hi] at e1 e2;clear hR hR2 hsz hs h h5 hb1 hb2 es hk hc ez
 repeat' first
  | simp only [go_sem,wX,aU,aB,aK, *]
  | (with_reducible first | apply cD | apply cN | apply cB | apply cO | apply tD | apply fD | apply tN | apply fN | apply tB | apply fB | apply tO | apply fO) <;> intro hc
  | (intro rx hFx lD; (try simp only [qD] at lD))
  | with_reducible refine qQ k1 ?_
  | with_reducible refine qQ k2 ?_
  | with_reducible refine qQ k3 ?_
 all_goals (refine qX (M:=M) (by repeat' first | exact Keep.refl _ | (refine Keep.new ?_ (by simp only [*]))) ⟨?_,rfl,rfl⟩)
 all_goals clear k1 k2 k3
 all_goals (refine congrArg Value.bool ?_; first | rfl | ((try simp only [aC,dJ,decide_eq_true_eq,bI,dU,decide_eq_false_iff_not,Bool.not_eq_true',Bool.not_eq_false',Bool.and_eq_false_imp] at *); rw [dG]; (try simp [*]); (try first | omega | (intros; omega) | (intros; exfalso; omega) | (simp_all; done) | (simp_all; omega))))
theorem kYG (n:Int):aI prog 105 [.int .i64 n] F M (Same F M (.bool (!inB n))):=by
 refine qZ hm func105 kWB (aA rfl) ?_;simp only [c105,go_sem]
 repeat' first
  | simp only [go_sem, *]
  | (with_reducible first | apply cD | apply cN | apply cB | apply cO | apply tD | apply fD | apply tN | apply fN | apply tB | apply fB | apply tO | apply fO) <;> intro hc
  | (intro rx hFx lD; (try simp only [qD] at lD))
 all_goals (refine qX (M:=M) (by repeat' first | exact Keep.refl _ | (refine Keep.new ?_ (by simp only [*]))) ⟨?_,rfl,rfl⟩)
 all_goals (refine congrArg Value.bool ?_; first | rfl | ((try simp only [aC,dJ,decide_eq_true_eq,bI,dU,decide_eq_false_iff_not,Bool.not_eq_true',Bool.not_eq_false',Bool.and_eq_false_imp] at *); rw [dG]; (try simp [inB, *]); (try first | omega | (intros; omega) | (intros; exfalso; omega) | (simp_all; done) | (simp_all; omega))))
def zHA (p:Pg)(e:En)(F:Fz)(M1:Hp)(i:Nat)(σ:Env)(F':Fz)(M':Hp):Prop:=
 F=F'/\Keep M1 M'/\Old F M'/\Ax.look σ 39=some (.int .i64 i)/\rD p.ptr (yK p) e.pe.cells i=true
theorem k72 (p:Pg)(e:En)(hp:p.rd F)(hold:Old F M)(hc:wY p=true)(h:e.rd F M)(hfe:e.cells.length<=100000/\e.news.length<=100000):aI prog 72 [p.val,e.val] F M (Same F M (.bool (pJ p e.pe))):=by
 refine qZ hm func72 e72 (aA rfl) ?_;have hfew:=hp.few;have hl1:=h.cells.1;have hl2:=h.news.1;have hpre:=yH hc;have hsl:=jI p;simp only [c72,go_sem];intro r2 hF2 hM2;simp only [go_sem];intro r3 hF3 dN;simp only [qD] at dN;have dA:Old F ((M.upd r2 ⟨p.cs,43,7⟩).upd r3 ⟨e.cs,51,3⟩):=(by repeat' first | assumption | (refine Old.upd ?_ (by assumption)))
 have f2:((M.upd r2 ⟨p.cs,43,7⟩).upd r3 ⟨e.cs,51,3⟩) r2=some ⟨p.cs,43,7⟩:=by rw [Hp.qK dN.1.2]; exact Hp.qV _ _ _
 have f3:((M.upd r2 ⟨p.cs,43,7⟩).upd r3 ⟨e.cs,51,3⟩) r3=some ⟨e.cs,51,3⟩:=Hp.qV _ _ _;have fC:Keep M ((M.upd r2 ⟨p.cs,43,7⟩).upd r3 ⟨e.cs,51,3⟩):=(by repeat' first | exact Keep.refl _ | (refine Keep.new ?_ (by simp only [*])))
 generalize (M.upd r2 ⟨p.cs,43,7⟩).upd r3 ⟨e.cs,51,3⟩=M1 at *;have h1:=h.keep fC dA;have b2:=qG (F:=F) f2;have b3:=qG (F:=F) f3;clear hM2 dN hF2 hF3;have no:∀v:Bool,pJ p e.pe=v->∀M',Keep M1 M'->lK F M' (Same F M (.bool (pJ p e.pe))) (.bool v):=fun v h M' k=>qX (fC.trans k) ⟨by rw [h],rfl,rfl⟩
 have hlen:e.pe.cells.length=e.cells.length:=by simp [En.pe]
 by_cases hno:e.no=true
 ·have ew:i64.wrap ((e.cells.length:Int)+e.news.length)=e.cells.length+e.news.length:=dQ (by omega) (by omega);simp only [go_sem,b3,hno,ew];refine no _ ?_ _ (Keep.refl _);have:e.pe.no=true:=hno;unfold pJ;rw [if_pos this,hlen];show (decide (e.cells.length=0) && decide (e.news.length=0))=_;by_cases h0:e.cells.length=0
  ·by_cases h1:e.news.length=0
   ·simp [h0,h1]
   ·simp [h0,h1]
  ·have:¬(e.cells.length:Int)+e.news.length=0:=by omega
   simp [h0,this]
 have hno':e.no=false:=by simpa using hno
 have hR:pJ p e.pe=(decide (e.cells.length<=200) && decide (e.news.length=p.news.length) && e.news.all inB && rD p.ptr (yK p) e.pe.cells e.cells.length):=by
  have:¬e.pe.no=true:=hno;unfold pJ;rw [if_neg this,hlen]; rfl
 by_cases yKK:(200:Int) < e.cells.length
 ·have:¬e.cells.length<=200:=by omega
  simp only [go_sem,b3,hno',yKK];exact no _ (by rw [hR]; simp [this]) _ (Keep.refl _)
 have jGV:e.cells.length<=200:=by omega
 by_cases hnn:(e.news.length:Int)=p.news.length;rotate_left
 ·have:¬e.news.length=p.news.length:=by omega
  simp only [go_sem,b2,b3,hno',yKK,hnn];exact no _ (by rw [hR]; simp [this]) _ (Keep.refl _)
 have vZV:e.news.length=p.news.length:=by omega
 rw [decide_eq_true jGV,decide_eq_true vZV] at hR;have kn:=k62 F M1 e.mG e.mJ e.news _ [] (fun v=>!inB v) h1.news (fun v _=>kYG F M1 v);have e9:(e.news.any fun v=>!inB v) = !e.news.all inB:=(List.not_all_eq_any_not).symm;rw [e9] at kn;simp only [go_sem,b2,b3,hno',yKK,hnn];refine qQ kn ?_;cases hall:e.news.all inB
 ·simp only [go_sem];exact no _ (by rw [hR,hall]; simp) _ (Keep.refl _)
 rw [hall,bQ,bQ] at hR;simp only [go_sem,b2];refine wW (zHZ F M1 p hp dA) ?_;rintro u G M2 hq;obtain ⟨hG,le,kq,oq,aq,cq,rfl,rdq⟩:=hq.le wJ (by omega);rw [hG];refine ⟨(fun h=>by cases h),?_⟩;have mY:=oq dA;have h2:=h1.keep kq mY;have b2':=qG (F:=F) (kq _ _ f2);have b3':=qG (F:=F) (kq _ _ f3);have g2:=kq _ _ f2;have g3:=kq _ _ f3;clear le oq hq hG e9 kn h1 dA;simp only [go_sem,b3'];refine wV e.cells.length (zHA p e F M2) ⟨rfl,Keep.refl _,mY,(by simp only [go_sem, *] <;> rfl),rfl⟩ ?_;rintro i σ F' M3 hi hs ⟨rfl,kp,old,q39,he⟩;have q2:=hs 2 rfl;have q3:=hs 3 rfl;have q5:=hs 5 rfl;have q37:=hs 37 rfl;have q38:=hs 38 rfl;simp only [go_sem] at q2 q3 q5 q37 q38;clear hs;by_cases hil:(i:Int) < e.cells.length;rotate_left
 ·have hx:i=e.cells.length:=by omega
  simp only [go_sem,q38,q39,hil];exact no _ (by rw [hR,<-hx,he]; rfl) _ (kq.trans kp)
 have hi0:(0:Int)<=i:=by omega
 have hi1:i < e.cells.length:=by omega
 have ei:i64.wrap ((i:Int)+1)=i+1:=dQ (by omega) (by omega);obtain ⟨b,o,cs,ea,hb,rows⟩:=(h2.cells.keep kp old).rows (by omega);obtain ⟨d1,d2⟩:=rows i hi1;have rz:=rdq.keep kp old;have hci:e.cells[i].rd F M3:=dF.keep (h2.ptrs _ (aH hi1)) kp old;have hup:qJJ p.ptr (yK p) e.pe.cells i=(pI p.ptr (yK p) e.cells[i].pc && (decide (i=0) || zY e.pe.cells i e.cells[i].pc)):=by
  have:e.pe.cells[i]? = some e.cells[i].pc:=by simp [En.pe,List.getElem?_eq_getElem hi1]
  exact wQJ this
 have wGH:qJJ p.ptr (yK p) e.pe.cells i=false->pJ p e.pe=false:=fun h=>by rw [hR,wQV hi1 h]; rfl
 have hpr:∀hi2:0 < i,∃y:Cl,(cs.drop (o+(i - 1) * 10)).take 10=y.cs/\o+(i - 1) * 10+10<=cs.length/\zY e.pe.cells i e.cells[i].pc=sV y.pc e.cells[i].pc:=fun hi2=>by
  have hi3:i - 1 < e.cells.length:=by omega
  obtain ⟨d3,d4⟩:=rows (i - 1) hi3;exact ⟨e.cells[i - 1],d4,d3,wQG (by simp [En.pe,List.getElem?_eq_getElem hi3])⟩
 clear rows;generalize e.cells[i]=x at *;have no3:qJJ p.ptr (yK p) e.pe.cells i=false->∀M',Keep M3 M'->lK F M' (Same F M (.bool (pJ p e.pe))) (.bool false):=fun h M' k=>no _ (wGH h) _ ((kq.trans kp).trans k)
 have yes:qJJ p.ptr (yK p) e.pe.cells i=true->∀σ' M',Keep M3 M'->Old F M'->Ax.look σ' 39=some (.int .i64 ((i+1:Nat):Int))->Nxt (zHA p e F M2) e.cells.length i σ' F M':=
  fun h σ' M' k o e39=>⟨hi1,rfl,kp.trans k,o,e39,by rw [qKW,he,h]; rfl⟩
 rw [hup] at no3 yes;have g2':=kp _ _ g2;have g3':=kp _ _ g3;clear hup wGH he hR no;simp only [go_sem,q37,q38,q39,hil,hi0,ea,aB,hb,d1,d2];intro r7 wU qB;have n2:=qJ qB g2';have n3:=qJ qB g3';have nb:=jT hb wU qB;have lY:Keep M3 (M3.upd r7 ⟨x.cs,100,10⟩):=(Keep.refl M3).new qB;have iO:Old F (M3.upd r7 ⟨x.cs,100,10⟩):=old.upd wU;have kYH:=lY _ _ g2';have kYD:=lY _ _ g3';have kYY:=qG (F:=F) kYH;have kYA:=qG (F:=F) kYD;have b7:=qG (F:=F) (Hp.qV M3 r7 ⟨x.cs,100,10⟩);have kc:=kYJ F _ p _ _ _ x (rz.keep lY iO) (jE hc) hpre.1 (dF.keep hci lY iO);have hb7:=qYY hb lY iO;simp only [setH,Hp.wZ,go_sem];generalize M3.upd r7 ⟨x.cs,100,10⟩=M7 at *;simp only [go_sem,q2,q5,kYY,b7];refine qQ kc ?_;cases hcb:pI p.ptr (yK p) x.pc
 ·simp only [go_sem];exact no3 (by rw [hcb]; rfl) _ lY
 rw [hcb,bQ] at no3 yes;by_cases hz:(0:Int) < i;rotate_left
 ·have hz':i=0:=by omega
  simp only [go_sem,q39,hz,ei];exact yes (by rw [hz']; rfl) _ _ lY iO (by simp only [go_sem, *] <;> rfl)
 have hz':0 < i:=by omega
 have hz0:¬i=0:=by omega
 obtain ⟨y,d3,d4,hy⟩:=hpr hz';rw [hy,decide_eq_false hz0,Bool.false_or] at no3 yes;have ej:i64.wrap ((i:Int) - 1)=((i - 1:Nat):Int):=by rw [dQ (by omega) (by omega)]; omega
 have hj0:(0:Int)<=((i - 1:Nat):Int):=by omega
 have hjl:((i - 1:Nat):Int) < e.cells.length:=by omega
 simp only [go_sem,q3,hz,kYA,b7,ej,hj0,hjl,ea,aB,hb7,d3,d4];refine qQ (kYW F M7 y x) ?_;have ho:=yKZ y.pc x.pc;cases hbf:sV y.pc x.pc
 ·have:(0:Int)<=jGG y.pc x.pc:=by rw [hbf] at ho; simpa using ho
  simp only [go_sem,this];exact no3 hbf _ lY
 ·have:¬(0:Int)<=jGG y.pc x.pc:=by rw [hbf] at ho; simpa using ho
  simp only [go_sem,this,q39,ei];exact yes hbf _ _ lY iO (by simp only [go_sem, *] <;> rfl)
theorem jGD:gX []=true:=by decide
theorem jGY {k:Int}{v:V}{l:List Ba}(h:uM k v l=true):gX l=true:=by
 by_cases h7:k=7
 ·simp only [uM,h7,if_true,aC] at h; exact h.2
 ·rw [((xXV h).2.1 h7).2]; exact jGD
theorem k79 (p:Pg)(sa:Option Addr)(sc:Nat)(sz:List Int)(c:Cl)(hs:lG F M sa sc sz)(hsz:∀b,0<=nP sz b/\nP sz b<=32)(hp:p.ptr=2\/p.ptr=4)(h:c.rd F M) :
  aI prog 79 [p.val,.slice sa sz.length sc,c.val] F M (Same F M (.bool (pI p.ptr sz c.pc))):=by
 refine qZ hm func79 e79 (aA rfl) ?_;have hsl:=hs.1;have ew:i64.wrap ((sz.length:Int) - 1)=sz.length - 1:=dQ (by omega) (by omega);simp only [c79,go_sem];intro r3 hF3 dN;simp only [go_sem];intro r5 lM gU;simp only [qD] at gU;have h5:c.rd F ((M.upd r3 ⟨p.cs,43,7⟩).upd r5 ⟨c.cs,100,10⟩):=dF.new (dF.new h hF3 dN) lM (by simp only [qD,not_false_eq_true,and_self, *]);have kB:=fun n l m=>k47 F ((M.upd r3 ⟨p.cs,43,7⟩).upd r5 ⟨c.cs,100,10⟩) n l m
 have kK:=k53 F ((M.upd r3 ⟨p.cs,43,7⟩).upd r5 ⟨c.cs,100,10⟩) c.k;have kS:=zHY F ((M.upd r3 ⟨p.cs,43,7⟩).upd r5 ⟨c.cs,100,10⟩) p c.k;have kE:=zGJ F ((M.upd r3 ⟨p.cs,43,7⟩).upd r5 ⟨c.cs,100,10⟩) c.v V.zero _ (.slice none 0 0) c.l [] h5 jX;have kV:=xXW F ((M.upd r3 ⟨p.cs,43,7⟩).upd r5 ⟨c.cs,100,10⟩) c.v;have kP:=zJC F ((M.upd r3 ⟨p.cs,43,7⟩).upd r5 ⟨c.cs,100,10⟩) _ c.l h5;have kA:=kVJ F ((M.upd r3 ⟨p.cs,43,7⟩).upd r5 ⟨c.cs,100,10⟩) c.k c.v _ c.l h5;have kT:=fun hp=>kYX F ((M.upd r3 ⟨p.cs,43,7⟩).upd r5 ⟨c.cs,100,10⟩) c.lA c.lC c.l sz.length h5 hp
 have el:decide (c.l=[])=decide (c.l.length=0):=decide_eq_decide.2 (by simp);rw [el] at kE
  -- whether block and kind may be
 by_cases hb:1<=c.b/\c.b < sz.length;rotate_left
 ·have hbf:(decide (1<=c.b) && decide (c.b<=(sz.length:Int) - 1))=false:=by simp; omega
  have hR:pI p.ptr sz c.pc=false:=by
   have:(decide (1<=c.b) && decide (c.b < sz.length))=false:=by simp; omega
   unfold pI;show (jY c.pc && (decide (1<=c.b) && decide (c.b < sz.length)) && _ && _ && _ && _)=false;rw [this]; simp
  simp only [go_sem,ew];refine qQ (kB _ _ _) ?_;simp only [go_sem,hbf]
  all_goals (refine qX (M:=M) (by repeat' first | exact Keep.refl _ | (refine Keep.new ?_ (by simp only [*]))) ⟨?_,rfl,rfl⟩)
  rw [hR]
 have hbt:(decide (1<=c.b) && decide (c.b<=(sz.length:Int) - 1))=true:=by simp; omega
 by_cases hk:c.k=0\/c.k=11\/isS c.k=true;rotate_left
 ·have k0:¬c.k=0:=fun e=>hk (.inl e)
  have k11:¬c.k=11:=fun e=>hk (.inr (.inl e))
  have ks:isS c.k=false:=by
   cases h:isS c.k
   ·rfl
   ·exact absurd (.inr (.inr h)) hk
  have hR:pI p.ptr sz c.pc=false:=by
   have:jY c.pc=false:=by
    cases h:jY c.pc
    ·rfl
    ·exact absurd (yS h) hk
   unfold pI; rw [this]; rfl
  simp only [go_sem,ew];refine qQ (kB _ _ _) ?_;simp only [go_sem,hbt];refine qQ kK ?_;simp only [go_sem,ks,k0,k11]
  all_goals (refine qX (M:=M) (by repeat' first | exact Keep.refl _ | (refine Keep.new ?_ (by simp only [*]))) ⟨?_,rfl,rfl⟩)
  rw [hR]
 have hkc:∀b:Bool,(isS c.k=b)->(!b && !decide (c.k=0) && !decide (c.k=11))=false:=fun b hb=>by
  subst hb;rcases hk with h | h | h <;> simp [h]
 obtain ⟨n1,n4⟩:=gV hp hk;have en:¬yJ p.ptr c.k=0:=by omega
 have ez:=hsz c.b;obtain ⟨i,hi⟩:=aG (by omega:0<=c.b);have hil:i < sz.length:=by omega
 have hi0:(0:Int)<=i:=by omega
 have eU:(i:Int) < sz.length:=by omega
 obtain ⟨b,o,cs,rfl,hb',d1⟩:=Ax.gW hs hil;have es:=wQK hil;rw [hi,es] at ez;have hR:pI p.ptr sz c.pc=(jY c.pc && decide (0<=c.p) && pU c.l ((sz.length:Int) - 1) && decide (c.p.tmod (yJ p.ptr c.k)=0) && decide (c.p<=sz[i] - yJ p.ptr c.k)):=by
  unfold pI;show (jY c.pc && (decide (1<=c.b) && decide (c.b < sz.length)) && decide (0<=c.p) && pU c.l ((sz.length:Int) - 1) && decide (c.p.tmod (yJ p.ptr c.k)=0) && decide (c.p<=nP sz c.b - yJ p.ptr c.k))=_;rw [decide_eq_true hb.1,decide_eq_true hb.2,hi,es]; simp
 generalize pI p.ptr sz c.pc=R at *;generalize sz[i]=z at *;generalize yJ p.ptr c.k=n at *;rw [hi] at hbt;have ew3:0<=c.p->c.p<=z->i64.wrap (z - c.p)=z - c.p:=fun h1 h2=>dQ (by omega) (by omega)
 clear hsz hs h h5 es hb el;have no:∀M',Keep M M'->(jY c.pc=false\/¬(0<=c.p)\/¬(c.p.tmod n=0)\/¬(c.p<=z - n)\/pU c.l ((sz.length:Int) - 1)=false)->lK F M' (Same F M (.bool R)) (.bool false):=fun M' k h=>by
  refine qX k ⟨?_,rfl,rfl⟩;rw [hR];rcases h with h | h | h | h | h <;> simp [h]
 have eH:Keep M ((M.upd r3 ⟨p.cs,43,7⟩).upd r5 ⟨c.cs,100,10⟩):=(by repeat' first | exact Keep.refl _ | (refine Keep.new ?_ (by simp only [*])))
 have go:∀v:Bool,(0<=c.p/\c.p.tmod n=0/\c.p<=z - n)->(jY c.pc && pU c.l ((sz.length:Int) - 1))=v->lK F ((M.upd r3 ⟨p.cs,43,7⟩).upd r5 ⟨c.cs,100,10⟩) (Same F M (.bool R)) (.bool v):=fun v h e=>by
  refine qX eH ⟨?_,rfl,rfl⟩;rw [<-e,hR];simp [h.1,h.2.1,h.2.2]
 rcases hk with h | h | h
 ·have e0:decide (c.k=0)=true:=by simp [h]
  have e11:decide (c.k=11)=false:=by simp [h]
  have hks:isS c.k=false:=by simp [h,isS]
  have hcB:jY c.pc=(decide (c.v=V.zero) && decide (c.l.length=0)):=by
   unfold jY;show (if c.k=0 then _ else _)=_;rw [if_pos h]; rfl
  clear hkc h;by_cases p0:0<=c.p;rotate_left
  ·have p0':c.p < 0:=by omega
   simp only [go_sem,ew,hi];refine qQ (kB _ _ _) ?_;simp only [go_sem,hbt];refine qQ kK ?_;simp only [go_sem,hks,gU,e0];refine qQ kS ?_;simp only [go_sem,p0'];exact no _ eH (.inr (.inl p0))
  have p0':¬c.p < 0:=by omega
  by_cases pz:z < c.p
  ·simp only [go_sem,ew,hi];refine qQ (kB _ _ _) ?_;simp only [go_sem,hbt];refine qQ kK ?_;simp only [go_sem,hks,gU,e0];refine qQ kS ?_;simp only [go_sem,gU,hi,p0',hi0,eU,hb',wX,aU,d1,aB,pz,hF3,dN,lM];exact no _ eH (.inr (.inr (.inr (.inl (by omega)))))
  have ew4:=ew3 p0 (by omega);by_cases pn:z - c.p < n
  ·simp only [go_sem,ew,hi];refine qQ (kB _ _ _) ?_;simp only [go_sem,hbt];refine qQ kK ?_;simp only [go_sem,hks,gU,e0];refine qQ kS ?_;simp only [go_sem,gU,hi,p0',hi0,eU,hb',wX,aU,d1,aB,pz,ew4,pn,hF3,dN,lM];exact no _ eH (.inr (.inr (.inr (.inl (by omega)))))
  by_cases pm:c.p.tmod n=0;rotate_left
  ·simp only [go_sem,ew,hi];refine qQ (kB _ _ _) ?_;simp only [go_sem,hbt];refine qQ kK ?_;simp only [go_sem,hks,gU,e0];refine qQ kS ?_;simp only [go_sem,gU,hi,p0',hi0,eU,hb',wX,aU,d1,aB,pz,ew4,pn,hF3,dN,lM,en,pm];exact no _ eH (.inr (.inr (.inl pm)))
  have wGD:0<=c.p/\c.p.tmod n=0/\c.p<=z - n:=⟨p0,pm,by omega⟩
  simp only [go_sem,ew,hi];refine qQ (kB _ _ _) ?_;simp only [go_sem,hbt];refine qQ kK ?_;simp only [go_sem,hks,gU,e0];refine qQ kS ?_;simp only [go_sem,gU,hi,p0',hi0,eU,hb',wX,aU,d1,aB,pz,ew4,pn,hF3,dN,lM,en,pm,e0];refine qQ kE ?_;simp only [go_sem];refine go _ wGD ?_;rw [hcB];by_cases hl0:c.l.length=0
  ·have:c.l=[]:=List.eq_nil_of_length_eq_zero hl0;simp [this,pU]
  ·simp [hl0]
 ·have e0:decide (c.k=0)=false:=by simp [h]
  have e11:decide (c.k=11)=true:=by simp [h]
  have hks:isS c.k=false:=by simp [h,isS]
  have hcB:jY c.pc=(c.v.ok && decide (c.v.w=8) && gX c.l):=by
   have h0:¬c.k=0:=by omega
   unfold jY;show (if c.k=0 then _ else if c.k=11 then _ else _)=_;rw [if_neg h0,if_pos h]; rfl
  clear hkc h;by_cases p0:0<=c.p;rotate_left
  ·have p0':c.p < 0:=by omega
   simp only [go_sem,ew,hi];refine qQ (kB _ _ _) ?_;simp only [go_sem,hbt];refine qQ kK ?_;simp only [go_sem,hks,gU,e0,e11];refine qQ kS ?_;simp only [go_sem,p0'];exact no _ eH (.inr (.inl p0))
  have p0':¬c.p < 0:=by omega
  by_cases pz:z < c.p
  ·simp only [go_sem,ew,hi];refine qQ (kB _ _ _) ?_;simp only [go_sem,hbt];refine qQ kK ?_;simp only [go_sem,hks,gU,e0,e11];refine qQ kS ?_;simp only [go_sem,gU,hi,p0',hi0,eU,hb',wX,aU,d1,aB,pz,hF3,dN,lM];exact no _ eH (.inr (.inr (.inr (.inl (by omega)))))
  have ew4:=ew3 p0 (by omega);by_cases pn:z - c.p < n
  ·simp only [go_sem,ew,hi];refine qQ (kB _ _ _) ?_;simp only [go_sem,hbt];refine qQ kK ?_;simp only [go_sem,hks,gU,e0,e11];refine qQ kS ?_;simp only [go_sem,gU,hi,p0',hi0,eU,hb',wX,aU,d1,aB,pz,ew4,pn,hF3,dN,lM];exact no _ eH (.inr (.inr (.inr (.inl (by omega)))))
  by_cases pm:c.p.tmod n=0;rotate_left
  ·simp only [go_sem,ew,hi];refine qQ (kB _ _ _) ?_;simp only [go_sem,hbt];refine qQ kK ?_;simp only [go_sem,hks,gU,e0,e11];refine qQ kS ?_;simp only [go_sem,gU,hi,p0',hi0,eU,hb',wX,aU,d1,aB,pz,ew4,pn,hF3,dN,lM,en,pm];exact no _ eH (.inr (.inr (.inl pm)))
  have wGD:0<=c.p/\c.p.tmod n=0/\c.p<=z - n:=⟨p0,pm,by omega⟩
  simp only [go_sem,ew,hi];refine qQ (kB _ _ _) ?_;simp only [go_sem,hbt];refine qQ kK ?_;simp only [go_sem,hks,gU,e0,e11];refine qQ kS ?_;simp only [go_sem,gU,hi,p0',hi0,eU,hb',wX,aU,d1,aB,pz,ew4,pn,hF3,dN,lM,en,pm,e0,e11];refine qQ kV ?_;cases v1:c.v.ok
  ·simp only [go_sem];exact go _ wGD (by rw [hcB,v1]; rfl)
  by_cases v2:c.v.w=8;rotate_left
  ·simp only [go_sem,v2];exact go _ wGD (by rw [hcB]; simp [v2])
  simp only [go_sem,v2];refine qQ kP ?_;cases v3:gX c.l
  ·simp only [go_sem];exact go _ wGD (by rw [hcB,v3]; simp)
  simp only [go_sem];refine qQ (kT v3) ?_;simp only [go_sem];exact go _ wGD (by rw [hcB,v1,v3]; simp [v2])
 ·have e0:decide (c.k=0)=false:=by rw [decide_eq_false]; rintro e; rw [e] at h; cases h
  have e11:decide (c.k=11)=false:=by rw [decide_eq_false]; rintro e; rw [e] at h; cases h
  have hks:isS c.k=true:=h;have hcB:jY c.pc=(isS c.k && uM c.k c.v c.l):=by
   have h0:¬c.k=0:=by rintro e; rw [e] at h; cases h
   have h1:¬c.k=11:=by rintro e; rw [e] at h; cases h
   unfold jY;show (if c.k=0 then _ else if c.k=11 then _ else _)=_;rw [if_neg h0,if_neg h1]; rfl
  clear hkc h;by_cases p0:0<=c.p;rotate_left
  ·have p0':c.p < 0:=by omega
   simp only [go_sem,ew,hi];refine qQ (kB _ _ _) ?_;simp only [go_sem,hbt];refine qQ kK ?_;simp only [go_sem,hks,gU];refine qQ kS ?_;simp only [go_sem,p0'];exact no _ eH (.inr (.inl p0))
  have p0':¬c.p < 0:=by omega
  by_cases pz:z < c.p
  ·simp only [go_sem,ew,hi];refine qQ (kB _ _ _) ?_;simp only [go_sem,hbt];refine qQ kK ?_;simp only [go_sem,hks,gU];refine qQ kS ?_;simp only [go_sem,gU,hi,p0',hi0,eU,hb',wX,aU,d1,aB,pz,hF3,dN,lM];exact no _ eH (.inr (.inr (.inr (.inl (by omega)))))
  have ew4:=ew3 p0 (by omega);by_cases pn:z - c.p < n
  ·simp only [go_sem,ew,hi];refine qQ (kB _ _ _) ?_;simp only [go_sem,hbt];refine qQ kK ?_;simp only [go_sem,hks,gU];refine qQ kS ?_;simp only [go_sem,gU,hi,p0',hi0,eU,hb',wX,aU,d1,aB,pz,ew4,pn,hF3,dN,lM];exact no _ eH (.inr (.inr (.inr (.inl (by omega)))))
  by_cases pm:c.p.tmod n=0;rotate_left
  ·simp only [go_sem,ew,hi];refine qQ (kB _ _ _) ?_;simp only [go_sem,hbt];refine qQ kK ?_;simp only [go_sem,hks,gU];refine qQ kS ?_;simp only [go_sem,gU,hi,p0',hi0,eU,hb',wX,aU,d1,aB,pz,ew4,pn,hF3,dN,lM,en,pm];exact no _ eH (.inr (.inr (.inl pm)))
  have wGD:0<=c.p/\c.p.tmod n=0/\c.p<=z - n:=⟨p0,pm,by omega⟩
  simp only [go_sem,ew,hi];refine qQ (kB _ _ _) ?_;simp only [go_sem,hbt];refine qQ kK ?_;simp only [go_sem,hks,gU];refine qQ kS ?_;simp only [go_sem,gU,hi,p0',hi0,eU,hb',wX,aU,d1,aB,pz,ew4,pn,hF3,dN,lM,en,pm,e0,e11];refine qQ kA ?_;cases v3:uM c.k c.v c.l
  ·simp only [go_sem];exact go _ wGD (by rw [hcB,v3]; simp)
  simp only [go_sem];refine qQ (kT (jGY v3)) ?_;simp only [go_sem];exact go _ wGD (by rw [hcB,v3,hks]; simp)
def zHB (p:Pg)(e:En)(F:Fz)(M1:Hp)(i:Nat)(σ:Env)(F':Fz)(M':Hp):Prop:=
 F=F'/\M1=M'/\Ax.look σ 6=some (.int .i64 i)/\rD p.ptr (yK p) e.pe.cells i=true
def kYB (e:En)(F:Fz)(M1:Hp)(i:Nat)(σ:Env)(F':Fz)(M':Hp):Prop:=
 F=F'/\M1=M'/\Ax.look σ 7=some (.int .i64 i)/\(e.news.take i).all inB=true
theorem k40 (p:Pg)(e:En)(hp:p.rd F)(hold:Old F M)(hc:wY p=true)(h:e.rd F M):aI prog 40 [p.val,e.val] F M (Same F M (.bool (pJ p e.pe))):=by
 refine qZ hm func40 e40 (aA rfl) ?_;have hfew:=hp.few;have hl1:=h.cells.1;have hl2:=h.news.1;have hpre:=yH hc;have hsl:=jI p;simp only [c40,go_sem];intro r2 hF2 hM2;simp only [go_sem];intro r3 hF3 dN;simp only [qD] at dN;have dA:Old F ((M.upd r2 ⟨p.cs,43,7⟩).upd r3 ⟨e.cs,51,3⟩):=(by repeat' first | assumption | (refine Old.upd ?_ (by assumption)))
 have f2:((M.upd r2 ⟨p.cs,43,7⟩).upd r3 ⟨e.cs,51,3⟩) r2=some ⟨p.cs,43,7⟩:=by rw [Hp.qK dN.1.2]; exact Hp.qV _ _ _
 have f3:((M.upd r2 ⟨p.cs,43,7⟩).upd r3 ⟨e.cs,51,3⟩) r3=some ⟨e.cs,51,3⟩:=Hp.qV _ _ _;have fC:Keep M ((M.upd r2 ⟨p.cs,43,7⟩).upd r3 ⟨e.cs,51,3⟩):=(by repeat' first | exact Keep.refl _ | (refine Keep.new ?_ (by simp only [*])))
 generalize (M.upd r2 ⟨p.cs,43,7⟩).upd r3 ⟨e.cs,51,3⟩=M1 at *;have h1:=h.keep fC dA;have b2:=qG (F:=F) f2;have b3:=qG (F:=F) f3;clear hM2 dN hF2 hF3;have no:∀v:Bool,pJ p e.pe=v->∀M',Keep M1 M'->lK F M' (Same F M (.bool (pJ p e.pe))) (.bool v):=fun v h M' k=>qX (fC.trans k) ⟨by rw [h],rfl,rfl⟩
 have hlen:e.pe.cells.length=e.cells.length:=by simp [En.pe]
 have z1:((e.cells.length:Int)=0)=(e.cells.length=0):=by apply propext; omega
 have z2:((e.news.length:Int)=0)=(e.news.length=0):=by apply propext; omega
 by_cases hno:e.no=true
 ·have hR:pJ p e.pe=(decide (e.cells.length=0) && decide (e.news.length=0)):=by
   have:e.pe.no=true:=hno;unfold pJ;rw [if_pos this,hlen]; rfl
  by_cases h0:(e.cells.length:Int)=0
  ·by_cases h1:(e.news.length:Int)=0
   ·simp only [go_sem,b3,hno,h0,h1];exact no _ (by rw [z1] at h0; rw [z2] at h1; rw [hR]; simp [h0,h1]) _ (Keep.refl _)
   ·simp only [go_sem,b3,hno,h0,h1];exact no _ (by rw [z2] at h1; rw [hR]; simp [h1]) _ (Keep.refl _)
  ·simp only [go_sem,b3,hno,h0];exact no _ (by rw [z1] at h0; rw [hR]; simp [h0]) _ (Keep.refl _)
 clear z1 z2;have hno':e.no=false:=by simpa using hno
 have hR:pJ p e.pe=(decide (e.cells.length<=200) && decide (e.news.length=p.news.length) && e.news.all inB && rD p.ptr (yK p) e.pe.cells e.cells.length):=by
  have:¬e.pe.no=true:=hno;unfold pJ;rw [if_neg this,hlen]; rfl
 by_cases yKK:(200:Int) < e.cells.length
 ·have:¬e.cells.length<=200:=by omega
  simp only [go_sem,b3,hno',yKK];exact no _ (by rw [hR]; simp [this]) _ (Keep.refl _)
 have jGV:e.cells.length<=200:=by omega
 by_cases hnn:(e.news.length:Int)=p.news.length;rotate_left
 ·have:¬e.news.length=p.news.length:=by omega
  simp only [go_sem,b2,b3,hno',yKK,hnn];exact no _ (by rw [hR]; simp [this]) _ (Keep.refl _)
 have vZV:e.news.length=p.news.length:=by omega
 rw [decide_eq_true jGV,decide_eq_true vZV] at hR;simp only [go_sem,b2,b3,hno',yKK,hnn];refine wW (k78 F M1 p hp dA) ?_;rintro u G M2 hq;obtain ⟨hG,le,kq,oq,aq,cq,rfl,rdq⟩:=hq.le wJ (by omega);rw [hG];refine ⟨(fun h=>by cases h),?_⟩;have mY:=oq dA;have h2:=h1.keep kq mY;have b2':=qG (F:=F) (kq _ _ f2);have b3':=qG (F:=F) (kq _ _ f3);clear le oq hq hG h1 dA;simp only [go_sem];refine wV e.cells.length (zHB p e F M2) ⟨rfl,rfl,(by simp only [go_sem, *] <;> rfl),rfl⟩ ?_;rintro i σ F' M3 hi hs ⟨rfl,rfl,q6,he⟩;have q2:=hs 2 rfl;have q3:=hs 3 rfl;have q5:=hs 5 rfl;simp only [go_sem] at q2 q3 q5;clear hs;by_cases hil:(i:Int) < e.cells.length
 ·have hi0:(0:Int)<=i:=by omega
  have hi1:i < e.cells.length:=by omega
  have ei:i64.wrap ((i:Int)+1)=i+1:=dQ (by omega) (by omega);obtain ⟨b,o,cs,ea,hb,rows⟩:=h2.cells.rows (by omega);obtain ⟨d1,d2⟩:=rows i hi1;have hci:e.cells[i].rd F M2:=h2.ptrs _ (aH hi1);have hup:qJJ p.ptr (yK p) e.pe.cells i=(pI p.ptr (yK p) e.cells[i].pc && (decide (i=0) || zY e.pe.cells i e.cells[i].pc)):=by
   have:e.pe.cells[i]? = some e.cells[i].pc:=by simp [En.pe,List.getElem?_eq_getElem hi1]
   exact wQJ this
  have wGH:qJJ p.ptr (yK p) e.pe.cells i=false->pJ p e.pe=false:=fun h=>by rw [hR,wQV hi1 h]; simp
  have hpr:∀hi2:0 < i,∃y:Cl,(cs.drop (o+(i - 1) * 10)).take 10=y.cs/\o+(i - 1) * 10+10<=cs.length/\zY e.pe.cells i e.cells[i].pc=sV y.pc e.cells[i].pc:=fun hi2=>by
   have hi3:i - 1 < e.cells.length:=by omega
   obtain ⟨d3,d4⟩:=rows (i - 1) hi3;exact ⟨e.cells[i - 1],d4,d3,wQG (by simp [En.pe,List.getElem?_eq_getElem hi3])⟩
  clear rows;generalize e.cells[i]=x at *;have no3:qJJ p.ptr (yK p) e.pe.cells i=false->lK F M2 (Same F M (.bool (pJ p e.pe))) (.bool false):=fun h=>no _ (wGH h) _ kq
  have yes:qJJ p.ptr (yK p) e.pe.cells i=true->∀σ',Ax.look σ' 6=some (.int .i64 ((i+1:Nat):Int))->Nxt (zHB p e F M2) e.cells.length i σ' F M2:=
   fun h σ' e39=>⟨hi1,rfl,rfl,e39,by rw [qKW,he,h]; rfl⟩
  rw [hup] at no3 yes;clear hup wGH he hR no;simp only [go_sem,q2,q3,q5,q6,hil,hi0,b2',b3',ea,aB,hb,d1,d2];refine qQ (k79 F _ p _ _ _ x rdq (jE hc) hpre.1 hci) ?_;cases hcb:pI p.ptr (yK p) x.pc
  ·simp only [go_sem];exact no3 (by rw [hcb]; rfl)
  rw [hcb,bQ] at no3 yes;by_cases hz:(0:Int) < i;rotate_left
  ·have hz':i=0:=by omega
   simp only [go_sem,q6,hz,ei];exact yes (by rw [hz']; rfl) _ (by simp only [go_sem, *] <;> rfl)
  have hz':0 < i:=by omega
  have hz0:¬i=0:=by omega
  obtain ⟨y,d3,d4,hy⟩:=hpr hz';rw [hy,decide_eq_false hz0,Bool.false_or] at no3 yes;have ej:i64.wrap ((i:Int) - 1)=((i - 1:Nat):Int):=by rw [dQ (by omega) (by omega)]; omega
  have hj0:(0:Int)<=((i - 1:Nat):Int):=by omega
  have hjl:((i - 1:Nat):Int) < e.cells.length:=by omega
  simp only [go_sem,q3,q6,hz,b3',ej,hj0,hjl,hi0,hil,ea,aB,hb,d1,d2,d3,d4];refine qQ (k80 F M2 y x) ?_;cases hbf:sV y.pc x.pc
  ·simp only [go_sem];exact no3 hbf
  ·simp only [go_sem,q6,ei];exact yes hbf _ (by simp only [go_sem, *] <;> rfl)
 have hx:i=e.cells.length:=by omega
 rw [hx] at he;rw [he,Bool.and_true,bQ,bQ] at hR;simp only [go_sem,q3,q6,hil,b3'];refine wV e.news.length (kYB e F M2) ⟨rfl,rfl,(by simp only [go_sem, *] <;> rfl),rfl⟩ ?_;rintro k σ3 F' M3 hk hs ⟨rfl,rfl,q7,he3⟩;have t3:=hs 3 rfl;simp only [go_sem,q3] at t3;clear hs;by_cases hkl:(k:Int) < e.news.length
 ·have hk0:(0:Int)<=k:=by omega
  have hk1:k < e.news.length:=by omega
  have ek:i64.wrap ((k:Int)+1)=k+1:=dQ (by omega) (by omega);obtain ⟨b4,o4,cs4,ea4,hb4,e1⟩:=Ax.gW h2.news hk1;have t1:=aF hk1;have hbad:inB e.news[k]=false->pJ p e.pe=false:=fun h=>by
   rw [hR,dP]; exact ⟨_,aH hk1,by simp [h]⟩
  generalize e.news[k]=y at *;simp only [go_sem,t3,q7,hkl,hk0,b3',ea4,aB,hb4,e1];refine qQ (k47 F M2 y 1 15) ?_;cases hy:inB y
  ·have hy':(decide (1<=y) && decide (y<=15))=false:=hy;simp only [go_sem,hy'];exact no _ (hbad hy) _ kq
  ·have hy':(decide (1<=y) && decide (y<=15))=true:=hy;simp only [go_sem,hy',q7,ek];exact ⟨hk1,rfl,rfl,(by simp only [go_sem, *] <;> rfl),by rw [t1,List.all_append,he3]; simp [hy]⟩
 have hall:e.news.all inB=true:=by rw [aJ (by omega)] at he3; exact he3
 simp only [go_sem,t3,q7,hkl,b3'];exact no _ (by rw [hR,hall]) _ kq
end Go.Proofs.Tryz.K
namespace Go.Ax
open Go
theorem iC {α:Type}{sz:Nat}{f:α->List Value}(hf:∀x,(f x).length=sz)(x:α):∀(l:List α) (i:Nat),i < l.length->(l.flatMap f).take (i * sz)++f x++(l.flatMap f).drop (i * sz+sz)=(l.set i x).flatMap f
 | [],i,hi=>by simp at hi
 | y :: l,0,hi=>by
  have:=hf y;simp [this]
 | y :: l,i+1,hi=>by
  have ih:=iC hf x l i (by simpa using hi);have hy:=hf y;have e1:(i+1) * sz=sz+i * sz:=by rw [Nat.succ_mul]; omega
  rw [List.set_cons_succ,List.flatMap_cons,List.flatMap_cons,e1];rw [List.take_append,List.drop_append,hy];have t1:List.take (sz+i * sz) (f y)=f y:=aJ (by omega);have t2:List.drop (sz+i * sz+sz) (f y)=[]:=dL (by omega);have t3:sz+i * sz - sz=i * sz:=by omega
  have t4:sz+i * sz+sz - sz=i * sz+sz:=by omega
  rw [t1,t2,t3,t4,List.nil_append,<-ih];simp only [fG]
theorem qC {α:Type}{f:α->List Value}(x:α)(n:Nat):(List.replicate n (f x)).flatten=(List.replicate n x).flatMap f:=by
 induction n with
 | zero=>rfl
 | succ n ih=>rw [dS,List.flatten_cons,ih,dS,List.flatMap_cons]
def nS (b o:Int)(i:Nat):By:=if 0 < b then ⟨2,0,b,o,i⟩ else ⟨1,0,0,0,0⟩
def yT (b o:Int)(n:Nat):List By:=(List.range n).map (nS b o)
def jW (l:List By)(i:Nat):By:=(l[i]?).getD ⟨0,0,0,0,0⟩
def jZ (l:List By):Sc × Int:=if l=yT (jW l 0).b (jW l 0).o l.length then (⟨true,0,(jW l 0).b,(jW l 0).o⟩,0) else (⟨false,0,0,0⟩,8)
def vY (big:Bool)(l:List By):List By:=if big=true then l else l.reverse
def qKX (l:List By):Int:=l.foldl (fun n b=>bor .i64 (qF .i64 n 8) b.n) 0
def uD (n:Int)(l:List By):Bool:=l.any fun b=>decide (b.st=n)
def yV (big:Bool)(k:Int)(l:List By):Sc × Int:=
 if uD 0 l=true then (⟨false,0,0,0⟩,7) else if k=7 then jZ l else if uD 2 l=true then (⟨false,0,0,0⟩,8) else (⟨false,qKX (vY big l),0,0⟩,0)
def pK (big:Bool)(n:Nat)(s:Sc)(i:Nat):By:=if s.p=true then nS s.b s.o i else ⟨1,band .i64 (sW .i64 s.n (8 * ((if big=true then n - 1 - i else i:Nat):Int))) 255,0,0,0⟩
def iK (big:Bool)(n:Nat)(s:Sc):List By:=(List.range n).map (pK big n s)
theorem jV (big:Bool)(n:Nat)(s:Sc):(iK big n s).length=n:=by simp [iK]
theorem wQH (b o:Int)(n:Nat):(yT b o n).length=n:=by simp [yT]
theorem qKZ {b o:Int}{n i:Nat}(h:i < n):(yT b o n)[i]? = some (nS b o i):=by simp [yT,h]
theorem jGA (big:Bool)(n:Nat)(b o:Int):iK big n ⟨true,0,b,o⟩=yT b o n:=by
 unfold iK yT;apply List.map_congr_left;intro i _;simp [pK]
theorem jGB {l:List By}(hb:∀x∈l,lQ x=true)(h0:uD 0 l=false)(h2:uD 2 l=false)(hl:0 < l.length) :
  jZ l=if l.all (fun x=>decide (x.n=0))=true then (⟨true,0,0,0⟩,0) else (⟨false,0,0,0⟩,8):=by
 have key:∀x∈l,x.st=1/\x.b=0/\x.o=0/\x.i=0:=fun x hx=>by
  have h:=hb x hx;have a0:¬x.st=0:=fun e=>by
   rw [uD,List.any_eq_false] at h0; have:=h0 x hx; simp [e] at this
  have a2:¬x.st=2:=fun e=>by
   rw [uD,List.any_eq_false] at h2; have:=h2 x hx; simp [e] at this
  by_cases a1:x.st=1
  ·simp [lQ,a1] at h; exact ⟨a1,h.1.1.2,h.1.2,h.2⟩
  ·simp [lQ,a0,a1,a2] at h
 have e0:jW l 0=l[0]:=by unfold jW; rw [List.getElem?_eq_getElem hl]; rfl
 obtain ⟨_,k1,k2,_⟩:=key l[0] (aH hl);unfold jZ;rw [e0,k1,k2];have hiff:l=yT 0 0 l.length↔l.all (fun x=>decide (x.n=0))=true:=by
  rw [bW];constructor
  ·intro h x hx;rw [h] at hx;simp only [yT,List.mem_map] at hx;obtain ⟨i,_,rfl⟩:=hx;simp [nS]
  ·intro h;apply List.ext_getElem?;intro i;by_cases hi:i < l.length
   ·rw [qKZ hi,List.getElem?_eq_getElem hi];have hm:=aH hi;have:=h _ hm;obtain ⟨q1,q2,q3,q4⟩:=key _ hm;generalize l[i]=x at *;obtain ⟨a,b,c,d,e⟩:=x;simp at this q1 q2 q3 q4;simp [nS,this,q1,q2,q3,q4]
   ·rw [List.getElem?_eq_none (by omega),List.getElem?_eq_none (by simp [yT]; omega)]
 by_cases h:l.all (fun x=>decide (x.n=0))=true
 ·rw [if_pos h,if_pos (hiff.2 h)]
 ·rw [if_neg h,if_neg (fun e=>h (hiff.1 e))]
theorem jGC {l:List By}(hb:∀x∈l,lQ x=true)(h2:uD 2 l=true)(hl:0 < l.length) :
  jZ l=if (jW l 0).st=2/\yT (jW l 0).b (jW l 0).o l.length=l then (⟨true,0,(jW l 0).b,(jW l 0).o⟩,0) else (⟨false,0,0,0⟩,8):=by
 unfold jZ;by_cases he:l=yT (jW l 0).b (jW l 0).o l.length
 ·rw [if_pos he];have:(jW l 0).st=2:=by
   rw [uD,List.any_eq_true] at h2;obtain ⟨x,hx,hs⟩:=h2;have hs':x.st=2:=by simpa using hs
   rw [he] at hx;simp only [yT,List.mem_map] at hx;obtain ⟨i,_,rfl⟩:=hx;have hpos:0 < (jW l 0).b:=by
    unfold nS at hs';split at hs'
    ·assumption
    ·simp at hs'
   have h0:jW l 0=nS (jW l 0).b (jW l 0).o 0:=by
    have:=congrArg (fun m=>jW m 0) he;simp only [jW] at this ⊢;rw [qKZ hl] at this;exact this
   rw [h0];unfold nS;rw [if_pos hpos]
  rw [if_pos ⟨this,he.symm⟩]
 ·rw [if_neg he,if_neg (fun h=>he h.2.symm)]
end Go.Ax
namespace Go.Proofs.Tryz.K
open Go Go.Ax Go.Proofs.Tryz.S
variable (F:Fz) (M:Hp)
theorem kYC (x:By)(n:Int)(r3:Nat)(e3:nH)(h3:M r3=some e3)(c3:e3.cells=[.int .i64 n]):aI prog 204 [x.val,.pointer (some ⟨r3,0,none⟩)] F M (Same F M (.bool (decide (x.st=n)))):=by
 refine qZ hm func204 e204 (aA rfl) ?_;have b3:=qG (F:=F) h3;rw [c3] at b3;simp only [zXB,go_sem]
 repeat' first
  | simp only [go_sem,wX,aU,aK, *]
  | (with_reducible first | apply cD | apply cN | apply cB | apply cO | apply tD | apply fD | apply tN | apply fN | apply tB | apply fB | apply tO | apply fO) <;> intro hc
  | (intro rx hFx lD; (try simp only [qD] at lD))
 all_goals (refine qX (M:=M) (by repeat' first | exact Keep.refl _ | (refine Keep.new ?_ (by simp only [*]))) ⟨?_,rfl,rfl⟩)
 all_goals rfl
theorem zHC (a:Option Addr)(c:Nat)(l:List By)(n:Int)(h:dF 5 By.cs F M (.slice a l.length c) l):aI prog 185 [.slice a l.length c,.int .i64 n] F M (Same F M (.bool (uD n l))):=by
 refine qZ hm func185 e185 (aA rfl) ?_;simp only [zXW,go_sem];intro r3 hF3 dN;have h3:dF 5 By.cs F (M.upd r3 ⟨[.int .i64 n],3,1⟩) (.slice a l.length c) l:=dF.new h hF3 dN;have kc:=kDA F _ a c l _ [.pointer (some ⟨r3,0,none⟩)] (fun x=>decide (x.st=n)) h3 (fun v _=>kYC F _ v n r3 _ (Hp.qV _ _ _) rfl);clear h3 h
 repeat' first
  | simp only [go_sem, *]
  | (with_reducible first | apply cD | apply cN | apply cB | apply cO | apply tD | apply fD | apply tN | apply fN | apply tB | apply fB | apply tO | apply fO) <;> intro hc
  | (intro rx hFx lD; (try simp only [qD] at lD))
  | with_reducible refine qQ kc ?_
 all_goals (refine qX (M:=M) (by repeat' first | exact Keep.refl _ | (refine Keep.new ?_ (by simp only [*]))) ⟨?_,rfl,rfl⟩)
 rfl
def zHE (l:List By)(r2 r4:Nat)(F0:Fz)(M0:Hp)(i:Nat)(σ:Env)(F:Fz)(M:Hp):Prop:=
 F0=F/\Keep M0 M/\Old F0 M/\M0 r2=none/\M r2=some ⟨(Sc.mk false 0 0 0).cs,90,4⟩/\M r4=some ⟨(Sc.mk true 0 (jW l 0).b (jW l 0).o).cs,90,4⟩/\Ax.look σ 19=some (.int .i64 i)/\l.take i=(yT (jW l 0).b (jW l 0).o l.length).take i
theorem kYE (a:Option Addr)(c:Nat)(l:List By)(hold:Old F M)(h:dF 5 By.cs F M (.slice a l.length c) l)(hl:0 < l.length) :
  aI prog 186 [.slice a l.length c] F M (Same F M (.tuple #[(jZ l).1.val,.int .i64 (jZ l).2])):=by
 refine qZ hm func186 kKE (aA rfl) ?_;have hle:=h.1;obtain ⟨b,o,cs,rfl,hb,rows⟩:=h.rows hl;obtain ⟨d1,d2⟩:=rows 0 hl;have d3:=Go.Ax.By.row d2;rw [dX,aK] at d3;obtain ⟨_,_,d4,d5,_⟩:=d3;have e0:jW l 0=l[0]:=by unfold jW; rw [List.getElem?_eq_getElem hl]; rfl
 rw [<-e0] at d4 d5;have hl0:(0:Int) < l.length:=by omega
 have t0:Int.toNat 0=0:=rfl;simp only [zXX,go_sem];intro r2 hF2 hM2;have nb2:=jT hb hF2 hM2;simp only [go_sem,nb2,hb,hl0,t0,d4,d5,dX,aK];intro r4 mW jP;simp only [qD] at jP;simp only [setH,Hp.wZ,go_sem];refine wV l.length (zHE l r2 r4 F M) ⟨rfl,(by repeat' first | exact Keep.refl _ | (refine Keep.new ?_ (by simp only [*]))),(by repeat' first | assumption | (refine Old.upd ?_ (by assumption))),hM2,by rw [Hp.qK jP.1.2]; exact Hp.qV _ _ _,Hp.qV _ _ _,(by simp only [go_sem, *] <;> rfl),rfl⟩ ?_;clear nb2 hF2 hM2 mW jP;rintro i σ F' M1 hi hs ⟨rfl,kp,old,hM2,f2,f4,q19,he⟩;have q2:=hs 2 rfl;have q4:=hs 4 rfl;have q17:=hs 17 rfl;have q18:=hs 18 rfl;simp only [go_sem] at q2 q4 q17 q18;clear hs;have b2:=qG (F:=F) f2;have b4:=qG (F:=F) f4;have fin:∀M3,Keep M1 M3->∀x,lK F (M3.upd r2 x) (Same F M (.tuple #[(jZ l).1.val,.int .i64 (jZ l).2])) (.tuple #[(jZ l).1.val,.int .i64 (jZ l).2]):=fun M3 k x=>qX ((kp.trans k).new hM2) ⟨rfl,rfl,rfl⟩
 by_cases hil:(i:Int) < l.length;rotate_left
 ·have hlp:l=yT (jW l 0).b (jW l 0).o l.length:=by
   rw [aJ (by omega),aJ (by rw [wQH]; omega)] at he;exact he
  have hv:jZ l=(⟨true,0,(jW l 0).b,(jW l 0).o⟩,0):=by unfold jZ; rw [if_pos hlp]
  have ff:=fin M1 (Keep.refl _);rw [hv] at ff ⊢;simp only [setH,go_sem,q2,q4,q18,q19,hil,b4,f2];exact ff _
 have hi0:(0:Int)<=i:=by omega
 have hi1:i < l.length:=by omega
 have ei:i64.wrap ((i:Int)+1)=i+1:=dQ (by omega) (by omega);have hb1:=qYY hb kp old;obtain ⟨g1,g2⟩:=rows i hi1;have t1:=aF hi1;have t2:(yT (jW l 0).b (jW l 0).o l.length).take (i+1)=(yT (jW l 0).b (jW l 0).o l.length).take i++[nS (jW l 0).b (jW l 0).o i]:=by
  rw [List.take_add_one,qKZ hi1]; rfl
 have hne:¬l[i]=nS (jW l 0).b (jW l 0).o i->jZ l=(⟨false,0,0,0⟩,8):=fun h=>by
  unfold jZ;rw [if_neg];intro e;have:=congrArg (fun m=>m[i]?) e;simp only [qKZ hi1,List.getElem?_eq_getElem hi1,Option.some.injEq] at this;exact h this
 clear rows;generalize l[i]=x at *;simp only [go_sem,q17,q18,q19,hil,hi0,aB,hb1,g1,g2];intro r6 vI oI;have m2:=qJ oI f2;have m4:=qJ oI f4;simp only [setH,Hp.wZ,go_sem];intro r7 wU qB;simp only [qD] at qB;have p2:=qJ qB.2 f2;have p4:=qJ qB.2 f4;have lY:∀e e',Keep M1 ((M1.upd r6 e).upd r7 e'):=fun e e'=>(by repeat' first | exact Keep.refl _ | (refine Keep.new ?_ (by simp only [*])))
 have iO:∀e e',Old F ((M1.upd r6 e).upd r7 e'):=fun e e'=>(by repeat' first | assumption | (refine Old.upd ?_ (by assumption)))
 have next:x=nS (jW l 0).b (jW l 0).o i->∀e e' σ',Ax.look σ' 19=some (.int .i64 ((i+1:Nat):Int))->Nxt (zHE l r2 r4 F M) l.length i σ' F ((M1.upd r6 e).upd r7 e'):=fun hx e e' σ' h=>
  ⟨hi1,rfl,kp.trans (lY _ _),iO _ _,hM2,lY _ _ _ _ f2,lY _ _ _ _ f4,h,by rw [t1,t2,he,hx]⟩
 have stop:¬x=nS (jW l 0).b (jW l 0).o i->∀e e',lK F (((M1.upd r6 e).upd r7 e').upd r2 ⟨(Sc.mk false 0 0 0).cs,90,4⟩) (Same F M (.tuple #[(jZ l).1.val,.int .i64 (jZ l).2])) (.tuple #[(Sc.mk false 0 0 0).val,.int .i64 8]):=fun hx e e'=>by
  have ff:=fin _ (lY e e') ⟨(Sc.mk false 0 0 0).cs,90,4⟩;rw [hne hx] at ff ⊢;exact ff
 clear fin hne t1 t2 he;by_cases hbp:0 < (jW l 0).b
 ·have ew:nS (jW l 0).b (jW l 0).o i=⟨2,0,(jW l 0).b,(jW l 0).o,i⟩:=by unfold nS; rw [if_pos hbp]
  rw [ew] at next stop;by_cases hx:x=⟨2,0,(jW l 0).b,(jW l 0).o,i⟩
  ·simp only [setH,Hp.wZ,go_sem,q4,q19,m4,p4,qB,b4,hbp,By.fold,hx,ei];exact next hx _ _ _ (by simp only [go_sem, *] <;> rfl)
  ·simp only [setH,Hp.wZ,go_sem,q2,q4,m2,m4,p2,p4,qB,b4,f2,hbp,By.fold,hx];exact stop hx _ _
 ·have ew:nS (jW l 0).b (jW l 0).o i=⟨1,0,0,0,0⟩:=by unfold nS; rw [if_neg hbp]
  rw [ew] at next stop;by_cases hx:x=⟨1,0,0,0,0⟩
  ·simp only [setH,Hp.wZ,go_sem,q4,q19,m4,p4,qB,b4,hbp,By.fold,hx,ei];exact next hx _ _ _ (by simp only [go_sem, *] <;> rfl)
  ·simp only [setH,Hp.wZ,go_sem,q2,q4,m2,m4,p2,p4,qB,b4,f2,hbp,By.fold,hx];exact stop hx _ _
theorem xU (big:Bool)(l:List By):(vY big l).length=l.length:=by unfold vY; split <;> simp
theorem wKW {l:List By}{i:Nat}(h:i < l.length):qKX (l.take (i+1))=bor .i64 (qF .i64 (qKX (l.take i)) 8) (l[i]).n:=by
 rw [aF h];unfold qKX;rw [List.foldl_append]; rfl
def zHF (big:Bool)(l:List By)(r6:Nat)(F0:Fz)(M0:Hp)(i:Nat)(σ:Env)(F:Fz)(M:Hp):Prop:=
 F0=F/\Keep M0 M/\Old F0 M/\Ax.look σ 28=some (.int .i64 i)/\Ax.look σ 8=some (.int .i64 (qKX ((vY big l).take i)))
theorem zDQ (big:Bool)(ptr k:Int)(a:Option Addr)(c:Nat)(l:List By)(hold:Old F M)(h:dF 5 By.cs F M (.slice a l.length c) l)(hl:0 < l.length) :
  aI prog 152 [.agg #[.bool big,.int .i64 ptr],.int .i64 k,.slice a l.length c] F M (Same F M (.tuple #[(yV big k l).1.val,.int .i64 (yV big k l).2])):=by
 refine qZ hm func152 e152 (aA rfl) ?_;have hle:=h.1;simp only [c152,go_sem];intro r3 hF3 dN;simp only [go_sem];intro r6 vI oI;simp only [qD] at oI;have iZ:Keep M ((M.upd r3 ⟨[.bool big,.int .i64 ptr],39,2⟩).upd r6 ⟨[.bool false,.int .i64 0,.int .i64 0,.int .i64 0],90,4⟩):=(by repeat' first | exact Keep.refl _ | (refine Keep.new ?_ (by simp only [*])))
 have eG:Old F ((M.upd r3 ⟨[.bool big,.int .i64 ptr],39,2⟩).upd r6 ⟨[.bool false,.int .i64 0,.int .i64 0,.int .i64 0],90,4⟩):=(by repeat' first | assumption | (refine Old.upd ?_ (by assumption)))
 have f3:((M.upd r3 ⟨[.bool big,.int .i64 ptr],39,2⟩).upd r6 ⟨[.bool false,.int .i64 0,.int .i64 0,.int .i64 0],90,4⟩) r3=some ⟨[.bool big,.int .i64 ptr],39,2⟩:=by rw [Hp.qK oI.1.2]; exact Hp.qV _ _ _
 have f6:((M.upd r3 ⟨[.bool big,.int .i64 ptr],39,2⟩).upd r6 ⟨[.bool false,.int .i64 0,.int .i64 0,.int .i64 0],90,4⟩) r6=some ⟨[.bool false,.int .i64 0,.int .i64 0,.int .i64 0],90,4⟩:=Hp.qV _ _ _;have n6:M r6=none:=oI.2;generalize (M.upd r3 ⟨[.bool big,.int .i64 ptr],39,2⟩).upd r6 ⟨[.bool false,.int .i64 0,.int .i64 0,.int .i64 0],90,4⟩=M1 at *;have h1:=h.keep iZ eG;have b3:=qG (F:=F) f3;have b6:=qG (F:=F) f6;clear hF3 dN vI oI;have fin:∀s bad,yV big k l=(s,bad)->∀M3,Keep M1 M3->∀x,lK F (M3.upd r6 x) (Same F M (.tuple #[(yV big k l).1.val,.int .i64 (yV big k l).2])) (.tuple #[s.val,.int .i64 bad]):=fun s bad e M3 k x=>qX ((iZ.trans k).new n6) ⟨by rw [e],rfl,rfl⟩
 simp only [go_sem];refine qQ (zHC F M1 a c l 0 h1) ?_;cases s0:uD 0 l;rotate_left
 ·have hv:yV big k l=(⟨false,0,0,0⟩,7):=by unfold yV; rw [if_pos s0]
  simp only [setH,go_sem,f6];exact fin _ _ hv M1 (Keep.refl _) _
 by_cases h7:k=7
 ·have hv:yV big k l=((jZ l).1,(jZ l).2):=by unfold yV; rw [if_neg (by simp [s0]),if_pos h7]
  simp only [go_sem,h7];refine qQ (kYE F M1 a c l eG h1 hl) ?_;simp only [setH,go_sem,f6];rw [h7] at hv fin;exact fin _ _ hv M1 (Keep.refl _) _
 simp only [go_sem,h7];refine qQ (zHC F M1 a c l 2 h1) ?_;cases s2:uD 2 l;rotate_left
 ·have hv:yV big k l=(⟨false,0,0,0⟩,8):=by unfold yV; rw [if_neg (by simp [s0]),if_neg h7,if_pos s2]
  simp only [setH,go_sem,f6];exact fin _ _ hv M1 (Keep.refl _) _
 have hv:yV big k l=(⟨false,qKX (vY big l),0,0⟩,0):=by unfold yV; rw [if_neg (by simp [s0]),if_neg h7,if_neg (by simp [s2])]
 simp only [go_sem];refine wV l.length (zHF big l r6 F M1) ⟨rfl,Keep.refl _,eG,(by simp only [go_sem, *] <;> rfl),by simp only [go_sem]; rfl⟩ ?_;rintro i σ F' M2 hi hs ⟨rfl,kp,old,q28,q8⟩;have q2:=hs 2 rfl;have q3:=hs 3 rfl;have q6:=hs 6 rfl;have q27:=hs 27 rfl;simp only [go_sem] at q2 q3 q6 q27;clear hs;have b3':=qG (F:=F) (kp _ _ f3);have g6:=kp _ _ f6;have b6':=qG (F:=F) g6;by_cases hil:(i:Int) < l.length;rotate_left
 ·have hx:i=l.length:=by omega
  rw [aJ (by rw [xU]; omega)] at q8;simp only [setH,go_sem,q6,q27,q28,q8,hil,g6,Sc.fold];exact fin _ _ hv M2 kp _
 have hi0:(0:Int)<=i:=by omega
 have hi1:i < l.length:=by omega
 have ei:i64.wrap ((i:Int)+1)=i+1:=dQ (by omega) (by omega);have ew1:i64.wrap ((l.length:Int) - 1)=l.length - 1:=dQ (by omega) (by omega);have ew2:i64.wrap ((l.length:Int) - 1 - i)=((l.length - 1 - i:Nat):Int):=by rw [dQ (by omega) (by omega)]; omega
 have hj:l.length - 1 - i < l.length:=by omega
 have hj0:(0:Int)<=((l.length - 1 - i:Nat):Int):=by omega
 have hjl:((l.length - 1 - i:Nat):Int) < l.length:=by omega
 obtain ⟨b,o,cs,rfl,hb,rows⟩:=(h1.keep kp old).rows hl;obtain ⟨d1,d2⟩:=rows i hi1;obtain ⟨d3,d4⟩:=rows (l.length - 1 - i) hj;have hsucc:=wKW (l:=vY big l) (i:=i) (by rw [xU]; exact hi1);have hsel:((vY big l)[i]'(by rw [xU]; exact hi1))=if big=true then l[i] else l[l.length - 1 - i]:=by
  cases big
  ·simp [vY,List.getElem_reverse]
  ·simp [vY]
 rw [hsel] at hsucc;clear hsel rows;generalize l[i]=x at *;generalize l[l.length - 1 - i]=y at *;simp only [go_sem,q2,q27,q28,hil,ew1,ew2,hj0,hjl,aB,hb,d3,d4];intro r10 qJG uF;have m3:=qJ uF (kp _ _ f3);have m6:=qJ uF g6;have mb:=jT hb qJG uF;have pO:∀e,Keep M2 (M2.upd r10 e):=fun e=>(Keep.refl M2).new uF
 cases big
 ·simp only [setH,Hp.wZ,go_sem,q3,q28,q8,m3,b3',ei];exact ⟨hi1,rfl,kp.trans (pO _),old.upd qJG,(by simp only [go_sem, *] <;> rfl),by simp only [go_sem]; rw [hsucc]; rfl⟩
 ·simp only [setH,Hp.wZ,go_sem,q2,q3,q28,q8,m3,mb,b3',hi0,hil,aB,hb,d1,d2,ei];exact ⟨hi1,rfl,kp.trans (pO _),old.upd qJG,(by simp only [go_sem, *] <;> rfl),by simp only [go_sem]; rw [hsucc]; rfl⟩
end Go.Proofs.Tryz.K
