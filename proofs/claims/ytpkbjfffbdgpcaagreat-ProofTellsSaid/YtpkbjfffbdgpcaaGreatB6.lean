/- Parts B6: the machine's runs of small codes, contracts of functions, plain facts. -/
import Derived.Test.YtpkbjfffbdgpcaaGreatB5
open Nat renaming add_zero->aK,le_of_ble_eq_true->aA,le_refl->aN,sub_self->fM,zero_mul->dX
open Int renaming eq_ofNat_of_zero_le->aG,toNat_natCast->aB
open Bool renaming and_eq_true->aC,eq_iff_iff->dG,false_ne_true->bK,or_eq_false_iff->dU,true_and->bQ
open List renaming all_eq_false->dP,all_eq_true->bW,append_assoc->fG,getElem_mem->aH,getElem_of_mem->bZ,length_append->aO,length_cons->fF,length_replicate->bD,length_take->dW,map_append->bP,mem_append->aW,mem_cons->aQ,mem_map_of_mem->eF,mem_singleton->aX,not_mem_nil->aV,replicate_succ->dS,take_of_length_le->aJ,take_succ_eq_append_getElem->aF
open Option renaming map_some->cZ
open Go.Proofs.Tryz
open Go.IntKind (i64)
set_option maxRecDepth 100000
set_option linter.unusedSimpArgs false
set_option linter.unusedVariables false
set_option maxHeartbeats 4000000
namespace Go.Proofs.Tryz.K
open Go Go.Ax Go.Proofs.Tryz.S
variable (F:Fz) (M:Hp)
theorem k57 (a1 a2:Option Addr)(c1 c2:Nat)(l1 l2:List By)(h1:dF 5 By.cs F M (.slice a1 l1.length c1) l1)(h2:dF 5 By.cs F M (.slice a2 l2.length c2) l2) :
  aI prog 57 [.slice a1 l1.length c1,.slice a2 l2.length c2] F M (Same F M (.bool (decide (l1=l2)))):=by
 refine qZ hm func57 e57 (aA rfl) ?_;have hm1:=h1.1;by_cases hlen:(l1.length:Int)=l2.length;rotate_left
 ·simp only [c57,go_sem,hlen];exact qW ⟨by rw [decide_eq_false (by rintro rfl; exact hlen rfl)],rfl,rfl⟩
 simp only [c57,go_sem,hlen];refine wV l1.length (fun i σ F' M'=>F=F'/\M=M'/\Ax.look σ 5=some (.int .i64 i)/\l1.take i=l2.take i) ⟨rfl,rfl,(by simp only [go_sem, *] <;> rfl),by simp⟩ ?_;rintro i σ F' M' hi hs ⟨rfl,rfl,h5,he⟩;have s0:=hs 0 rfl;have s1:=hs 1 rfl;simp only [go_sem] at s0 s1;clear hs;by_cases hil:(i:Int) < l2.length;rotate_left
 ·have:l1=l2:=by
   rw [aJ (by omega),aJ (by omega)] at he;exact he
  simp only [go_sem,s0,h5,hil,hlen];exact qW ⟨by simp [this],rfl,rfl⟩
 have hi0:(0:Int)<=i:=by omega
 have hi1:i < l1.length:=by omega
 have hi2:i < l2.length:=by omega
 have ei:i64.wrap ((i:Int)+1)=i+1:=dQ (by omega) (by omega);obtain ⟨b,o,cs,rfl,hb,d1,d2⟩:=dF.at h1 hi1;obtain ⟨b',o',cs',rfl,hb',d3,d4⟩:=dF.at h2 hi2;have t1:=aF hi1;have t2:=aF hi2;have hne:¬l1[i]=l2[i]->¬l1=l2:=by
  rintro h rfl; exact h rfl
 generalize l1[i]=x at *;generalize l2[i]=y at *;by_cases hxy:x=y
 ·simp only [go_sem,s0,s1,h5,hlen,hil,hi0,aB,hb,hb',d1,d2,d3,d4,hxy,ei];exact ⟨hi1,rfl,rfl,(by simp only [go_sem, *] <;> rfl),by rw [t1,t2,he,hxy]⟩
 ·simp only [go_sem,s0,s1,h5,hlen,hil,hi0,aB,hb,hb',d1,d2,d3,d4,hxy];exact qW ⟨by rw [decide_eq_false (hne hxy)],rfl,rfl⟩
def zDW (big:Bool)(n:Nat)(s:Sc)(r3 r5 r15:Nat)(ptr:Int)(F0:Fz)(M0:Hp)(i:Nat)(σ:Env)(F:Fz)(M:Hp):Prop:=
 F0=F/\M=((M0.upd r3 ⟨[.bool big,.int .i64 ptr],39,2⟩).upd r5 ⟨s.cs,90,4⟩).upd r15 ⟨((iK big n s).take i++List.replicate (n - i) (⟨0,0,0,0,0⟩:By)).flatMap By.cs,88,n * 5⟩/\Ax.look σ 9=some (.int .i64 i)
theorem yVD {big:Bool}{n i:Nat}{s:Sc}(h:i < n)(x y:By):(((iK big n s).take i++List.replicate (n - i) x).set i y)=(iK big n s).take i++y :: List.replicate (n - (i+1)) x:=by
 have e:n - i=(n - (i+1))+1:=by omega
 have hl:((iK big n s).take i).length=i:=by rw [dW,jV]; omega
 rw [List.set_append,if_neg (by omega),hl,fM,e,dS];rfl
theorem jGE {big:Bool}{n i:Nat}{s:Sc}(h:i < n)(x y z:By):(((iK big n s).take i++y :: List.replicate (n - (i+1)) x).set i z)=(iK big n s).take i++z :: List.replicate (n - (i+1)) x:=by
 have hl:((iK big n s).take i).length=i:=by rw [dW,jV]; omega
 rw [List.set_append,if_neg (by omega),hl,fM];rfl
theorem wYG {big:Bool}{n i:Nat}{s:Sc}(h:i < n)(x:By):(iK big n s).take i++pK big n s i :: List.replicate (n - (i+1)) x=(iK big n s).take (i+1)++List.replicate (n - (i+1)) x:=by
 have:(iK big n s)[i]? = some (pK big n s i):=by simp [iK,h]
 rw [List.take_add_one,this];simp
theorem k58 (big:Bool)(ptr k:Int)(s:Sc)(hp:ptr=2\/ptr=4)(hold:Old F M) :
  aI prog 58 [.agg #[.bool big,.int .i64 ptr],.int .i64 k,s.val] F M (tK 5 By.cs 88 (iK big (nZ ptr k).toNat s) F M):=by
 refine qZ hm func58 e58 (aA rfl) ?_;have hn:0<=nZ ptr k/\nZ ptr k<=4:=by
  unfold nZ;split
  ·omega
  ·have hw:=xVA k;unfold wK iF;split
   ·split
    ·decide
    split <;> decide
   ·decide
 obtain ⟨n,hz⟩:=aG hn.1;have hn4:n<=4:=by omega
 rw [hz,aB];simp only [c58,go_sem];intro r3 hF3 dN;simp only [go_sem];intro r5 lM gU;simp only [qD] at gU;simp only [go_sem,gU];refine qQ (k89 _ _ big ptr k) ?_;rw [hz];simp only [go_sem];refine rY (aN _) (by simp only [maxLen]; omega) (by omega) ?_;intro r15 wYV qJV;simp only [qD] at qJV;have hrep:(List.replicate n [Value.int .i64 0,.int .i64 0,.int .i64 0,.int .i64 0,.int .i64 0]).flatten=((iK big n s).take 0++List.replicate (n - 0) (⟨0,0,0,0,0⟩:By)).flatMap By.cs:=by
  rw [List.take_zero,List.nil_append,Nat.sub_zero];exact qC (f:=By.cs) ⟨0,0,0,0,0⟩ n
 rw [hrep];simp only [go_sem];refine wV n (zDW big n s r3 r5 r15 ptr F M) ⟨rfl,rfl,(by simp only [go_sem, *] <;> rfl)⟩ ?_;clear hrep;rintro i σ F' M' hi hst ⟨rfl,rfl,h9⟩;have q3:=hst 3 rfl;have q5:=hst 5 rfl;have q7:=hst 7 rfl;have q8:=hst 8 rfl;simp only [go_sem] at q3 q5 q7 q8;clear hst;by_cases hil:(i:Int) < n;rotate_left
 ·have hin:i=n:=by omega
  have e0:(iK big n s).take i++List.replicate (n - i) (⟨0,0,0,0,0⟩:By)=iK big n s:=by
   rw [hin,fM,aJ (by rw [jV]; omega)]; simp
  rw [e0];simp only [go_sem,q7,q8,h9,hil];refine qX (M:=M.upd r15 ⟨(iK big n s).flatMap By.cs,88,n * 5⟩) ?_ ⟨rfl,?_⟩
  ·exact Keep.both (by repeat' first | exact Keep.refl _ | (refine Keep.new ?_ (by simp only [*])))
  ·exact .inr ⟨r15,n,wYV,qJV.2.2,by rw [jV],⟨by rw [jV]; omega,by simp only [maxLen]; omega⟩,rfl⟩
 have hi0:(0:Int)<=i:=by omega
 have hi1:i < n:=by omega
 have ei:i64.wrap ((i:Int)+1)=i+1:=dQ (by omega) (by omega);have ew1:i64.wrap ((n:Int) - 1)=n - 1:=dQ (by omega) (by omega);have ew2:i64.wrap ((n:Int) - 1 - i)=((n - 1 - i:Nat):Int):=by rw [dQ (by omega) (by omega)]; omega
 have ew3:i64.wrap (8 * (i:Int))=8 * (i:Int):=dQ (by omega) (by omega);have ew4:i64.wrap (8 * ((n - 1 - i:Nat):Int))=8 * ((n - 1 - i:Nat):Int):=dQ (by omega) (by omega);have en3:¬(8 * (i:Int)) < 0:=by omega
 have en4:¬(8 * ((n - 1 - i:Nat):Int)) < 0:=by omega
 have hlen:((iK big n s).take i++List.replicate (n - i) (⟨0,0,0,0,0⟩:By)).length=n:=by
  rw [aO,dW,jV,bD]; omega
 have hlc:i * 5+5<=(((iK big n s).take i++List.replicate (n - i) (⟨0,0,0,0,0⟩:By)).flatMap By.cs).length:=by
  rw [yG By.len,hlen]; omega
 have fs:∀y:By,(((iK big n s).take i++List.replicate (n - i) (⟨0,0,0,0,0⟩:By)).flatMap By.cs).take (i * 5)++y.cs++(((iK big n s).take i++List.replicate (n - i) (⟨0,0,0,0,0⟩:By)).flatMap By.cs).drop (i * 5+5)=((iK big n s).take i++y :: List.replicate (n - (i+1)) (⟨0,0,0,0,0⟩:By)).flatMap By.cs:=fun y=>by
  rw [iC By.len y _ i (by rw [hlen]; exact hi1),yVD hi1]
 have hlen2:∀y,((iK big n s).take i++y :: List.replicate (n - (i+1)) (⟨0,0,0,0,0⟩:By)).length=n:=fun y=>by
  rw [aO,dW,jV,fF,bD]; omega
 have xZF:∀y,i * 5+5<=(((iK big n s).take i++y :: List.replicate (n - (i+1)) (⟨0,0,0,0,0⟩:By)).flatMap By.cs).length:=fun y=>by
  rw [yG By.len,hlen2]; omega
 have fs2:∀x y:By,(((iK big n s).take i++x :: List.replicate (n - (i+1)) (⟨0,0,0,0,0⟩:By)).flatMap By.cs).take (i * 5)++y.cs++(((iK big n s).take i++x :: List.replicate (n - (i+1)) (⟨0,0,0,0,0⟩:By)).flatMap By.cs).drop (i * 5+5)=((iK big n s).take i++y :: List.replicate (n - (i+1)) (⟨0,0,0,0,0⟩:By)).flatMap By.cs:=fun x y=>by
  rw [iC By.len y _ i (by rw [hlen2]; exact hi1),jGE hi1]
 have fin:∀(y:By) σ',y=pK big n s i->Ax.look σ' 9=some (.int .i64 ((i+1:Nat):Int))->Nxt (zDW big n s r3 r5 r15 ptr F M) n i σ' F (((M.upd r3 ⟨[.bool big,.int .i64 ptr],39,2⟩).upd r5 ⟨s.cs,90,4⟩).upd r15 ⟨((iK big n s).take i++y :: List.replicate (n - (i+1)) ⟨0,0,0,0,0⟩).flatMap By.cs,88,n * 5⟩):=fun y σ' hy h=>
  ⟨hi1,rfl,by rw [hy,wYG hi1],h⟩
 have fs':=fun a b c d e=>fs ⟨a,b,c,d,e⟩
 have jGF:=fun x a b c d e=>fs2 x ⟨a,b,c,d,e⟩
 simp only [Go.Ax.By.cs] at fs' jGF;clear fs fs2;rcases Bool.eq_false_or_eq_true big with rfl | rfl
 ·rcases Bool.eq_false_or_eq_true s.p with hsp | hsp
  ·by_cases hsb:0 < s.b
   ·have ep:pK true n s i=⟨2,0,s.b,s.o,i⟩:=by unfold pK nS; rw [if_pos hsp,if_pos hsb]
    simp only [setH,Hp.wZ,go_sem,q3,q5,q7,q8,h9,hil,hi0,qJV,gU,aB,ew1,ew2,ew4,en4,fs',jGF,hlc,xZF,hsp,hsb,ei];exact fin _ _ ep.symm (by simp only [go_sem, *] <;> rfl)
   ·have ep:pK true n s i=⟨1,0,0,0,0⟩:=by unfold pK nS; rw [if_pos hsp,if_neg hsb]
    simp only [setH,Hp.wZ,go_sem,q3,q5,q7,q8,h9,hil,hi0,qJV,gU,aB,ew1,ew2,ew4,en4,fs',jGF,hlc,xZF,hsp,hsb,ei];exact fin _ _ ep.symm (by simp only [go_sem, *] <;> rfl)
  ·have ep:pK true n s i=⟨1,band .i64 (sW .i64 s.n (8 * ((n - 1 - i:Nat):Int))) 255,0,0,0⟩:=by unfold pK; rw [if_neg (by rw [hsp]; exact bK),if_pos rfl]
   simp only [setH,Hp.wZ,go_sem,q3,q5,q7,q8,h9,hil,hi0,qJV,gU,aB,ew1,ew2,ew4,en4,fs',hlc,hsp,ei];exact fin _ _ ep.symm (by simp only [go_sem, *] <;> rfl)
 ·rcases Bool.eq_false_or_eq_true s.p with hsp | hsp
  ·by_cases hsb:0 < s.b
   ·have ep:pK false n s i=⟨2,0,s.b,s.o,i⟩:=by unfold pK nS; rw [if_pos hsp,if_pos hsb]
    simp only [setH,Hp.wZ,go_sem,q3,q5,q7,q8,h9,hil,hi0,qJV,gU,aB,ew3,en3,fs',jGF,hlc,xZF,hsp,hsb,ei];exact fin _ _ ep.symm (by simp only [go_sem, *] <;> rfl)
   ·have ep:pK false n s i=⟨1,0,0,0,0⟩:=by unfold pK nS; rw [if_pos hsp,if_neg hsb]
    simp only [setH,Hp.wZ,go_sem,q3,q5,q7,q8,h9,hil,hi0,qJV,gU,aB,ew3,en3,fs',jGF,hlc,xZF,hsp,hsb,ei];exact fin _ _ ep.symm (by simp only [go_sem, *] <;> rfl)
  ·have ep:pK false n s i=⟨1,band .i64 (sW .i64 s.n (8 * (i:Int))) 255,0,0,0⟩:=by unfold pK; rw [if_neg (by rw [hsp]; exact bK),if_neg bK]
   simp only [setH,Hp.wZ,go_sem,q3,q5,q7,q8,h9,hil,hi0,qJV,gU,aB,ew3,en3,fs',hlc,hsp,ei];exact fin _ _ ep.symm (by simp only [go_sem, *] <;> rfl)
theorem wKX {n:Int}{l:List By}{i:Nat}(h:i < l.length):uD n (l.take (i+1))=(uD n (l.take i) || decide ((l[i]).st=n)):=by
 rw [aF h];unfold uD;rw [List.any_append]; simp
theorem xKQ {n:Int}{l:List By}{i:Nat}(h:i < l.length)(e:(l[i]).st=n):uD n l=true:=by
 unfold uD;rw [List.any_eq_true];exact ⟨l[i],aH h,by simp [e]⟩
def dQW (l:List By)(F0:Fz)(M0:Hp)(i:Nat)(σ:Env)(F:Fz)(M:Hp):Prop:=
 F0=F/\M0=M/\Ax.look σ 9=some (.int .i64 i)/\∃c:Nat,c<=i/\Ax.look σ 8=some (.int .i64 c)/\decide (0 < c)=uD 2 (l.take i)/\uD 0 (l.take i)=false
def zDZ (l:List By)(F0:Fz)(M0:Hp)(i:Nat)(σ:Env)(F:Fz)(M:Hp):Prop:=
 F0=F/\M0=M/\Ax.look σ 10=some (.int .i64 i)/\(l.take i).all (fun x=>decide (x.n=0))=true
def zDK (big:Bool)(l:List By)(F0:Fz)(M0:Hp)(i:Nat)(σ:Env)(F:Fz)(M:Hp):Prop:=
 F0=F/\M0=M/\Ax.look σ 13=some (.int .i64 i)/\Ax.look σ 12=some (.int .i64 (qKX ((vY big l).take i)))
theorem k25 (big:Bool)(ptr k:Int)(a:Option Addr)(c:Nat)(l:List By)(hp:ptr=2\/ptr=4)(hold:Old F M)(h:dF 5 By.cs F M (.slice a l.length c) l)(hl:0 < l.length)(hb:∀x∈l,lQ x=true)(hk:k=7->(nZ ptr k).toNat=l.length) :
  aI prog 25 [.agg #[.bool big,.int .i64 ptr],.int .i64 k,.slice a l.length c] F M (Same F M (.tuple #[(yV big k l).1.val,.int .i64 (yV big k l).2])):=by
 refine qZ hm func25 e25 (aA rfl) ?_
 have hle:=h.1
 simp only [c25,go_sem]
 intro r3 hF3 dN
 simp only [go_sem]
 intro r6 vI oI
 simp only [qD] at oI
 have iZ:Keep M ((M.upd r3 ⟨[.bool big,.int .i64 ptr],39,2⟩).upd r6 ⟨[.bool false,.int .i64 0,.int .i64 0,.int .i64 0],90,4⟩):=(by repeat' first | exact Keep.refl _ | (refine Keep.new ?_ (by simp only [*])))
 have eG:Old F ((M.upd r3 ⟨[.bool big,.int .i64 ptr],39,2⟩).upd r6 ⟨[.bool false,.int .i64 0,.int .i64 0,.int .i64 0],90,4⟩):=(by repeat' first | assumption | (refine Old.upd ?_ (by assumption)))
 have f3:((M.upd r3 ⟨[.bool big,.int .i64 ptr],39,2⟩).upd r6 ⟨[.bool false,.int .i64 0,.int .i64 0,.int .i64 0],90,4⟩) r3=some ⟨[.bool big,.int .i64 ptr],39,2⟩:=by rw [Hp.qK oI.1.2]; exact Hp.qV _ _ _
 have f6:((M.upd r3 ⟨[.bool big,.int .i64 ptr],39,2⟩).upd r6 ⟨[.bool false,.int .i64 0,.int .i64 0,.int .i64 0],90,4⟩) r6=some ⟨[.bool false,.int .i64 0,.int .i64 0,.int .i64 0],90,4⟩:=Hp.qV _ _ _
 have n6:M r6=none:=oI.2
 generalize (M.upd r3 ⟨[.bool big,.int .i64 ptr],39,2⟩).upd r6 ⟨[.bool false,.int .i64 0,.int .i64 0,.int .i64 0],90,4⟩=M1 at *
 have h1:=h.keep iZ eG
 have b3:=qG (F:=F) f3
 have b6:=qG (F:=F) f6
 clear hF3 dN vI oI h
 obtain ⟨b,o,cs,rfl,hbk,rows⟩:=h1.rows hl
 have fin:∀s bad,yV big k l=(s,bad)->∀M3,Keep M1 M3->∀x,lK F (M3.upd r6 x) (Same F M (.tuple #[(yV big k l).1.val,.int .i64 (yV big k l).2])) (.tuple #[s.val,.int .i64 bad]):=fun s bad e M3 kp x=>qX ((iZ.trans kp).new n6) ⟨by rw [e],rfl,rfl⟩
 simp only [go_sem]
 refine wV l.length (dQW l F M1) ⟨rfl,rfl,(by simp only [go_sem, *] <;> rfl),0,aN _,(by simp only [go_sem, *] <;> rfl),by simp [uD],by simp [uD]⟩ ?_
 rintro i σ F' M' hi hst ⟨rfl,rfl,q9,n,hn,q8,e2,e0⟩
 have q1:=hst 1 rfl
 have q2:=hst 2 rfl
 have q3:=hst 3 rfl
 have q6:=hst 6 rfl
 simp only [go_sem] at q1 q2 q3 q6
 clear hst
 by_cases hil:(i:Int) < l.length
 ·have hi0:(0:Int)<=i:=by omega
  have hi1:i < l.length:=by omega
  have ei:i64.wrap ((i:Int)+1)=i+1:=dQ (by omega) (by omega)
  have en:i64.wrap ((n:Int)+1)=n+1:=dQ (by omega) (by omega)
  obtain ⟨g1,g2⟩:=rows i hi1
  have t2:=wKX (n:=2) hi1
  have t0:=wKX (n:=0) hi1
  have s0:=xKQ (n:=0) hi1
  clear rows
  generalize l[i]=x at *
  obtain ⟨g2,_⟩:=Go.Ax.By.row g2
  by_cases x0:x.st=0
  ·have hv:yV big k l=(⟨false,0,0,0⟩,7):=by unfold yV; rw [if_pos (s0 x0)]
   simp only [setH,go_sem,q2,q6,q9,hil,hi0,aB,aK,hbk,g2,x0,f6]
   exact fin _ _ hv M1 (Keep.refl _) _
  by_cases x2:x.st=2
  ·simp only [go_sem,q2,q8,q9,hil,hi0,aB,aK,hbk,g2,x2,ei,en]
   exact ⟨hi1,rfl,rfl,(by simp only [go_sem, *] <;> rfl),n+1,by omega,(by simp only [go_sem, *] <;> rfl),by rw [t2]; simp [x2],by rw [t0,e0]; simp [x0]⟩
  ·simp only [go_sem,q2,q9,hil,hi0,aB,aK,hbk,g2,x0,x2,ei]
   exact ⟨hi1,rfl,rfl,(by simp only [go_sem, *] <;> rfl),n,by omega,(by simp only [go_sem, *] <;> rfl),by rw [t2,e2]; simp [x2],by rw [t0,e0]; simp [x0]⟩
 rw [aJ (by omega)] at e2 e0
 by_cases h7:k=7
 ·have hv:yV big k l=((jZ l).1,(jZ l).2):=by unfold yV; rw [if_neg (by simp [e0]),if_pos h7]
  by_cases hn0:n=0
  ·have e2':uD 2 l=false:=by rw [<-e2]; simp [hn0]
   have yKG:(n:Int)=0:=by omega
   rw [jGB hb e0 e2' hl] at hv
   simp only [go_sem,q1,q2,q8,q9,hil,h7,yKG]
   clear q9 q8 e2 e0 hil
   refine wV l.length (zDZ l F M1) ⟨rfl,rfl,(by simp only [go_sem, *] <;> rfl),rfl⟩ ?_
   rintro i σ F' M' hi hst ⟨rfl,rfl,q10,ha⟩
   have p1:=hst 1 rfl
   have p2:=hst 2 rfl
   have p3:=hst 3 rfl
   have p6:=hst 6 rfl
   simp only [go_sem,q1,q2,q3,q6] at p1 p2 p3 p6
   clear hst
   by_cases hil:(i:Int) < l.length
   ·have hi0:(0:Int)<=i:=by omega
    have hi1:i < l.length:=by omega
    have ei:i64.wrap ((i:Int)+1)=i+1:=dQ (by omega) (by omega)
    obtain ⟨g1,g2⟩:=rows i hi1
    have t1:=aF hi1
    have hall:¬(l[i]).n=0->l.all (fun x=>decide (x.n=0))=false:=fun h=>by
     rw [dP]
     exact ⟨l[i],aH hi1,by simp [h]⟩
    clear rows
    generalize l[i]=x at *
    obtain ⟨_,g2,_⟩:=Go.Ax.By.row g2
    by_cases x0:x.n=0
    ·simp only [go_sem,p2,q10,hil,hi0,aB,hbk,g2,x0,ei]
     exact ⟨hi1,rfl,rfl,(by simp only [go_sem, *] <;> rfl),by rw [t1,List.all_append,ha]; simp [x0]⟩
    ·rw [hall x0,if_neg bK] at hv
     simp only [setH,go_sem,p2,p6,q10,hil,hi0,aB,hbk,g2,x0,f6]
     rw [h7] at hv fin
     exact fin _ _ hv M1 (Keep.refl _) _
   ·rw [aJ (by omega)] at ha
    rw [ha,if_pos rfl] at hv
    simp only [setH,go_sem,p2,p6,q10,hil,f6]
    rw [h7] at hv fin
    exact fin _ _ hv M1 (Keep.refl _) _
  ·have e2':uD 2 l=true:=by rw [<-e2]; simp; omega
   have yKG:¬(n:Int)=0:=by omega
   rw [jGC hb e2' hl] at hv
   obtain ⟨g1,g2⟩:=rows 0 hl
   have hx0:jW l 0=l[0]:=by unfold jW; rw [List.getElem?_eq_getElem hl]; rfl
   rw [hx0] at hv
   have hz0:(0:Int) < l.length:=by omega
   generalize l[0]=x at *
   obtain ⟨g2,_,g3,g4,_⟩:=Go.Ax.By.row g2
   rw [dX,aK] at g1 g2 g3 g4
   simp only [go_sem,q1,q2,q8,q9,hil,h7,yKG,hz0,Int.toNat_zero,dX,aK,hbk,g3,g4]
   intro r11 wQD vZ
   have m3:=qJ vZ f3
   have m6:=qJ vZ f6
   have zDJ:=jT hbk wQD vZ
   have qXD:∀e,Keep M1 (M1.upd r11 e):=fun e=>(Keep.refl M1).new vZ
   have qWB:∀e,Old F (M1.upd r11 e):=fun e=>eG.upd wQD
   by_cases x2:x.st=2
   ·simp only [setH,Hp.wZ,go_sem,q1,q2,q3,m3,zDJ,hz0,Int.toNat_zero,dX,aK,hbk,g2,x2,b3]
    have ko:=k58 F (M1.upd r11 ⟨(Sc.mk true 0 x.b x.o).cs,90,4⟩) big ptr k ⟨true,0,x.b,x.o⟩ hp (qWB _)
    rw [hk h7,jGA] at ko
    with_reducible refine wW ko ?_
    intro u F' M3 hu
    obtain ⟨rfl,le3,wYH,o3,a3,c3,rfl,hk3⟩:=hu.le By.len (by rw [wQH]; exact hle)
    have dQX:=hk3
    rw [wQH] at dQX
    refine ⟨fun _=>le3,?_⟩
    have h3':=h1.keep ((qXD _).trans wYH) (o3 (qWB _))
    have heq:=k57 F' M3 a3 (some ⟨b,o,none⟩) c3 c (yT x.b x.o l.length) l hk3 h3'
    have f11:=wYH _ _ (Hp.qV M1 r11 ⟨(Sc.mk true 0 x.b x.o).cs,90,4⟩)
    have f6':=wYH _ _ ((qXD ⟨(Sc.mk true 0 x.b x.o).cs,90,4⟩) _ _ f6)
    have b6':=qG (F:=F') f6'
    have b11:=qG (F:=F') f11
    simp only [go_sem,q2]
    with_reducible refine qQ heq ?_
    by_cases he:yT x.b x.o l.length=l
    ·rw [if_pos ⟨x2,he⟩] at hv
     rw [h7] at hv fin
     simp only [setH,go_sem,q6,he,f6',b11]
     exact fin _ _ hv M3 ((qXD _).trans wYH) _
    ·rw [if_neg (fun h=>he h.2)] at hv
     rw [h7] at hv fin
     simp only [setH,go_sem,q6,he,f6']
     exact fin _ _ hv M3 ((qXD _).trans wYH) _
   ·simp only [setH,Hp.wZ,go_sem,q2,q6,m6,zDJ,hz0,Int.toNat_zero,dX,aK,hbk,g2,x2,f6]
    rw [if_neg (fun h=>x2 h.1)] at hv
    rw [h7] at hv fin
    exact fin _ _ hv _ (qXD _) _
 by_cases hn0:n=0
 rotate_left
 ·have e2':uD 2 l=true:=by rw [<-e2]; simp; omega
  have yKG:(0:Int) < n:=by omega
  have hv:yV big k l=(⟨false,0,0,0⟩,8):=by unfold yV; rw [if_neg (by simp [e0]),if_neg h7,if_pos e2']
  simp only [setH,go_sem,q1,q2,q6,q8,q9,hil,h7,yKG,f6]
  exact fin _ _ hv M1 (Keep.refl _) _
 have e2':uD 2 l=false:=by rw [<-e2]; simp [hn0]
 have yKG:¬(0:Int) < n:=by omega
 have hv:yV big k l=(⟨false,qKX (vY big l),0,0⟩,0):=by unfold yV; rw [if_neg (by simp [e0]),if_neg h7,if_neg (by simp [e2'])]
 simp only [go_sem,q1,q2,q8,q9,hil,h7,yKG]
 clear q9 q8 e2 e0 hil
 refine wV l.length (zDK big l F M1) ⟨rfl,rfl,(by simp only [go_sem, *] <;> rfl),by simp only [go_sem]; rfl⟩ ?_
 rintro i σ F' M' hi hst ⟨rfl,rfl,q13,q12⟩
 have p1:=hst 1 rfl
 have p2:=hst 2 rfl
 have p3:=hst 3 rfl
 have p6:=hst 6 rfl
 simp only [go_sem,q1,q2,q3,q6] at p1 p2 p3 p6
 clear hst
 by_cases hil:(i:Int) < l.length
 rotate_left
 ·rw [aJ (by rw [xU]; omega)] at q12
  simp only [setH,go_sem,p2,p6,q12,q13,hil,f6,Sc.fold]
  exact fin _ _ hv M1 (Keep.refl _) _
 have hi0:(0:Int)<=i:=by omega
 have hi1:i < l.length:=by omega
 have ei:i64.wrap ((i:Int)+1)=i+1:=dQ (by omega) (by omega)
 have ew1:i64.wrap ((l.length:Int) - 1)=l.length - 1:=dQ (by omega) (by omega)
 have ew2:i64.wrap ((l.length:Int) - 1 - i)=((l.length - 1 - i:Nat):Int):=by rw [dQ (by omega) (by omega)]; omega
 have hj:l.length - 1 - i < l.length:=by omega
 have hj0:(0:Int)<=((l.length - 1 - i:Nat):Int):=by omega
 have hjl:((l.length - 1 - i:Nat):Int) < l.length:=by omega
 obtain ⟨d1,d2⟩:=rows i hi1
 obtain ⟨d3,d4⟩:=rows (l.length - 1 - i) hj
 obtain ⟨_,d2,_⟩:=Go.Ax.By.row d2
 obtain ⟨_,d4,_⟩:=Go.Ax.By.row d4
 have hsucc:=wKW (l:=vY big l) (i:=i) (by rw [xU]; exact hi1)
 have hsel:((vY big l)[i]'(by rw [xU]; exact hi1))=if big=true then l[i] else l[l.length - 1 - i]:=by
  cases big
  ·simp [vY,List.getElem_reverse]
  ·simp [vY]
 rw [hsel] at hsucc
 clear hsel rows
 generalize l[i]=x at *
 generalize l[l.length - 1 - i]=y at *
 cases big
 ·simp only [go_sem,p2,p3,q12,q13,hil,b3,ew1,ew2,hj0,hjl,aB,hbk,d4,ei]
  exact ⟨hi1,rfl,rfl,(by simp only [go_sem, *] <;> rfl),by simp only [go_sem]; rw [hsucc]; rfl⟩
 ·simp only [go_sem,p2,p3,q12,q13,hil,b3,ew1,ew2,hi0,aB,hbk,d2,ei]
  exact ⟨hi1,rfl,rfl,(by simp only [go_sem, *] <;> rfl),by simp only [go_sem]; rw [hsucc]; rfl⟩
end Go.Proofs.Tryz.K
namespace Go.Ax
open Go
theorem dF.cut {α:Type}{sz:Nat}{f:α->List Value}{F:Fz}{M:Hp}{a:Option Addr}{c:Nat}{l:List α}(h:dF sz f F M (.slice a l.length c) l){lo n:Nat}(h2:lo+n<=l.length) :
  dF sz f F M (.slice (if (c:Int)=lo then a else a.map (·.add (lo * sz))) ((l.drop lo).take n).length (c - lo)) ((l.drop lo).take n):=by
 have hlen:((l.drop lo).take n).length=n:=by simp; omega
 obtain ⟨h1,ad,cap,hc,e,h⟩:=h;cases e;refine ⟨by omega,_,_,by omega,rfl,?_⟩;by_cases hn:n=0
 ·left; subst hn; simp
 right;rcases h with h | ⟨b,o,cs,rfl,hb,rows⟩
 ·rw [h] at h2; simp at h2; omega
 rw [if_neg (by omega)];refine ⟨b,o+lo * sz,cs,?_,hb,?_⟩
 ·simp only [cZ,Addr.add];split
  ·rename_i h0; rw [h0]; rfl
  ·rfl
 intro i hi;have hi':lo+i < l.length:=by omega
 have:=rows (lo+i) hi';rw [Nat.add_mul,<-Nat.add_assoc] at this;rw [List.getElem_take,List.getElem_drop];exact this
theorem qKK {α:Type}{l:List α}{lo n:Nat}(h2:lo+n<=l.length):((l.drop lo).take n).length=n:=by simp; omega
def qXY (big:Bool)(c:Pc)(l:List By):Bool:=
 if c.k=0 then decide ((jW l 0).st=0) else if c.k=11 then decide ((jW l 0).st=2) && (c.v.has (jW l 0).i && oO c.l (jW l 0).b (jW l 0).o)
 else decide ((yV big c.k l).2=0) && hasB c.k c.v c.l (yV big c.k l).1
def jD (m:List Bl)(b:Int):Bl:=(m[b.toNat]?).getD ⟨0,none,0,[]⟩
def zDG (ptr:Int)(m:List Bl)(c:Pc):List By:=((jD m c.b).l.drop c.p.toNat).take (yJ ptr c.k).toNat
def nT (p:Pg)(m:List Bl)(c:Pc):Bool:=!decide ((jD m c.b).st=1) || qXY p.big c (zDG p.ptr m c)
def qWX (p:Pg)(m:List Bl)(news:List Int)(i:Nat):Bool:=!decide (band .i64 (sW .i64 ((news[i]?).getD 0) (jD m (p.vars.length+1+i)).st) 1=0)
def oC (p:Pg)(e:Pe)(m:List Bl):Bool:=!e.no && (e.cells.all (nT p m) && (List.range e.news.length).all (qWX p m e.news))
theorem wYD {l:List By}(h:0 < l.length):jW l 0∈l:=by
 unfold jW; rw [List.getElem?_eq_getElem h]; exact aH h
theorem yVY {x:By}(h:lQ x=true):x.o<=32:=by
 unfold lQ at h;split at h
 ·have:=of_decide_eq_true h;rw [this]; decide
 split at h
 ·simp only [aC,decide_eq_true_eq] at h; omega
 split at h
 ·simp only [aC,decide_eq_true_eq] at h; omega
 ·cases h
theorem jVQ {big:Bool}{k:Int}{l:List By}(hb:∀x∈l,lQ x=true)(hl:0 < l.length):(yV big k l).1.o<=32:=by
 have:=yVY (hb _ (wYD hl));unfold yV;split
 ·decide
 split
 ·unfold jZ;split
  ·exact this
  ·decide
 split
 ·decide
 ·show (0:Int)<=32; decide
end Go.Ax
namespace Go.Proofs.Tryz.K
open Go Go.Ax Go.Proofs.Tryz.S
variable (F:Fz) (M:Hp)
theorem zDV {big:Bool}{c:Pc}{l:List By}(h:c.k=0):qXY big c l=decide ((jW l 0).st=0):=by unfold qXY; rw [if_pos h]
theorem xHW {big:Bool}{c:Pc}{l:List By}(h:c.k=11):qXY big c l=(decide ((jW l 0).st=2) && (c.v.has (jW l 0).i && oO c.l (jW l 0).b (jW l 0).o)):=by unfold qXY; rw [if_neg (by omega),if_pos h]
theorem zDH {big:Bool}{c:Pc}{l:List By}(h0:¬c.k=0)(h:¬c.k=11):qXY big c l=(decide ((yV big c.k l).2=0) && hasB c.k c.v c.l (yV big c.k l).1):=by unfold qXY; rw [if_neg h0,if_neg h]
theorem dQZ (big:Bool)(ptr:Int)(c:Cl)(a:Option Addr)(cap:Nat)(l:List By)(hold:Old F M)(h:c.rd F M)(hl:dF 5 By.cs F M (.slice a l.length cap) l)(hpos:0 < l.length)(hb:∀x∈l,lQ x=true) :
  aI prog 114 [.agg #[.bool big,.int .i64 ptr],c.val,.slice a l.length cap] F M (Same F M (.bool (qXY big c.pc l))):=by
 refine qZ hm func114 kXZ (aA rfl) ?_
 simp only [vYE,go_sem]
 intro r3 hF3 dN
 simp only [go_sem]
 intro r4 mW jP
 simp only [qD] at jP
 have jA:Keep M ((M.upd r3 ⟨[.bool big,.int .i64 ptr],39,2⟩).upd r4 ⟨c.cs,100,10⟩):=(by repeat' first | exact Keep.refl _ | (refine Keep.new ?_ (by simp only [*])))
 have fP:Old F ((M.upd r3 ⟨[.bool big,.int .i64 ptr],39,2⟩).upd r4 ⟨c.cs,100,10⟩):=(by repeat' first | assumption | (refine Old.upd ?_ (by assumption)))
 have f3:((M.upd r3 ⟨[.bool big,.int .i64 ptr],39,2⟩).upd r4 ⟨c.cs,100,10⟩) r3=some ⟨[.bool big,.int .i64 ptr],39,2⟩:=by rw [Hp.qK jP.1.2]; exact Hp.qV _ _ _
 have f4:((M.upd r3 ⟨[.bool big,.int .i64 ptr],39,2⟩).upd r4 ⟨c.cs,100,10⟩) r4=some ⟨c.cs,100,10⟩:=Hp.qV _ _ _
 generalize (M.upd r3 ⟨[.bool big,.int .i64 ptr],39,2⟩).upd r4 ⟨c.cs,100,10⟩=M1 at *
 have h1:c.rd F M1:=dF.keep h jA fP
 have hl1:=hl.keep jA fP
 have b3:=qG (F:=F) f3
 have b4:=qG (F:=F) f4
 clear h hl f3 f4 hF3 dN mW jP
 obtain ⟨b,o,cs,rfl,hbk,rows⟩:=hl1.rows hpos
 obtain ⟨g1,g2⟩:=rows 0 hpos
 have hx0:jW l 0=l[0]:=by unfold jW; rw [List.getElem?_eq_getElem hpos]; rfl
 have ho:=yVY (hb _ (wYD hpos))
 obtain ⟨g2,_,g3,g4,g5⟩:=Go.Ax.By.row g2
 rw [dX,aK] at g1 g2 g3 g4 g5
 rw [<-hx0] at g2 g3 g4 g5
 have hro:=jVQ (big:=big) (k:=c.k) hb hpos
 have hz0:(0:Int) < l.length:=by omega
 have fin:∀v:Bool,qXY big c.pc l=v->∀M3,Keep M1 M3->lK F M3 (Same F M (.bool (qXY big c.pc l))) (.bool v):=fun v e M3 kp=>qX (jA.trans kp) ⟨by rw [e],rfl,rfl⟩
 clear rows hx0
 by_cases h0:c.k=0
 ·have hv:=zDV (big:=big) (c:=c.pc) (l:=l) h0
  simp only [go_sem,b4,h0,hz0,Int.toNat_zero,dX,aK,hbk,g2]
  exact fin _ hv _ (Keep.refl _)
 by_cases h11:c.k=11
 ·have hv:=xHW (big:=big) (c:=c.pc) (l:=l) h11
  by_cases x2:(jW l 0).st=2
  rotate_left
  ·simp only [go_sem,b4,h11,hz0,Int.toNat_zero,dX,aK,hbk,g2,x2]
   exact fin _ (by rw [hv,decide_eq_false x2]; rfl) _ (Keep.refl _)
  simp only [go_sem,b4,h11,hz0,Int.toNat_zero,dX,aK,hbk,g2,g5,x2]
  with_reducible refine qQ (vWZ F M1 c.v (jW l 0).i) ?_
  cases e1:c.v.has (jW l 0).i
  ·simp only [go_sem]
   exact fin _ (by rw [hv]; show (_ && (c.v.has (jW l 0).i && _))=false; rw [e1]; simp) _ (Keep.refl _)
  simp only [go_sem,b4,hz0,Int.toNat_zero,dX,aK,hbk,g3,g4]
  with_reducible refine qQ (zGQ F M1 (.slice c.lA c.l.length c.lC) c.l (jW l 0).b (jW l 0).o (by unfold Cl.rd at h1; exact h1)) ?_
  simp only [go_sem]
  exact fin _ (by rw [hv,decide_eq_true x2,decide_eq_true ho]; show (_ && (c.v.has (jW l 0).i && _))=_; rw [e1]; rfl) _ (Keep.refl _)
 have hv:qXY big c.pc l=(decide ((yV big c.k l).2=0) && hasB c.k c.v c.l (yV big c.k l).1):=zDH (big:=big) (c:=c.pc) (l:=l) h0 h11
 simp only [go_sem,b3,b4,h0,h11]
 with_reducible refine qQ (zDQ F M1 big ptr c.k _ _ l fP hl1 hpos) ?_
 generalize yV big c.k l=rv at *
 obtain ⟨s,bad⟩:=rv
 simp only [go_sem]
 intro r7 wU qB
 have m4:=iG (F:=F) (M:=M1) (e:=⟨[.bool false,.int .i64 0,.int .i64 0,.int .i64 0],90,4⟩) (jT b4 wU qB)
 have h7:c.rd F (M1.upd r7 ⟨s.cs,90,4⟩):=dF.new h1 wU qB
 have n4:=jT b4 wU qB
 by_cases hbad:bad=0
 rotate_left
 ·simp only [setH,Hp.wZ,go_sem,hbad]
  exact fin _ (by rw [hv]; show (decide (bad=0) && _)=false; rw [decide_eq_false hbad]; rfl) _ (by repeat' first | exact Keep.refl _ | (refine Keep.new ?_ (by simp only [*])))
 simp only [setH,Hp.wZ,go_sem,b4,n4,hbad,iG]
 with_reducible refine qQ (kVH F _ c.k c.v (.slice c.lA c.l.length c.lC) c.l s (by unfold Cl.rd at h7; exact h7)) ?_
 simp only [go_sem]
 refine fin _ ?_ _ (by repeat' first | exact Keep.refl _ | (refine Keep.new ?_ (by simp only [*])))
 rw [hv]
 show (decide (bad=0) && hasB c.k c.v c.l s)=holdsB c.k c.v c.l s
 rw [decide_eq_true hbad]
 unfold hasB holdsB
 split
 ·rw [decide_eq_true hro]
 ·rfl
theorem jVW {l:List By}{q n:Nat}(h:q < l.length)(hn:0 < n):jW ((l.drop q).take n) 0=l[q]:=by
 unfold jW;rw [List.getElem?_take_of_lt hn,List.getElem?_drop,aK,List.getElem?_eq_getElem h]; rfl
theorem k81 (p:Pg)(ma:Option Addr)(mc:Nat)(m:List Bl)(c:Cl)(hold:Old F M)(hp:p.ptr=2\/p.ptr=4)(h:c.rd F M)(hmem:dF 2 Bl.cs F M (.slice ma m.length mc) m)(hbl:∀x∈m,x.rd F M)
  (hbi:0<=c.b/\c.b < m.length)(hin:(jD m c.b).st=1->0<=c.p/\c.p+yJ p.ptr c.k<=(jD m c.b).l.length)(hby:∀x∈(jD m c.b).l,lQ x=true)(hk:c.k=0\/c.k=11\/isS c.k=true) :
  aI prog 81 [p.val,.slice ma m.length mc,c.val] F M (Same F M (.bool (nT p m c.pc))):=by
 refine qZ hm func81 e81 (aA rfl) ?_
 simp only [c81,go_sem]
 intro r3 hF3 dN
 simp only [go_sem]
 intro r5 lM gU
 simp only [qD] at gU
 have eH:Keep M ((M.upd r3 ⟨p.cs,43,7⟩).upd r5 ⟨c.cs,100,10⟩):=(by repeat' first | exact Keep.refl _ | (refine Keep.new ?_ (by simp only [*])))
 have dB:Old F ((M.upd r3 ⟨p.cs,43,7⟩).upd r5 ⟨c.cs,100,10⟩):=(by repeat' first | assumption | (refine Old.upd ?_ (by assumption)))
 have f3:((M.upd r3 ⟨p.cs,43,7⟩).upd r5 ⟨c.cs,100,10⟩) r3=some ⟨p.cs,43,7⟩:=by rw [Hp.qK gU.1.2]; exact Hp.qV _ _ _
 have f5:((M.upd r3 ⟨p.cs,43,7⟩).upd r5 ⟨c.cs,100,10⟩) r5=some ⟨c.cs,100,10⟩:=Hp.qV _ _ _
 generalize (M.upd r3 ⟨p.cs,43,7⟩).upd r5 ⟨c.cs,100,10⟩=M1 at *
 have h1:c.rd F M1:=dF.keep h eH dB
 have hm1:=hmem.keep eH dB
 have b3:=qG (F:=F) f3
 have b5:=qG (F:=F) f5
 have fin:∀v:Bool,nT p m c.pc=v->∀M3,Keep M1 M3->lK F M3 (Same F M (.bool (nT p m c.pc))) (.bool v):=fun v e M3 kp=>qX (eH.trans kp) ⟨by rw [e],rfl,rfl⟩
 obtain ⟨i,hi⟩:=aG hbi.1
 have hil:i < m.length:=by omega
 have hi0:(0:Int)<=i:=by omega
 have eU:(i:Int) < m.length:=by omega
 obtain ⟨b,o,cs,rfl,hb,rows⟩:=hm1.rows (by omega)
 obtain ⟨d1,d2⟩:=rows i hil
 obtain ⟨d2,d3⟩:=Go.Ax.Bl.row d2
 have hat:jD m c.b=m[i]:=by unfold jD; rw [hi,aB,List.getElem?_eq_getElem hil]; rfl
 have hx1:m[i].rd F M1:=dF.keep (hbl _ (aH hil)) eH dB
 have hR:nT p m c.pc=(!decide ((m[i]).st=1) || qXY p.big c.pc (((m[i]).l.drop c.p.toNat).take (yJ p.ptr c.k).toNat)):=by
  rw [<-hat]; rfl
 rw [hat] at hin hby
 clear hat rows hbl hmem hm1 h hold f3 f5 dN hF3 lM gU hbi
 generalize nT p m c.pc=R at *
 generalize m[i]=x at *
 by_cases hst:x.st=1
 rotate_left
 ·simp only [go_sem,b5,hi,hi0,eU,aB,aK,hb,d2,hst]
  exact fin _ (by rw [hR,decide_eq_false hst]; rfl) _ (Keep.refl _)
 obtain ⟨n1,n4⟩:=gV hp hk
 have hs7:c.k=7->(nZ p.ptr c.k).toNat=(yJ p.ptr c.k).toNat:=fun h7=>by
  unfold nZ yJ; rw [h7]; rfl
 obtain ⟨n,hn⟩:=aG (by omega:0<=yJ p.ptr c.k)
 obtain ⟨hp0,hpl⟩:=hin hst
 obtain ⟨q,hq⟩:=aG hp0
 rw [hn] at hpl n1 n4
 rw [hq] at hpl
 have hn1:0 < n:=by omega
 have hql:q < x.l.length:=by omega
 have hq0:(0:Int)<=q:=by omega
 have dQK:(q:Int) < x.l.length:=by omega
 have hxl:=hx1.1
 rw [hst,hq,hn,aB,aB] at hR
 have hcl:=qKK (l:=x.l) (lo:=q) (n:=n) (by omega)
 have hcut:=dF.cut hx1 (lo:=q) (n:=n) (by omega)
 have hb0:=jVW (n:=n) hql hn1
 obtain ⟨b',o',cs',ea,hb',rows⟩:=hx1.rows (by omega)
 obtain ⟨g1,g2⟩:=rows q hql
 generalize x.l[q]=y at *
 simp only [go_sem,b5,hi,hi0,eU,aB,aK,hb,d2,d3,hst,hq,hq0,dQK,ea,hb',g1,g2]
 intro r7 wU qB
 have n3:=jT b3 wU qB
 have n5:=jT b5 wU qB
 have nb:=jT hb wU qB
 have nb':=jT hb' wU qB
 have iO:∀e,Old F (M1.upd r7 e):=fun e=>dB.upd wU
 have lY:∀e,Keep M1 (M1.upd r7 e):=fun e=>(Keep.refl M1).new qB
 have hc7:∀e,c.rd F (M1.upd r7 e):=fun e=>dF.new h1 wU qB
 by_cases h0:c.k=0
 ·have hv:=zDV (big:=p.big) (c:=c.pc) (l:=(x.l.drop q).take n) h0
  rw [hb0] at hv
  simp only [setH,Hp.wZ,go_sem,b5,n5,h0]
  exact fin _ (by rw [hR,hv]; rfl) _ (lY _)
 by_cases h11:c.k=11
 ·have hv:=xHW (big:=p.big) (c:=c.pc) (l:=(x.l.drop q).take n) h11
  rw [hb0] at hv
  by_cases x2:y.st=2
  rotate_left
  ·simp only [setH,Hp.wZ,go_sem,b5,n5,h11,x2]
   exact fin _ (by rw [hR,hv,decide_eq_false x2]; rfl) _ (lY _)
  simp only [setH,Hp.wZ,go_sem,b5,n5,h11,x2]
  with_reducible refine qQ (vWX F _ c.v y.i) ?_
  cases e1:c.v.has y.i
  ·simp only [go_sem]
   exact fin _ (by rw [hR,hv]; show (_ || (_ && (c.v.has y.i && _)))=false; rw [e1]; simp) _ (lY _)
  simp only [go_sem,b5,n5]
  have hcc:=hc7 ⟨y.cs,88,5⟩
  with_reducible refine qQ (zJA F _ (.slice c.lA c.l.length c.lC) c.l y.b y.o (by unfold Cl.rd at hcc; exact hcc)) ?_
  simp only [go_sem]
  exact fin _ (by rw [hR,hv,decide_eq_true x2]; show (_ || (_ && (c.v.has y.i && _)))=_; rw [e1]; rfl) _ (lY _)
 have hv:qXY p.big c.pc ((x.l.drop q).take n)=(decide ((yV p.big c.k ((x.l.drop q).take n)).2=0) && hasB c.k c.v c.l (yV p.big c.k ((x.l.drop q).take n)).1):=zDH (big:=p.big) (c:=c.pc) (l:=(x.l.drop q).take n) h0 h11
 have hks:isS c.k=true:=by
  rcases hk with h | h | h
  ·exact absurd h h0
  ·exact absurd h h11
  ·exact h
 have hle:=hx1.1
 have ew:i64.wrap ((q:Int)+n)=((q+n:Nat):Int):=by rw [dQ (by omega) (by omega)]; omega
 have e1:(0:Int)<=((q+n:Nat):Int):=by omega
 have e2:(q:Int)<=((q+n:Nat):Int):=by omega
 have e3:((q+n:Nat):Int)<=x.l.length:=by omega
 have e4:x.l.length<=x.lC:=by
  obtain ⟨_,ad,cap,hc,e,_⟩:=hx1
  cases e; exact hc
 have e4':(x.l.length:Int)<=x.lC:=by omega
 have e5:q+n - q=n:=by omega
 simp only [setH,Hp.wZ,go_sem,b3,n3,b5,n5,nb,h0,h11,hi,hi0,eU,aB,hb,d3,hq]
 with_reducible refine qQ (zHY F _ p c.k) ?_
 simp only [go_sem,hn,ew,e2,e3,e4,e5,aB,hq0]
 have jVX:∀z∈(x.l.drop q).take n,lQ z=true:=fun z hz=>hby z (List.mem_of_mem_drop (List.mem_of_mem_take hz))
 have zDD:=dF.new (e:=⟨y.cs,88,5⟩) hcut wU qB
 have kG:=k25 F _ p.big p.ptr c.k _ _ ((x.l.drop q).take n) hp (iO _) zDD (by rw [hcl]; exact hn1) jVX (fun h=>by rw [hcl,hs7 h,hn]; rfl)
 rw [hcl] at kG
 with_reducible refine qQ kG ?_
 have hro:=jVQ (big:=p.big) (k:=c.k) jVX (by rw [hcl]; exact hn1)
 clear kG zDD hcut jVX hby
 generalize yV p.big c.k ((x.l.drop q).take n)=rv at *
 obtain ⟨s,bad⟩:=rv
 have b5':=iG (F:=F) (M:=M1) (e:=⟨y.cs,88,5⟩) n5
 rw [b5] at b5'
 have hc7:=hc7 ⟨y.cs,88,5⟩
 have lY:=lY ⟨y.cs,88,5⟩
 have iO:=iO ⟨y.cs,88,5⟩
 generalize M1.upd r7 ⟨y.cs,88,5⟩=M2 at *
 simp only [go_sem]
 intro r8 hF8 rQ
 have n5:=jT b5' hF8 rQ
 have hc8:c.rd F (M2.upd r8 ⟨s.cs,90,4⟩):=dF.new hc7 hF8 rQ
 by_cases hbad:bad=0
 rotate_left
 ·simp only [setH,Hp.wZ,go_sem,hbad]
  exact fin _ (by rw [hR,hv]; show (_ || (decide (bad=0) && _))=false; rw [decide_eq_false hbad]; rfl) _ (lY.trans (by repeat' first | exact Keep.refl _ | (refine Keep.new ?_ (by simp only [*]))))
 simp only [setH,Hp.wZ,go_sem,hbad,b5',n5]
 with_reducible refine qQ (kVK F _ c.k c.v (.slice c.lA c.l.length c.lC) c.l s (by unfold Cl.rd at hc8; exact hc8)) ?_
 simp only [go_sem]
 refine fin _ ?_ _ (lY.trans (by repeat' first | exact Keep.refl _ | (refine Keep.new ?_ (by simp only [*]))))
 rw [hR,hv]
 show (_ || (decide (bad=0) && hasB c.k c.v c.l s))=hasB c.k c.v c.l s
 rw [decide_eq_true hbad]; rfl
end Go.Proofs.Tryz.K
namespace Go.Ax
open Go
structure iP (p:Pg)(m:List Bl):Prop where
 len:m.length=1+p.vars.length+p.news.length
 bytes:∀i (h:i < m.length),(∀x∈(m[i]).l,lQ x=true)/\0<=(m[i]).st/\(m[i]).st<=3/\(m[i]).l.length<=32
 size:∀i (h:i < m.length),(m[i]).st=1->((m[i]).l.length:Int)=nP (yK p) i
 dead:∀i (h:i < m.length),¬(m[i]).st=1->(m[i]).l=[]
 zero:∀h:0 < m.length,(m[0]).st=0
 ptrs:∀i (h:i < m.length),(m[i]).l.all (zL (yK p))=true
 live:∀i (h:i < m.length),1<=i->i<=p.vars.length->(m[i]).st=1
structure jQH (p:Pg)(m:List Bl)(c:Pc):Prop where
 block:1<=c.b/\c.b < m.length
 inside:(jD m c.b).st=1->0<=c.p/\c.p+yJ p.ptr c.k<=(jD m c.b).l.length
 kind:c.k=0\/c.k=11\/isS c.k=true
 content:jY c=true
theorem yY {m:List Bl}{i:Nat}(h:i < m.length):jD m (i:Int)=m[i]:=by
 unfold jD; rw [aB,List.getElem?_eq_getElem h]; rfl
theorem jQH.of {p:Pg}{m:List Bl}{c:Pc}(hm:iP p m)(h:pI p.ptr (yK p) c=true):jQH p m c:=by
 have hl:=jI p;have hl2:=hm.len;simp only [pI,aC,decide_eq_true_eq] at h;obtain ⟨⟨⟨⟨⟨h1,h2⟩,h3⟩,h4⟩,h5⟩,h6⟩:=h;refine ⟨by omega,fun hs=>⟨h3,?_⟩,yS h1,h1⟩;obtain ⟨i,hi⟩:=aG (by omega:0<=c.b);have hil:i < m.length:=by omega
 rw [hi] at hs h6 ⊢;rw [yY hil] at hs ⊢;have:=hm.size i hil hs;omega
theorem yKV {p:Pg}{e:Pe}(h:pJ p e=true)(hn:e.no=false):(∀c∈e.cells,pI p.ptr (yK p) c=true)/\e.news.length=p.news.length/\e.news.all inB=true/\e.cells.length<=200:=by
 unfold pJ at h;rw [if_neg (by rw [hn]; exact bK)] at h;simp only [aC,decide_eq_true_eq] at h;obtain ⟨⟨⟨h1,h2⟩,h3⟩,h4⟩:=h;refine ⟨fun c hc=>?_,h2,h3,h1⟩;obtain ⟨i,hi,e1⟩:=bZ hc;unfold rD at h4;rw [bW] at h4;have:=h4 i (List.mem_range.2 hi);rw [wQJ (List.getElem?_eq_getElem hi),e1,aC] at this;exact this.1
end Go.Ax
namespace Go.Proofs.Tryz.K
open Go Go.Ax Go.Proofs.Tryz.S
variable (F:Fz) (M:Hp)
def zDY (p:Pg)(e:En)(m:List Bl)(F0:Fz)(M0:Hp)(i:Nat)(σ:Env)(F:Fz)(M:Hp):Prop:=
 F0=F/\Keep M0 M/\Old F0 M/\Ax.look σ 17=some (.int .i64 i)/\(e.pe.cells.take i).all (nT p m)=true
def dQJ (p:Pg)(e:En)(m:List Bl)(F0:Fz)(M0:Hp)(i:Nat)(σ:Env)(F:Fz)(M:Hp):Prop:=
 F0=F/\M0=M/\Ax.look σ 54=some (.int .i64 i)/\(List.range i).all (qWX p m e.news)=true
def dQG (p:Pg)(e:En)(m:List Bl)(F0:Fz)(M0:Hp)(i:Nat)(σ:Env)(F:Fz)(M:Hp):Prop:=
 F0=F/\Keep M0 M/\Old F0 M/\Ax.look σ 7=some (.int .i64 i)/\(e.pe.cells.take i).all (nT p m)=true
def dQV (p:Pg)(e:En)(m:List Bl)(F0:Fz)(M0:Hp)(i:Nat)(σ:Env)(F:Fz)(M:Hp):Prop:=
 F0=F/\M0=M/\Ax.look σ 8=some (.int .i64 i)/\(List.range i).all (qWX p m e.news)=true
theorem yVA {p:Pg}{m:List Bl}{news:List Int}{i j:Nat}(hi:i < news.length)(hj:j < m.length)(e:j=p.vars.length+1+i):qWX p m news i = !decide (band .i64 (sW .i64 news[i] (m[j]).st) 1=0):=by
 unfold qWX;rw [List.getElem?_eq_getElem hi];have:((p.vars.length:Int)+1+i)=((j:Nat):Int):=by omega
 rw [this,yY hj];rfl
theorem wKZ {n:Nat}{f:Nat->Bool}:(List.range (n+1)).all f=((List.range n).all f && f n):=by
 rw [List.range_succ,List.all_append]; simp
theorem wYY {n i:Nat}{f:Nat->Bool}(h:i < n)(hf:f i=false):(List.range n).all f=false:=by
 rw [dP]; exact ⟨i,List.mem_range.2 h,by simp [hf]⟩
theorem k77 (p:Pg)(e:En)(s:dM)(hp:p.rd F)(hold:Old F M)(h:e.rd F M)(hs:s.rd F M)(hc:wY p=true)(hfm:iP p s.blocks)(hfc:e.no=false->(∀c∈e.cells,jQH p s.blocks c.pc)/\e.news.length=p.news.length) :
  aI prog 77 [p.val,e.val,s.val] F M (Same F M (.bool (oC p e.pe s.blocks))):=by
 refine qZ hm func77 e77 (aA rfl) ?_;have hl1:=h.cells.1;have hl2:=h.news.1;have hl3:=hs.blocks.1;have hpre:=yH hc;have hlen:=hfm.len;simp only [c77,go_sem];intro r3 hF3 dN;simp only [go_sem];intro r4 mW jP;simp only [qD] at jP;simp only [go_sem];intro r5 lM gU;simp only [qD] at gU;have eH:Keep M (((M.upd r3 ⟨p.cs,43,7⟩).upd r4 ⟨e.cs,51,3⟩).upd r5 ⟨s.cs,57,5⟩):=(by repeat' first | exact Keep.refl _ | (refine Keep.new ?_ (by simp only [*])))
 have dB:Old F (((M.upd r3 ⟨p.cs,43,7⟩).upd r4 ⟨e.cs,51,3⟩).upd r5 ⟨s.cs,57,5⟩):=(by repeat' first | assumption | (refine Old.upd ?_ (by assumption)))
 have f3:(((M.upd r3 ⟨p.cs,43,7⟩).upd r4 ⟨e.cs,51,3⟩).upd r5 ⟨s.cs,57,5⟩) r3=some ⟨p.cs,43,7⟩:=by rw [Hp.qK (by simp [gU]),Hp.qK (by simp [jP])]; exact Hp.qV _ _ _
 have f4:(((M.upd r3 ⟨p.cs,43,7⟩).upd r4 ⟨e.cs,51,3⟩).upd r5 ⟨s.cs,57,5⟩) r4=some ⟨e.cs,51,3⟩:=by rw [Hp.qK (by simp [gU])]; exact Hp.qV _ _ _
 have f5:(((M.upd r3 ⟨p.cs,43,7⟩).upd r4 ⟨e.cs,51,3⟩).upd r5 ⟨s.cs,57,5⟩) r5=some ⟨s.cs,57,5⟩:=Hp.qV _ _ _;generalize (((M.upd r3 ⟨p.cs,43,7⟩).upd r4 ⟨e.cs,51,3⟩).upd r5 ⟨s.cs,57,5⟩)=M1 at *;have h1:=h.keep eH dB;have hs1:=hs.keep eH dB;have b3:=qG (F:=F) f3;have b4:=qG (F:=F) f4;have b5:=qG (F:=F) f5;clear dN jP gU hF3 mW lM h hs;have fin:∀v:Bool,oC p e.pe s.blocks=v->∀M',Keep M1 M'->lK F M' (Same F M (.bool (oC p e.pe s.blocks))) (.bool v):=fun v h M' k=>qX (eH.trans k) ⟨by rw [h],rfl,rfl⟩
 by_cases hno:e.no=true
 ·have hR:oC p e.pe s.blocks=false:=by
   have:e.pe.no=true:=hno;unfold oC; rw [this]; rfl
  simp only [go_sem,b4,hno];exact fin _ hR _ (Keep.refl _)
 have hno':e.no=false:=by simpa using hno
 obtain ⟨hfc,hnl⟩:=hfc hno';have hR:oC p e.pe s.blocks=(e.pe.cells.all (nT p s.blocks) && (List.range e.news.length).all (qWX p s.blocks e.news)):=by
  have:e.pe.no=false:=hno';unfold oC; rw [this]; rfl
 generalize oC p e.pe s.blocks=R at *;simp only [go_sem,b4,hno'];have hpl:e.pe.cells.length=e.cells.length:=by simp [En.pe]
 refine wV e.cells.length (zDY p e s.blocks F M1) ⟨rfl,Keep.refl _,dB,(by simp only [go_sem, *] <;> rfl),rfl⟩ ?_;rintro i σ F' M2 hi hst ⟨rfl,kp,old,q17,he⟩;have q3:=hst 3 rfl;have q4:=hst 4 rfl;have q5:=hst 5 rfl;have q15:=hst 15 rfl;have q16:=hst 16 rfl;simp only [go_sem] at q3 q4 q5 q15 q16;clear hst;have g3:=kp _ _ f3;have g4:=kp _ _ f4;have g5:=kp _ _ f5;have b3':=qG (F:=F) g3;have b4':=qG (F:=F) g4;have b5':=qG (F:=F) g5;have h2:=h1.keep kp old;have hs2:=hs1.keep kp old;by_cases hil:(i:Int) < e.cells.length
 ·have hi0:(0:Int)<=i:=by omega
  have hi1:i < e.cells.length:=by omega
  have ei:i64.wrap ((i:Int)+1)=i+1:=dQ (by omega) (by omega);have hfi:=hfc _ (aH hi1);have hci:=h2.ptrs _ (aH hi1);have t1:e.pe.cells.take (i+1)=e.pe.cells.take i++[(e.cells[i]).pc]:=by
   rw [aF (by omega)]; simp [En.pe]
  have wGH:nT p s.blocks (e.cells[i]).pc=false->R=false:=fun h=>by
   rw [hR];have:e.pe.cells.all (nT p s.blocks)=false:=by
    rw [dP];exact ⟨(e.cells[i]).pc,by simp only [En.pe]; exact eF (aH hi1),by simp [h]⟩
   rw [this]; rfl
  obtain ⟨b,o,cs,ea,hb,rows⟩:=h2.cells.rows (by omega);obtain ⟨d1,d2⟩:=rows i hi1;clear rows;generalize e.cells[i]=c at *;obtain ⟨k,hk⟩:=aG (by have:=hfi.block; omega:0<=c.pc.b);have hkl:k < s.blocks.length:=by have:=hfi.block; omega
  have hk0:(0:Int)<=k:=by omega
  have hkl':(k:Int) < s.blocks.length:=by omega
  have hk':c.b=k:=hk;obtain ⟨b',o',cs',ea',hb',rows⟩:=hs2.blocks.rows (by omega);obtain ⟨d3,d4⟩:=rows k hkl;clear rows;have xKW:nT p s.blocks c.pc=(!decide ((s.blocks[k]).st=1) || qXY p.big c.pc (((s.blocks[k]).l.drop c.p.toNat).take (yJ p.ptr c.k).toNat)):=by
   rw [<-yY hkl,<-hk]; rfl
  have hin:=hfi.inside;rw [hk,yY hkl] at hin;have hbr:(s.blocks[k]).rd F M2:=hs2.bytes _ (aH hkl);have hby:=(hfm.bytes k hkl).1;generalize s.blocks[k]=x at *;have next:nT p s.blocks c.pc=true->∀M3 σ',Keep M2 M3->Old F M3->Ax.look σ' 17=some (.int .i64 ((i+1:Nat):Int))->Nxt (zDY p e s.blocks F M1) e.cells.length i σ' F M3:=fun hx M3 σ' fC o3 h=>
   ⟨hi1,rfl,kp.trans fC,o3,h,by rw [t1,List.all_append,he]; simp [hx]⟩
  simp only [go_sem,q15,q16,q17,hil,hi0,ea,aB,hb,d1,d2];intro r8 hF8 rQ;have n3:=qJ rQ g3;have n5:=qJ rQ g5;have nb':=jT hb' hF8 rQ;simp only [setH,Hp.wZ,go_sem,q5,n5,b5',hk',hk0,hkl',ea',nb',hb',aB,d3,d4];intro r9 hF9 hM9;simp only [qD] at hM9;have xE:Keep M2 ((M2.upd r8 ⟨c.cs,100,10⟩).upd r9 ⟨x.cs,86,2⟩):=(by repeat' first | exact Keep.refl _ | (refine Keep.new ?_ (by simp only [*])))
  have mZ:Old F ((M2.upd r8 ⟨c.cs,100,10⟩).upd r9 ⟨x.cs,86,2⟩):=(by repeat' first | assumption | (refine Old.upd ?_ (by assumption)))
  have b8:blk F ((M2.upd r8 ⟨c.cs,100,10⟩).upd r9 ⟨x.cs,86,2⟩) r8=some c.cs:=by
   have f8:((M2.upd r8 ⟨c.cs,100,10⟩).upd r9 ⟨x.cs,86,2⟩) r8=some ⟨c.cs,100,10⟩:=by rw [Hp.qK (by simp [hM9])]; exact Hp.qV _ _ _
   exact qG (F:=F) f8
  have b9:blk F ((M2.upd r8 ⟨c.cs,100,10⟩).upd r9 ⟨x.cs,86,2⟩) r9=some x.cs:=qG (F:=F) (Hp.qV _ _ _);have b39:=qG (F:=F) (xE _ _ g3);have hcr:c.rd F ((M2.upd r8 ⟨c.cs,100,10⟩).upd r9 ⟨x.cs,86,2⟩):=dF.keep hci xE mZ;have hxr:x.rd F ((M2.upd r8 ⟨c.cs,100,10⟩).upd r9 ⟨x.cs,86,2⟩):=dF.keep hbr xE mZ;clear hci hbr n3 n5 nb';by_cases hst:x.st=1;rotate_left
  ·simp only [setH,Hp.wZ,go_sem,b9,hst,q17,ei];refine next (by rw [xKW,decide_eq_false hst]; rfl) _ _ xE mZ (by simp only [go_sem, *] <;> rfl)
  simp only [setH,Hp.wZ,go_sem,q3,b8,b9,b39,hst];generalize (M2.upd r8 ⟨c.cs,100,10⟩).upd r9 ⟨x.cs,86,2⟩=M3 at *;obtain ⟨n1,n4⟩:=gV hpre.1 hfi.kind;obtain ⟨n,hn⟩:=aG (by omega:0<=yJ p.ptr c.pc.k);have hn':yJ p.ptr c.k=n:=hn;obtain ⟨hp0,hpl⟩:=hin hst;obtain ⟨q,hq⟩:=aG hp0;have hq':c.p=q:=hq;rw [hn] at hpl n1 n4;rw [hq] at hpl;have hn1:0 < n:=by omega
  have hq0:(0:Int)<=q:=by omega
  have hxl:=hxr.1;rw [hst,hq',hn',aB,aB] at xKW;have hcl:=qKK (l:=x.l) (lo:=q) (n:=n) (by omega);have hcut:=dF.cut hxr (lo:=q) (n:=n) (by omega);have ew:i64.wrap ((q:Int)+n)=((q+n:Nat):Int):=by rw [dQ (by omega) (by omega)]; omega
  have e1:(0:Int)<=((q+n:Nat):Int):=by omega
  have e2:(q:Int)<=((q+n:Nat):Int):=by omega
  have e3:((q+n:Nat):Int)<=x.l.length:=by omega
  have e4:x.l.length<=x.lC:=by
   obtain ⟨_,ad,cap,hc,e,_⟩:=hxr;cases e; exact hc
  have e4':(x.l.length:Int)<=x.lC:=by omega
  have e5:q+n - q=n:=by omega
  have jVX:∀z∈(x.l.drop q).take n,lQ z=true:=fun z hz=>hby z (List.mem_of_mem_drop (List.mem_of_mem_take hz))
  have hkk:c.k=0\/c.k=11\/isS c.k=true:=hfi.kind;have kG:=dQZ F M3 p.big p.ptr c _ _ ((x.l.drop q).take n) mZ hcr hcut (by rw [hcl]; exact hn1) jVX;rw [hcl] at kG;with_reducible refine qQ (zHD F M3 p.big p.ptr c.k hkk) ?_;simp only [go_sem,hn',hq',ew,e2,e3,e4,e5,aB,hq0];with_reducible refine qQ kG ?_;generalize qXY p.big c.pc ((x.l.drop q).take n)=sv at *;cases sv
  ·simp only [go_sem];exact fin _ (wGH (by rw [xKW]; rfl)) _ (kp.trans xE)
  ·simp only [go_sem,q17,ei];exact next (by rw [xKW]; rfl) _ _ xE mZ (by simp only [go_sem, *] <;> rfl)
 have hx:i=e.cells.length:=by omega
 have hall:e.pe.cells.all (nT p s.blocks)=true:=by
  rw [aJ (by omega)] at he; exact he
 rw [hall,bQ] at hR;simp only [go_sem,q4,q16,q17,hil,b4'];clear q17 hil he hx;refine wV e.news.length (dQJ p e s.blocks F M2) ⟨rfl,rfl,(by simp only [go_sem, *] <;> rfl),rfl⟩ ?_;rintro k σ3 F' M3 hk hst ⟨rfl,rfl,q54,he3⟩;have t3:=hst 3 rfl;have t5:=hst 5 rfl;have t52:=hst 52 rfl;have t53:=hst 53 rfl;simp only [go_sem,q3,q5] at t3 t5 t52 t53;clear hst;by_cases hkl:(k:Int) < e.news.length;rotate_left
 ·have hk':k=e.news.length:=by omega
  rw [hk'] at he3;simp only [go_sem,t53,q54,hkl];exact fin _ (by rw [hR,he3]) _ kp
 have hk0:(0:Int)<=k:=by omega
 have hk1:k < e.news.length:=by omega
 have ek:i64.wrap ((k:Int)+1)=k+1:=dQ (by omega) (by omega);have hj:p.vars.length+1+k < s.blocks.length:=by omega
 have ew1:i64.wrap (1+(p.vars.length:Int))=1+p.vars.length:=dQ (by omega) (by omega);have ew2:i64.wrap (1+(p.vars.length:Int)+k)=((p.vars.length+1+k:Nat):Int):=by rw [dQ (by omega) (by omega)]; omega
 have hj0:(0:Int)<=((p.vars.length+1+k:Nat):Int):=by omega
 have hjl:((p.vars.length+1+k:Nat):Int) < s.blocks.length:=by omega
 have hnB:=yVA (p:=p) (m:=s.blocks) hk1 hj rfl;have wYA:=(hfm.bytes _ hj).2.1;obtain ⟨b4,o4,cs4,ea4,hb4,e1⟩:=Ax.gW h2.news hk1;obtain ⟨b',o',cs',ea',hb',rows⟩:=hs2.blocks.rows (by omega);obtain ⟨d3,d4⟩:=rows _ hj;obtain ⟨d4,_⟩:=Go.Ax.Bl.row d4;clear rows;generalize s.blocks[p.vars.length+1+k]=x at *;generalize e.news[k]=y at *;have wYB:¬x.st < 0:=by omega
 by_cases hz:band .i64 (sW .i64 y x.st) 1=0
 ·have hf:qWX p s.blocks e.news k=false:=by rw [hnB]; simp [hz]
  simp only [go_sem,t3,t5,t52,t53,q54,hkl,hk0,ea4,aB,aK,hb4,e1,b3',b5',ew1,ew2,hj0,hjl,ea',hb',d4,wYB,hz];exact fin _ (by rw [hR,wYY hk1 hf]) _ kp
 ·have hf:qWX p s.blocks e.news k=true:=by rw [hnB]; simp [hz]
  simp only [go_sem,t3,t5,t52,t53,q54,hkl,hk0,ea4,aB,aK,hb4,e1,b3',b5',ew1,ew2,hj0,hjl,ea',hb',d4,wYB,hz,ek];exact ⟨hk1,rfl,rfl,(by simp only [go_sem, *] <;> rfl),by rw [wKZ,he3,hf]; rfl⟩
theorem k41 (p:Pg)(e:En)(s:dM)(hp:p.rd F)(hold:Old F M)(h:e.rd F M)(hs:s.rd F M)(hc:wY p=true)(hfm:iP p s.blocks)(hfc:e.no=false->(∀c∈e.cells,jQH p s.blocks c.pc)/\e.news.length=p.news.length) :
  aI prog 41 [p.val,e.val,s.val] F M (Same F M (.bool (oC p e.pe s.blocks))):=by
 refine qZ hm func41 e41 (aA rfl) ?_;have hl1:=h.cells.1;have hl2:=h.news.1;have hl3:=hs.blocks.1;have hpre:=yH hc;have hlen:=hfm.len;simp only [c41,go_sem];intro r3 hF3 dN;simp only [go_sem];intro r4 mW jP;simp only [qD] at jP;simp only [go_sem];intro r5 lM gU;simp only [qD] at gU;have eH:Keep M (((M.upd r3 ⟨p.cs,43,7⟩).upd r4 ⟨e.cs,51,3⟩).upd r5 ⟨s.cs,57,5⟩):=(by repeat' first | exact Keep.refl _ | (refine Keep.new ?_ (by simp only [*])))
 have dB:Old F (((M.upd r3 ⟨p.cs,43,7⟩).upd r4 ⟨e.cs,51,3⟩).upd r5 ⟨s.cs,57,5⟩):=(by repeat' first | assumption | (refine Old.upd ?_ (by assumption)))
 have f3:(((M.upd r3 ⟨p.cs,43,7⟩).upd r4 ⟨e.cs,51,3⟩).upd r5 ⟨s.cs,57,5⟩) r3=some ⟨p.cs,43,7⟩:=by rw [Hp.qK (by simp [gU]),Hp.qK (by simp [jP])]; exact Hp.qV _ _ _
 have f4:(((M.upd r3 ⟨p.cs,43,7⟩).upd r4 ⟨e.cs,51,3⟩).upd r5 ⟨s.cs,57,5⟩) r4=some ⟨e.cs,51,3⟩:=by rw [Hp.qK (by simp [gU])]; exact Hp.qV _ _ _
 have f5:(((M.upd r3 ⟨p.cs,43,7⟩).upd r4 ⟨e.cs,51,3⟩).upd r5 ⟨s.cs,57,5⟩) r5=some ⟨s.cs,57,5⟩:=Hp.qV _ _ _;generalize (((M.upd r3 ⟨p.cs,43,7⟩).upd r4 ⟨e.cs,51,3⟩).upd r5 ⟨s.cs,57,5⟩)=M1 at *;have h1:=h.keep eH dB;have hs1:=hs.keep eH dB;have b3:=qG (F:=F) f3;have b4:=qG (F:=F) f4;have b5:=qG (F:=F) f5;clear dN jP gU hF3 mW lM h hs;have fin:∀v:Bool,oC p e.pe s.blocks=v->∀M',Keep M1 M'->lK F M' (Same F M (.bool (oC p e.pe s.blocks))) (.bool v):=fun v h M' k=>qX (eH.trans k) ⟨by rw [h],rfl,rfl⟩
 by_cases hno:e.no=true
 ·have hR:oC p e.pe s.blocks=false:=by
   have:e.pe.no=true:=hno;unfold oC; rw [this]; rfl
  simp only [go_sem,b4,hno];exact fin _ hR _ (Keep.refl _)
 have hno':e.no=false:=by simpa using hno
 obtain ⟨hfc,hnl⟩:=hfc hno';have hR:oC p e.pe s.blocks=(e.pe.cells.all (nT p s.blocks) && (List.range e.news.length).all (qWX p s.blocks e.news)):=by
  have:e.pe.no=false:=hno';unfold oC; rw [this]; rfl
 generalize oC p e.pe s.blocks=R at *;simp only [go_sem,b4,hno'];have hpl:e.pe.cells.length=e.cells.length:=by simp [En.pe]
 refine wV e.cells.length (dQG p e s.blocks F M1) ⟨rfl,Keep.refl _,dB,(by simp only [go_sem, *] <;> rfl),rfl⟩ ?_;rintro i σ F' M2 hi hst ⟨rfl,kp,old,q7,he⟩;have q3:=hst 3 rfl;have q4:=hst 4 rfl;have q5:=hst 5 rfl;simp only [go_sem] at q3 q4 q5;clear hst;have g3:=kp _ _ f3;have g4:=kp _ _ f4;have g5:=kp _ _ f5;have b3':=qG (F:=F) g3;have b4':=qG (F:=F) g4;have b5':=qG (F:=F) g5;have h2:=h1.keep kp old;have hs2:=hs1.keep kp old;by_cases hil:(i:Int) < e.cells.length
 ·have hi0:(0:Int)<=i:=by omega
  have hi1:i < e.cells.length:=by omega
  have ei:i64.wrap ((i:Int)+1)=i+1:=dQ (by omega) (by omega);have hfi:=hfc _ (aH hi1);have hci:=h2.ptrs _ (aH hi1);have t1:e.pe.cells.take (i+1)=e.pe.cells.take i++[(e.cells[i]).pc]:=by
   rw [aF (by omega)]; simp [En.pe]
  have wGH:nT p s.blocks (e.cells[i]).pc=false->R=false:=fun h=>by
   rw [hR];have:e.pe.cells.all (nT p s.blocks)=false:=by
    rw [dP];exact ⟨(e.cells[i]).pc,by simp only [En.pe]; exact eF (aH hi1),by simp [h]⟩
   rw [this]; rfl
  obtain ⟨b,o,cs,ea,hb,rows⟩:=h2.cells.rows (by omega);obtain ⟨d1,d2⟩:=rows i hi1;clear rows;generalize e.cells[i]=c at *;have hblk:1<=c.b/\c.b < s.blocks.length:=hfi.block;have hin:(jD s.blocks c.b).st=1->0<=c.p/\c.p+yJ p.ptr c.k<=(jD s.blocks c.b).l.length:=hfi.inside;have hkk:c.k=0\/c.k=11\/isS c.k=true:=hfi.kind;have hby:∀x∈(jD s.blocks c.b).l,lQ x=true:=by
   obtain ⟨k,hk⟩:=aG (by omega:0<=c.b);have hkl:k < s.blocks.length:=by omega
   rw [hk,yY hkl];exact (hfm.bytes k hkl).1
  have kS:=k81 F M2 p s.bG s.bV s.blocks c old hpre.1 hci hs2.blocks hs2.bytes (by omega) hin hby hkk;simp only [go_sem,q3,q4,q5,q7,b3',b4',b5',hil,hi0,ea,aB,hb,d1,d2];with_reducible refine qQ kS ?_;cases hsv:nT p s.blocks c.pc
  ·simp only [go_sem];exact fin _ (wGH hsv) _ kp
  ·simp only [go_sem,q7,ei];exact ⟨hi1,rfl,kp,old,(by simp only [go_sem, *] <;> rfl),by rw [t1,List.all_append,he]; simp [hsv]⟩
 have hx:i=e.cells.length:=by omega
 have hall:e.pe.cells.all (nT p s.blocks)=true:=by
  rw [aJ (by omega)] at he; exact he
 rw [hall,bQ] at hR;simp only [go_sem,q4,q7,hil,b4'];clear q7 hil he hx;refine wV e.news.length (dQV p e s.blocks F M2) ⟨rfl,rfl,(by simp only [go_sem, *] <;> rfl),rfl⟩ ?_;rintro k σ3 F' M3 hk hst ⟨rfl,rfl,q8,he3⟩;have t3:=hst 3 rfl;have t4:=hst 4 rfl;have t5:=hst 5 rfl;simp only [go_sem,q3,q4,q5] at t3 t4 t5;clear hst;by_cases hkl:(k:Int) < e.news.length;rotate_left
 ·have hk':k=e.news.length:=by omega
  rw [hk'] at he3;simp only [go_sem,t4,b4',q8,hkl];exact fin _ (by rw [hR,he3]) _ kp
 have hk0:(0:Int)<=k:=by omega
 have hk1:k < e.news.length:=by omega
 have ek:i64.wrap ((k:Int)+1)=k+1:=dQ (by omega) (by omega);have hj:p.vars.length+1+k < s.blocks.length:=by omega
 have ew1:i64.wrap ((p.vars.length:Int)+1)=p.vars.length+1:=dQ (by omega) (by omega);have ew2:i64.wrap ((p.vars.length:Int)+1+k)=((p.vars.length+1+k:Nat):Int):=by rw [dQ (by omega) (by omega)]; omega
 have hj0:(0:Int)<=((p.vars.length+1+k:Nat):Int):=by omega
 have hjl:((p.vars.length+1+k:Nat):Int) < s.blocks.length:=by omega
 have hnB:=yVA (p:=p) (m:=s.blocks) hk1 hj rfl;have wYA:=(hfm.bytes _ hj).2.1;obtain ⟨b4,o4,cs4,ea4,hb4,e1⟩:=Ax.gW h2.news hk1;obtain ⟨b',o',cs',ea',hb',rows⟩:=hs2.blocks.rows (by omega);obtain ⟨d3,d4⟩:=rows _ hj;obtain ⟨d4,_⟩:=Go.Ax.Bl.row d4;clear rows;generalize s.blocks[p.vars.length+1+k]=x at *;generalize e.news[k]=y at *;have wYB:¬x.st < 0:=by omega
 by_cases hz:band .i64 (sW .i64 y x.st) 1=0
 ·have hf:qWX p s.blocks e.news k=false:=by rw [hnB]; simp [hz]
  simp only [go_sem,t3,t4,t5,q8,hkl,hk0,ea4,aB,aK,hb4,e1,b3',b4',b5',ew1,ew2,hj0,hjl,ea',hb',d4,wYB,hz];exact fin _ (by rw [hR,wYY hk1 hf]) _ kp
 ·have hf:qWX p s.blocks e.news k=true:=by rw [hnB]; simp [hz]
  simp only [go_sem,t3,t4,t5,q8,hkl,hk0,ea4,aB,aK,hb4,e1,b3',b4',b5',ew1,ew2,hj0,hjl,ea',hb',d4,wYB,hz,ek];exact ⟨hk1,rfl,rfl,(by simp only [go_sem, *] <;> rfl),by rw [wKZ,he3,hf]; rfl⟩
theorem dQD (x y:Cl)(h1:x.rd F M)(h2:y.rd F M) :
  aI prog 167 [x.val,y.val] F M (Same F M (.bool (decide (x.pc=y.pc)))):=by
 refine qZ hm func167 e167 (aA rfl) ?_;have e:∀c1 c2:Pc,decide (c1=c2)=(decide (c1.b=c2.b) && (decide (c1.p=c2.p) && (decide (c1.k=c2.k) && (decide (c1.v=c2.v) && decide (c1.l=c2.l))))):=fun c1 c2=>by
  rw [dG]; cases c1; cases c2; simp
 have hR:decide (x.pc=y.pc)=(decide (x.b=y.b) && (decide (x.p=y.p) && (decide (x.k=y.k) && (decide (x.v=y.v) && decide (x.l=y.l))))):=e _ _;generalize decide (x.pc=y.pc)=R at *;simp only [c167,go_sem];intro r2 hF2 hM2;simp only [go_sem];intro r3 hF3 dN;simp only [qD] at dN;have fC:Keep M ((M.upd r2 ⟨x.cs,100,10⟩).upd r3 ⟨y.cs,100,10⟩):=(by repeat' first | exact Keep.refl _ | (refine Keep.new ?_ (by simp only [*])))
 have f2:((M.upd r2 ⟨x.cs,100,10⟩).upd r3 ⟨y.cs,100,10⟩) r2=some ⟨x.cs,100,10⟩:=by rw [Hp.qK (by simp [dN])]; exact Hp.qV _ _ _
 have f3:((M.upd r2 ⟨x.cs,100,10⟩).upd r3 ⟨y.cs,100,10⟩) r3=some ⟨y.cs,100,10⟩:=Hp.qV _ _ _;have g1:x.rd F ((M.upd r2 ⟨x.cs,100,10⟩).upd r3 ⟨y.cs,100,10⟩):=dF.new (dF.new h1 hF2 hM2) hF3 (by simp only [qD,not_false_eq_true,and_self, *]);have g2:y.rd F ((M.upd r2 ⟨x.cs,100,10⟩).upd r3 ⟨y.cs,100,10⟩):=dF.new (dF.new h2 hF2 hM2) hF3 (by simp only [qD,not_false_eq_true,and_self, *]);have kE:=zGJ F ((M.upd r2 ⟨x.cs,100,10⟩).upd r3 ⟨y.cs,100,10⟩) x.v y.v (.slice x.lA x.l.length x.lC) (.slice y.lA y.l.length y.lC) x.l y.l g1 g2;have b2:=qG (F:=F) f2;have b3:=qG (F:=F) f3;generalize ((M.upd r2 ⟨x.cs,100,10⟩).upd r3 ⟨y.cs,100,10⟩)=M1 at *;by_cases c1:x.b=y.b;rotate_left
 ·simp only [go_sem,b2,b3,c1];exact qX fC ⟨by rw [hR]; simp [c1],rfl,rfl⟩
 by_cases c2:x.p=y.p;rotate_left
 ·simp only [go_sem,b2,b3,c1,c2];exact qX fC ⟨by rw [hR]; simp [c2],rfl,rfl⟩
 by_cases c3:x.k=y.k;rotate_left
 ·simp only [go_sem,b2,b3,c1,c2,c3];exact qX fC ⟨by rw [hR]; simp [c3],rfl,rfl⟩
 simp only [go_sem,b2,b3,c1,c2,c3];with_reducible refine qQ kE ?_;simp only [go_sem];exact qX fC ⟨by rw [hR]; simp [c1,c2,c3],rfl,rfl⟩
theorem dQY (a1 a2:Option Addr)(c1 c2:Nat)(l1 l2:List Cl)(h1:dF 10 Cl.cs F M (.slice a1 l1.length c1) l1)(h2:dF 10 Cl.cs F M (.slice a2 l2.length c2) l2)(r1:∀x∈l1,x.rd F M)(r2:∀x∈l2,x.rd F M) :
  aI prog 130 [.slice a1 l1.length c1,.slice a2 l2.length c2] F M (Same F M (.bool (decide (l1.map Cl.pc=l2.map Cl.pc)))):=by
 refine qZ hm func130 kXH (aA rfl) ?_;have hm1:=h1.1;by_cases hlen:(l1.length:Int)=l2.length;rotate_left
 ·simp only [c130,go_sem,hlen];exact qW ⟨by rw [decide_eq_false (fun h=>hlen (by have:=congrArg List.length h; simp at this; omega))],rfl,rfl⟩
 simp only [c130,go_sem,hlen];refine wV l1.length (fun i σ F' M'=>F=F'/\M=M'/\Ax.look σ 5=some (.int .i64 i)/\(l1.map Cl.pc).take i=(l2.map Cl.pc).take i) ⟨rfl,rfl,(by simp only [go_sem, *] <;> rfl),by simp⟩ ?_;rintro i σ F' M' hi hs ⟨rfl,rfl,h5,he⟩;have s0:=hs 0 rfl;have s1:=hs 1 rfl;simp only [go_sem] at s0 s1;clear hs;by_cases hil:(i:Int) < l2.length;rotate_left
 ·have:l1.map Cl.pc=l2.map Cl.pc:=by
   rw [aJ (by simp; omega),aJ (by simp; omega)] at he;exact he
  simp only [go_sem,s0,h5,hil,hlen];exact qW ⟨by simp [this],rfl,rfl⟩
 have hi0:(0:Int)<=i:=by omega
 have hi1:i < l1.length:=by omega
 have hi2:i < l2.length:=by omega
 have ei:i64.wrap ((i:Int)+1)=i+1:=dQ (by omega) (by omega);obtain ⟨b,o,cs,rfl,hb,d1,d2⟩:=dF.at h1 hi1;obtain ⟨b',o',cs',rfl,hb',d3,d4⟩:=dF.at h2 hi2;have t1:(l1.map Cl.pc).take (i+1)=(l1.map Cl.pc).take i++[(l1[i]).pc]:=by rw [aF (by simpa using hi1)]; simp
 have t2:(l2.map Cl.pc).take (i+1)=(l2.map Cl.pc).take i++[(l2[i]).pc]:=by rw [aF (by simpa using hi2)]; simp
 have hne:¬(l1[i]).pc=(l2[i]).pc->¬l1.map Cl.pc=l2.map Cl.pc:=fun h e=>by
  have:=congrArg (fun l=>l[i]?) e;simp only [List.getElem?_map,List.getElem?_eq_getElem hi1,List.getElem?_eq_getElem hi2,cZ,Option.some.injEq] at this;exact h this
 have x1:=r1 _ (aH hi1);have x2:=r2 _ (aH hi2);generalize l1[i]=x at *;generalize l2[i]=y at *;simp only [go_sem,s0,s1,h5,hlen,hil,hi0,aB,hb,hb',d1,d2,d3,d4];with_reducible refine qQ (dQD F M x y x1 x2) ?_;by_cases hxy:x.pc=y.pc
 ·simp only [go_sem,hxy,h5,ei];exact ⟨hi1,rfl,rfl,(by simp only [go_sem, *] <;> rfl),by rw [t1,t2,he,hxy]⟩
 ·simp only [go_sem,hxy];exact qW ⟨by rw [decide_eq_false (hne hxy)],rfl,rfl⟩
theorem k85 (x y:En)(h1:x.rd F M)(h2:y.rd F M) :
  aI prog 85 [x.val,y.val] F M (Same F M (.bool (decide (x.pe=y.pe)))):=by
 refine qZ hm func85 e85 (aA rfl) ?_;have e:∀c1 c2:Pe,decide (c1=c2)=(decide (c1.no=c2.no) && (decide (c1.cells=c2.cells) && decide (c1.news=c2.news))):=fun c1 c2=>by
  rw [dG]; cases c1; cases c2; simp
 have hR:decide (x.pe=y.pe)=(decide (x.no=y.no) && (decide (x.cells.map Cl.pc=y.cells.map Cl.pc) && decide (x.news=y.news))):=e _ _;generalize decide (x.pe=y.pe)=R at *;simp only [c85,go_sem];intro r2 hF2 hM2;simp only [go_sem];intro r3 hF3 dN;simp only [qD] at dN;have fC:Keep M ((M.upd r2 ⟨x.cs,51,3⟩).upd r3 ⟨y.cs,51,3⟩):=(by repeat' first | exact Keep.refl _ | (refine Keep.new ?_ (by simp only [*])))
 have f2:((M.upd r2 ⟨x.cs,51,3⟩).upd r3 ⟨y.cs,51,3⟩) r2=some ⟨x.cs,51,3⟩:=by rw [Hp.qK (by simp [dN])]; exact Hp.qV _ _ _
 have f3:((M.upd r2 ⟨x.cs,51,3⟩).upd r3 ⟨y.cs,51,3⟩) r3=some ⟨y.cs,51,3⟩:=Hp.qV _ _ _;have g1:x.rd F ((M.upd r2 ⟨x.cs,51,3⟩).upd r3 ⟨y.cs,51,3⟩):=(h1.new hF2 hM2).new hF3 (by simp only [qD,not_false_eq_true,and_self, *]);have g2:y.rd F ((M.upd r2 ⟨x.cs,51,3⟩).upd r3 ⟨y.cs,51,3⟩):=(h2.new hF2 hM2).new hF3 (by simp only [qD,not_false_eq_true,and_self, *]);have b2:=qG (F:=F) f2;have b3:=qG (F:=F) f3;generalize ((M.upd r2 ⟨x.cs,51,3⟩).upd r3 ⟨y.cs,51,3⟩)=M1 at *;have kC:=dQY F M1 _ _ _ _ x.cells y.cells g1.cells g2.cells g1.ptrs g2.ptrs;have kN:=k88 F M1 _ _ _ _ x.news y.news g1.news g2.news;by_cases c1:x.no=y.no;rotate_left
 ·have c1':(x.no == y.no)=false:=by simpa using c1
  simp only [go_sem,b2,b3,c1'];exact qX fC ⟨by rw [hR]; simp [c1],rfl,rfl⟩
 have c1':(x.no == y.no)=true:=by simpa using c1
 simp only [go_sem,b2,b3,c1'];with_reducible refine qQ kC ?_;by_cases c2:x.cells.map Cl.pc=y.cells.map Cl.pc;rotate_left
 ·simp only [go_sem,c2];exact qX fC ⟨by rw [hR]; simp [c2],rfl,rfl⟩
 simp only [go_sem,b2,b3,c2];with_reducible refine qQ kN ?_;simp only [go_sem];exact qX fC ⟨by rw [hR]; simp [c1,c2],rfl,rfl⟩
def cnI (l:List Int)(F0:Fz)(M0:Hp)(i:Nat)(σ:Env)(F:Fz)(M:Hp):Prop:=
 F0=F/\Keep M0 M/\Old F0 M/\Ax.look σ 4=some (.int .i64 i)/\∃w,Ax.look σ 3=some w/\yW 1 fV 3 F0 M0 M w (l.take i)
theorem k28 (a:Option Addr)(c:Nat)(l:List Int)(h:lG F M a c l)(hold:Old F M)(hl:l.length<=100000) :
  aI prog 28 [.slice a l.length c] F M (tK 1 fV 3 l F M):=by
 refine qZ hm func28 e28 (aA rfl) ?_;simp only [c28,go_sem];refine wV l.length (cnI l F M) ⟨rfl,Keep.refl _,hold,(by simp only [go_sem, *] <;> rfl),_,(by simp only [go_sem, *] <;> rfl),by rw [List.take_zero]; exact yW.nil⟩ ?_;rintro i σ F' M' hi hst ⟨rfl,kp,old,q4,w,q3,mine⟩;have q0:=hst 0 rfl;simp only [go_sem] at q0;clear hst;by_cases hil:(i:Int) < l.length;rotate_left
 ·rw [aJ (by omega)] at mine;simp only [go_sem,q0,q3,q4,hil];exact mine.done kp
 have hi0:(0:Int)<=i:=by omega
 have hi1:i < l.length:=by omega
 have ei:i64.wrap ((i:Int)+1)=i+1:=dQ (by omega) (by omega);obtain ⟨b,o,cs,rfl,hb,d1⟩:=Ax.gW (h.keep kp old) hi1;have t1:=aF hi1;generalize l[i]=x at *;simp only [go_sem,q0,q3,q4,hil,hi0,aB,hb,d1];intro rb uK lW;simp only [go_sem];refine sU (xs:=l.take i) (ys:=[x]) wJ kJ (by decide) (mine.fresh lW) (kp.new (kp.free lW)) ⟨rfl,.inr ⟨⟨rb,0,none⟩,1,rfl,.inr ⟨rb,0,_,rfl,wH,by simp [fV,oZ]⟩⟩⟩ (by simp) (by simp; omega) ?_;rintro v' M2 _ _ nG ho2 xO;rw [<-t1] at xO;simp only [go_sem,q4,ei];exact ⟨hi1,rfl,nG,ho2 (old.upd uK),(by simp only [go_sem, *] <;> rfl),v',(by simp only [go_sem, *] <;> rfl),xO⟩
def xKX (c:Pc)(F:Fz)(M:Hp)(u:Value)(F':Fz)(M':Hp):Prop:=F'=F/\Keep M M'/\Old F M'/\∃c':Cl,u=c'.val/\c'.pc=c/\gQ 7 Ba.cs 132 F M' (.slice c'.lA c'.l.length c'.lC) c'.l
theorem xKZ {c:Cl}{a:Option Addr}{n:Nat}:c.cs.take 3++gG c.v (.slice a c.l.length n)=Cl.cs ⟨c.b,c.p,c.k,c.v,a,n,c.l⟩:=rfl
theorem dQA (c:Cl)(h:c.rd F M)(hold:Old F M)(hl:c.l.length<=100000):aI prog 133 [c.val] F M (xKX c.pc F M):=by
 refine qZ hm func133 kXA (aA rfl) ?_;simp only [zQV,go_sem];intro r1 hF1 hM1;simp only [go_sem];intro r2 hF2 hM2;simp only [qD] at hM2;simp only [go_sem,hM2];intro r3 hF3 dN;simp only [qD] at dN;simp only [setH,Hp.wZ,go_sem,hM2,dN];have fC:Keep M (((M.upd r1 ⟨c.cs,100,10⟩).upd r2 ⟨[.int .i64 0,.int .i64 0,.int .i64 0,.int .i64 0,.bool false,.int .i64 0,.int .i64 0,.int .i64 0,.int .i64 0,.slice none 0 0],100,10⟩).upd r3 ⟨c.cs,100,10⟩):=(by repeat' first | exact Keep.refl _ | (refine Keep.new ?_ (by simp only [*])))
 have dA:Old F (((M.upd r1 ⟨c.cs,100,10⟩).upd r2 ⟨[.int .i64 0,.int .i64 0,.int .i64 0,.int .i64 0,.bool false,.int .i64 0,.int .i64 0,.int .i64 0,.int .i64 0,.slice none 0 0],100,10⟩).upd r3 ⟨c.cs,100,10⟩):=(by repeat' first | assumption | (refine Old.upd ?_ (by assumption)))
 have f3:(((M.upd r1 ⟨c.cs,100,10⟩).upd r2 ⟨[.int .i64 0,.int .i64 0,.int .i64 0,.int .i64 0,.bool false,.int .i64 0,.int .i64 0,.int .i64 0,.int .i64 0,.slice none 0 0],100,10⟩).upd r3 ⟨c.cs,100,10⟩) r3=some ⟨c.cs,100,10⟩:=Hp.qV _ _ _;have f2:(((M.upd r1 ⟨c.cs,100,10⟩).upd r2 ⟨[.int .i64 0,.int .i64 0,.int .i64 0,.int .i64 0,.bool false,.int .i64 0,.int .i64 0,.int .i64 0,.int .i64 0,.slice none 0 0],100,10⟩).upd r3 ⟨c.cs,100,10⟩) r2=some ⟨[.int .i64 0,.int .i64 0,.int .i64 0,.int .i64 0,.bool false,.int .i64 0,.int .i64 0,.int .i64 0,.int .i64 0,.slice none 0 0],100,10⟩:=by
  rw [Hp.qK (by simp [dN])]; exact Hp.qV _ _ _
 have n2:M r2=none:=hM2.2;have n3:M r3=none:=dN.2.2;have wJF:¬r2=r3:=dN.1.2;have zDA:¬r3=r2:=dN.1.1;generalize (((M.upd r1 ⟨c.cs,100,10⟩).upd r2 ⟨[.int .i64 0,.int .i64 0,.int .i64 0,.int .i64 0,.bool false,.int .i64 0,.int .i64 0,.int .i64 0,.int .i64 0,.slice none 0 0],100,10⟩).upd r3 ⟨c.cs,100,10⟩)=M3 at *;have h3:c.rd F M3:=dF.keep h fC dA;refine wW (kVF F M3 c.v (.slice c.lA c.l.length c.lC) c.l h3 dA hl) ?_;rintro u F' M4 ⟨w,rfl,hr⟩;have hown:=hr.own;obtain ⟨hG,le,kq,oq,a,n,rfl,rdq⟩:=hr.le (f:=Ba.cs) (fun x=>rfl) (by omega);subst hG;refine ⟨(fun h=>by cases h),?_⟩;have f3':=kq _ _ f3;have f2':=kq _ _ f2;simp only [setH,go_sem,f2',f3',wJF,xKZ];have qJH:gQ 7 Ba.cs 132 F' ((M4.upd r3 ⟨Cl.cs ⟨c.b,c.p,c.k,c.v,a,n,c.l⟩,100,10⟩).upd r2 ⟨Cl.cs ⟨c.b,c.p,c.k,c.v,a,n,c.l⟩,100,10⟩) (.slice a c.l.length n) c.l:=by
  refine hown.frame (e':=100) (fun r x hx hne=>?_) (by decide);have e3:¬r=r3:=by rintro rfl; rw [f3'] at hx; cases hx; exact hne rfl
  have e2:¬r=r2:=by rintro rfl; rw [f2'] at hx; cases hx; exact hne rfl
  rw [Hp.qK e2,Hp.qK e3]; exact hx
 refine qW ⟨rfl,((fC.trans kq).new n3).new ?_,((oq dA).upd hF3).upd hF2,⟨c.b,c.p,c.k,c.v,a,n,c.l⟩,rfl,rfl,qJH⟩;exact n2
theorem xW {α:Type}{sz:Nat}{f:α->List Value}{e:TypeId}{F:Fz}{M:Hp}{a:Option Addr}{n c:Nat}{l:List α}(h:gQ sz f e F M (.slice a n c) l):a=none->c=0:=by
 rintro rfl;rcases h with ⟨h,_⟩ | ⟨g,cap,h,_⟩
 ·cases h; rfl
 ·cases h
def jVK (l:List Pc)(F:Fz)(M:Hp)(u:Value)(F':Fz)(M':Hp):Prop:=F'=F/\Keep M M'/\Old F M'/\∃a c,∃l':List Cl,u=.slice a l'.length c/\l'.map Cl.pc=l/\gQ 10 Cl.cs 100 F M' (.slice a l'.length c) l'/\∀x∈l',gQ 7 Ba.cs 132 F M' (.slice x.lA x.l.length x.lC) x.l
theorem jVJ {l l':List Cl}(h:l'.map Cl.pc=l.map Cl.pc)(hp:∀x∈l,x.l.length<=100000):l'.length=l.length/\∀x∈l',x.l.length<=100000:=by
 refine ⟨by have:=congrArg List.length h; simpa using this,fun x hx=>?_⟩;have:x.pc∈l.map Cl.pc:=by rw [<-h]; exact eF hx
 obtain ⟨y,hy,e⟩:=List.mem_map.1 this;have e2:y.l=x.l:=congrArg Pc.l e;rw [<-e2]; exact hp y hy
def ccI (l:List Cl)(F0:Fz)(M0:Hp)(i:Nat)(σ:Env)(F:Fz)(M:Hp):Prop:=
 F0=F/\Keep M0 M/\Old F0 M/\Ax.look σ 4=some (.int .i64 i)/\∃w,∃l':List Cl,Ax.look σ 3=some w/\yW 10 Cl.cs 100 F0 M0 M w l'/\l'.map Cl.pc=(l.take i).map Cl.pc/\∀x∈l',gQ 7 Ba.cs 132 F0 M (.slice x.lA x.l.length x.lC) x.l
theorem k90 (a:Option Addr)(c:Nat)(l:List Cl)(h:dF 10 Cl.cs F M (.slice a l.length c) l)(hr:∀x∈l,x.rd F M)(hold:Old F M)(hl:l.length<=100000)(hp:∀x∈l,x.l.length<=100000) :
  aI prog 90 [.slice a l.length c] F M (jVK (l.map Cl.pc) F M):=by
 refine qZ hm func90 e90 (aA rfl) ?_
 simp only [c90,go_sem]
 refine wV l.length (ccI l F M) ⟨rfl,Keep.refl _,hold,(by simp only [go_sem, *] <;> rfl),_,[],(by simp only [go_sem, *] <;> rfl),yW.nil,rfl,fun x hx=>by cases hx⟩ ?_
 rintro i σ F' M' hi hst ⟨rfl,kp,old,q4,w,l',q3,mine,hpc,hown⟩
 have q0:=hst 0 rfl
 simp only [go_sem] at q0
 clear hst
 have hll:l'.length=i:=by have:=congrArg List.length hpc; simp at this; omega
 by_cases hil:(i:Int) < l.length
 rotate_left
 ·rw [aJ (by omega)] at hpc
  obtain ⟨a',c',rfl⟩:=mine.shape
  simp only [go_sem,q0,q3,q4,hil]
  exact qW ⟨rfl,kp,old,a',c',l',rfl,hpc,mine.own,hown⟩
 have hi0:(0:Int)<=i:=by omega
 have hi1:i < l.length:=by omega
 have ei:i64.wrap ((i:Int)+1)=i+1:=dQ (by omega) (by omega)
 obtain ⟨b,o,cs,rfl,hb,rows⟩:=(h.keep kp old).rows (by omega)
 obtain ⟨d1,d2⟩:=rows i hi1
 clear rows
 have t1:=aF hi1
 have hx:=hr _ (aH hi1)
 have hxl:=hp _ (aH hi1)
 generalize l[i]=x at *
 simp only [go_sem,q0,q3,q4,hil,hi0,aB,hb,d1,d2]
 have hx':x.rd F M':=dF.keep hx kp old
 with_reducible refine wW (dQA F M' x hx' old hxl) ?_
 rintro u F' M1 ⟨rfl,oV,kY,c',rfl,hc',own'⟩
 refine ⟨(fun h=>by cases h),?_⟩
 simp only [go_sem]
 intro rb uK lW
 simp only [go_sem]
 have nG:Keep M' (M1.upd rb ⟨c'.cs,100,10⟩):=oV.new (oV.free lW)
 have hown2:∀y∈l'++[c'],gQ 7 Ba.cs 132 F' (M1.upd rb ⟨c'.cs,100,10⟩) (.slice y.lA y.l.length y.lC) y.l:=fun y hy=>by
  rcases aW.1 hy with hy | hy
  ·exact (hown y hy).keep nG
  ·rw [aX.1 hy]; exact own'.new lW
 refine sU (xs:=l') (ys:=[c']) Cl.len Cl.plain (by decide) ((mine.keep oV).fresh lW) (kp.trans nG) ⟨rfl,.inr ⟨⟨rb,0,none⟩,1,rfl,.inr ⟨rb,0,_,rfl,wH,by simp [Cl.fK]⟩⟩⟩ (by simp) (by simp; omega) ?_
 rintro v' M2 _ hfr fC ho3 wKK
 simp only [go_sem,q4,ei]
 exact ⟨hi1,rfl,fC,ho3 (kY.upd uK),(by simp only [go_sem, *] <;> rfl),v',l'++[c'],(by simp only [go_sem, *] <;> rfl),wKK,by rw [t1,bP,bP,hpc]; simp [hc'],fun y hy=>(hown2 y hy).frame hfr (by decide)⟩
def envNew (e:Pe)(F:Fz)(M:Hp)(u:Value)(F':Fz)(M':Hp):Prop:=F'=F/\Keep M M'/\Old F M'/\∃e':En,u=e'.val/\e'.pe=e/\e'.rd F M'
theorem k59 (e:En)(h:e.rd F M)(hold:Old F M)(hl:e.cells.length<=100000/\e.news.length<=100000)(hp:∀x∈e.cells,x.l.length<=100000) :
  aI prog 59 [e.val] F M (envNew e.pe F M):=by
 refine qZ hm func59 e59 (aA rfl) ?_
 simp only [c59,go_sem]
 intro r1 hF1 hM1
 simp only [go_sem]
 intro r2 hF2 hM2
 simp only [qD] at hM2
 simp only [go_sem,hM2]
 intro r3 hF3 dN
 simp only [qD] at dN
 simp only [setH,Hp.wZ,go_sem,hM2,dN]
 have fC:Keep M (((M.upd r1 ⟨e.cs,51,3⟩).upd r2 ⟨[.bool false,.slice none 0 0,.slice none 0 0],51,3⟩).upd r3 ⟨e.cs,51,3⟩):=(by repeat' first | exact Keep.refl _ | (refine Keep.new ?_ (by simp only [*])))
 have dA:Old F (((M.upd r1 ⟨e.cs,51,3⟩).upd r2 ⟨[.bool false,.slice none 0 0,.slice none 0 0],51,3⟩).upd r3 ⟨e.cs,51,3⟩):=(by repeat' first | assumption | (refine Old.upd ?_ (by assumption)))
 have f3:(((M.upd r1 ⟨e.cs,51,3⟩).upd r2 ⟨[.bool false,.slice none 0 0,.slice none 0 0],51,3⟩).upd r3 ⟨e.cs,51,3⟩) r3=some ⟨e.cs,51,3⟩:=Hp.qV _ _ _
 have f2:(((M.upd r1 ⟨e.cs,51,3⟩).upd r2 ⟨[.bool false,.slice none 0 0,.slice none 0 0],51,3⟩).upd r3 ⟨e.cs,51,3⟩) r2=some ⟨[.bool false,.slice none 0 0,.slice none 0 0],51,3⟩:=by
  rw [Hp.qK (by simp [dN])]; exact Hp.qV _ _ _
 have f1:(((M.upd r1 ⟨e.cs,51,3⟩).upd r2 ⟨[.bool false,.slice none 0 0,.slice none 0 0],51,3⟩).upd r3 ⟨e.cs,51,3⟩) r1=some ⟨e.cs,51,3⟩:=by
  rw [Hp.qK (by simp [dN]),Hp.qK (by simp [hM2])]; exact Hp.qV _ _ _
 have n2:M r2=none:=hM2.2
 have n3:M r3=none:=dN.2.2
 have wJF:¬r2=r3:=dN.1.2
 have zDA:¬r3=r2:=dN.1.1
 have dQB:¬r1=r3:=dN.2.1.2
 have ne31:¬r3=r1:=dN.2.1.1
 generalize (((M.upd r1 ⟨e.cs,51,3⟩).upd r2 ⟨[.bool false,.slice none 0 0,.slice none 0 0],51,3⟩).upd r3 ⟨e.cs,51,3⟩)=M3 at *
 have h3:=h.keep fC dA
 with_reducible refine wW (k90 F M3 _ _ e.cells h3.cells h3.ptrs dA hl.1 hp) ?_
 rintro u F' M4 ⟨rfl,jA,fP,a,c,l',rfl,hpc,own,owns⟩
 refine ⟨(fun h=>by cases h),?_⟩
 obtain ⟨hll,hlp⟩:=jVJ hpc hp
 have g1:=jA _ _ f1
 have g2:=jA _ _ f2
 have g3:=jA _ _ f3
 have b1:=qG (F:=F') g1
 clear h3 hM2 dN f1 f2 f3
 simp only [setH,go_sem,g3,b1,dQB]
 have eX:List.take 1 e.cs++[Value.slice a l'.length c]++List.drop 2 e.cs=[.bool e.no,.slice a l'.length c,.slice e.mG e.news.length e.mJ]:=rfl
 rw [eX]
 have eH:Keep M (M4.upd r3 ⟨[.bool e.no,.slice a l'.length c,.slice e.mG e.news.length e.mJ],51,3⟩):=(fC.trans jA).new n3
 have dB:Old F' (M4.upd r3 ⟨[.bool e.no,.slice a l'.length c,.slice e.mG e.news.length e.mJ],51,3⟩):=fP.upd hF3
 have f3:(M4.upd r3 ⟨[.bool e.no,.slice a l'.length c,.slice e.mG e.news.length e.mJ],51,3⟩) r3=some ⟨[.bool e.no,.slice a l'.length c,.slice e.mG e.news.length e.mJ],51,3⟩:=Hp.qV _ _ _
 have f2:(M4.upd r3 ⟨[.bool e.no,.slice a l'.length c,.slice e.mG e.news.length e.mJ],51,3⟩) r2=some ⟨[.bool false,.slice none 0 0,.slice none 0 0],51,3⟩:=by rw [Hp.qK wJF]; exact g2
 have fr5:∀r x,M4 r=some x->¬x.elem=51->(M4.upd r3 ⟨[.bool e.no,.slice a l'.length c,.slice e.mG e.news.length e.mJ],51,3⟩) r=some x:=fun r x hx hne=>by
  have:¬r=r3:=by rintro rfl; rw [g3] at hx; cases hx; exact hne rfl
  rw [Hp.qK this]; exact hx
 have qJH:=own.frame fr5 (by decide)
 have zDB:=fun x hx=>(owns x hx).frame fr5 (by decide)
 generalize M4.upd r3 ⟨[.bool e.no,.slice a l'.length c,.slice e.mG e.news.length e.mJ],51,3⟩=M5 at *
 have h5:=h.keep eH dB
 with_reducible refine wW (k28 F' M5 _ _ e.news h5.news dB hl.2) ?_
 rintro u F' M6 hr
 have jQD:=hr.own
 obtain ⟨hG,le,kq,oq,a2,n2',rfl,rdq⟩:=hr.le (f:=fV) wJ (by omega)
 subst hG
 refine ⟨(fun h=>by cases h),?_⟩
 have f3':=kq _ _ f3
 have f2':=kq _ _ f2
 have wQY:=qJH.keep kq
 have zDC:=fun x hx=>(zDB x hx).keep kq
 simp only [setH,go_sem,f2',f3',wJF]
 have fr7:∀r x,M6 r=some x->¬x.elem=51->((M6.upd r3 ⟨[.bool e.no,.slice a l'.length c,.slice a2 e.news.length n2'],51,3⟩).upd r2 ⟨[.bool e.no,.slice a l'.length c,.slice a2 e.news.length n2'],51,3⟩) r=some x:=fun r x hx hne=>by
  have e3:¬r=r3:=by rintro rfl; rw [f3'] at hx; cases hx; exact hne rfl
  have e2:¬r=r2:=by rintro rfl; rw [f2'] at hx; cases hx; exact hne rfl
  rw [Hp.qK e2,Hp.qK e3]; exact hx
 have jQY:=wQY.frame fr7 (by decide)
 have xHX:=fun x hx=>(zDC x hx).frame fr7 (by decide)
 have xHZ:=jQD.frame fr7 (by decide)
 refine qW ⟨rfl,((eH.trans kq).new n3).new ?_,((oq dB).upd hF3).upd hF2,⟨e.no,a,c,l',a2,n2',e.news⟩,rfl,?_,⟨jQY.rd Cl.len (by show l'.length<=_; omega),fun x hx=>(xHX x hx).rd (fun x=>rfl) (by have:=hlp x hx; omega),xHZ.rd wJ (by show e.news.length<=_; omega),xW jQY,xW xHZ,fun x hx=>xW (xHX x hx)⟩⟩
 ·exact n2
 ·simp only [En.pe,hpc]
end Go.Proofs.Tryz.K
namespace Go.Ax
open Go
def iL.val (q:iL):Value:=.agg q.cs.toArray
@[go_sem] theorem iL.oW {q:iL}:Value.agg q.cs.toArray=q.val:=rfl
@[go_sem] theorem iL.jM {q:iL}:Value.cells.match_1 (fun _=>Array Value) q.val (fun cs=>cs) (fun u=>#[u])=q.cs.toArray:=rfl
@[go_sem] theorem iL.gI {q:iL}:q.val.cells=q.cs.toArray:=rfl
@[go_sem] theorem iL.iY {q:iL}:q.cs.toArray.size=10:=rfl
@[go_sem] theorem iL.lU {q:iL}:q.cs.length=10:=rfl
@[go_sem] theorem iL.yD {q:iL}:wQ q.cs=True:=by
 apply eq_true;intro u hu;simp only [iL.cs,Pg.cs,aW,aQ,aV,or_false] at hu;rcases hu with (rfl | rfl | rfl | rfl | rfl | rfl | rfl) | rfl | rfl | rfl <;> rfl
@[go_sem] theorem iL.fK {q:iL}:q.cs.take 10=q.cs:=rfl
@[go_sem] theorem iL.take0 {q:iL}:q.cs.take 0=[]:=rfl
@[go_sem] theorem iL.jC {q:iL}:q.cs.drop 10=[]:=rfl
@[go_sem] theorem iL.ld {q:iL}:rd true 10 q.cs 0=some q.val:=rfl
@[go_sem] theorem iL.ldp {q:iL}:rd true 7 q.cs 0=some q.p.val:=rfl
@[go_sem] theorem iL.qWQ {q:iL}:q.cs[2]? = some (.slice q.p.vA q.p.vars.length q.p.vC):=rfl
@[go_sem] theorem iL.jQJ {q:iL}:q.cs[7]? = some (.slice q.sA q.s.length q.sC):=rfl
@[go_sem] theorem iL.ld7 {q:iL}:rd false 1 q.cs 7=some (.slice q.sA q.s.length q.sC):=rfl
@[go_sem] theorem iL.jGX {q:iL}:q.cs[8]? = some (.slice q.eA q.e.length q.eC):=rfl
@[go_sem] theorem iL.ld8 {q:iL}:rd false 1 q.cs 8=some (.slice q.eA q.e.length q.eC):=rfl
@[go_sem] theorem iL.xZH {q:iL}:q.cs[9]? = some (.slice q.xA q.x.length q.xC):=rfl
@[go_sem] theorem iL.ld9 {q:iL}:rd false 1 q.cs 9=some (.slice q.xA q.x.length q.xC):=rfl
@[go_sem] theorem iL.ld2 {q:iL}:rd false 1 q.cs 2=some (.slice q.p.vA q.p.vars.length q.p.vC):=rfl
def Pg.few (p:Pg):Prop:=p.vars.length<=2500/\p.news.length<=2500/\p.exprs.length<=2500/\p.stmts.length<=2500/\p.main.length<=2500/\∀s∈p.stmts,s.body.length<=2500/\s.els.length<=2500
def dM.few (s:dM):Prop:=s.blocks.length<=2500/\s.next.length<=2500/\∀b∈s.blocks,b.l.length<=2500
def wtR (P:Prop)(F:Fz)(M:Hp)(v:Value)(F':Fz)(M':Hp):Prop:=F'=F/\M'=M/\∃n:Int,v=.int .i64 n/\0<=n/\n<=1125899906842624/\(n<=2500->P)
theorem kQ {P:Program}{c:SC}{Q:Post}{σ:Env}{F:Fz}{M:Hp}{i:Nat}(I:Env->Fz->Hp->Prop)(h:W P c (Post.inBlock i (yZK (At I) Q)) σ F M)(hn:∀σ' F' M',sD c.defs σ σ'->I σ' F' M'->Q .n σ' F' M'):W P c (Post.inBlock i Q) σ F M:=jJF (i:=i) I h hn
end Go.Ax
namespace Go.Proofs.Tryz.K
open Go Go.Ax Go.Proofs.Tryz.S
variable (F:Fz) (M:Hp)
def wtI (v w:Nat)(P:Nat->Prop)(F0:Fz)(M0:Hp)(i:Nat)(σ:Env)(F:Fz)(M:Hp):Prop:=
 F0=F/\M0=M/\Ax.look σ v=some (.int .i64 i)/\∃n:Int,Ax.look σ w=some (.int .i64 n)/\0<=n/\n<=1125899906842624/\(n<=2500->P i)
theorem dQF (a:Option Addr)(c:Nat)(l:List Bl)(h:dF 2 Bl.cs F M (.slice a l.length c) l)(hl:l.length<=140737488351232)(hb:∀b∈l,b.l.length<=140737488351232) :
  aI prog 131 [.slice a l.length c] F M (fun v F' M'=>F'=F/\M'=M/\∃n:Int,v=.int .i64 n/\0<=n/\n<=562949953421312/\(n<=2500->l.length<=2500/\∀b∈l,b.l.length<=2500)):=by
 refine qZ hm func131 kXD (aA rfl) ?_;simp only [c131,go_sem];refine wV l.length (fun i σ F' M'=>F=F'/\M=M'/\Ax.look σ 4=some (.int .i64 i)/\∃n:Int,Ax.look σ 3=some (.int .i64 n)/\0<=n/\n<=562949953421312/\(n<=2500->l.length<=2500/\∀b∈l.take i,b.l.length<=2500)) ⟨rfl,rfl,(by simp only [go_sem, *] <;> rfl),l.length,(by simp only [go_sem, *] <;> rfl),by omega,by omega,fun h=>⟨by omega,fun b hb=>by simp at hb⟩⟩ ?_;rintro i σ F' M' hi hst ⟨rfl,rfl,q4,n,q3,n0,n1,hP⟩;have q0:=hst 0 rfl;simp only [go_sem] at q0;clear hst;by_cases hil:(i:Int) < l.length;rotate_left
 ·rw [aJ (by omega)] at hP;simp only [go_sem,q0,q3,q4,hil];exact qW ⟨rfl,rfl,n,rfl,n0,n1,hP⟩
 by_cases hn:n < 1048576;rotate_left
 ·simp only [go_sem,q0,q3,q4,hil,hn];exact qW ⟨rfl,rfl,n,rfl,n0,n1,fun h=>by omega⟩
 have hi0:(0:Int)<=i:=by omega
 have hi1:i < l.length:=by omega
 have ei:i64.wrap ((i:Int)+1)=i+1:=dQ (by omega) (by omega);obtain ⟨b,o,cs,rfl,hbk,rows⟩:=h.rows (by omega);obtain ⟨d1,d2⟩:=rows i hi1;obtain ⟨_,d2⟩:=Go.Ax.Bl.row d2;clear rows;have hx:=hb _ (aH hi1);have t1:=aF hi1;rw [show (i+1)=(i+1) from rfl] at t1;generalize l[i]=x at *;have en:i64.wrap (n+(x.l.length:Int))=n+x.l.length:=dQ (by omega) (by omega);simp only [go_sem,q0,q3,q4,hil,hn,hi0,aB,hbk,d2,ei,en];refine ⟨hi1,rfl,rfl,(by simp only [go_sem, *] <;> rfl),n+x.l.length,(by simp only [go_sem, *] <;> rfl),by omega,by omega,fun h=>⟨(hP (by omega)).1,fun y hy=>?_⟩⟩;rw [t1] at hy;rcases aW.1 hy with hy | hy
 ·exact (hP (by omega)).2 y hy
 ·rw [aX.1 hy]; omega
theorem k86 (s:dM)(h:s.rd F M)(hl:s.blocks.length<=140737488351232/\s.next.length<=140737488351232)(hb:∀b∈s.blocks,b.l.length<=140737488351232) :
  aI prog 86 [s.val] F M (wtR s.few F M):=by
 refine qZ hm func86 e86 (aA rfl) ?_;simp only [c86,go_sem];intro r1 hF1 hM1;simp only [go_sem];refine wW (dQF F _ _ _ s.blocks (h.new hF1 hM1).blocks hl.1 hb) ?_;rintro u F' M' ⟨rfl,rfl,n,rfl,n0,n1,hP⟩;refine ⟨fun _=>Le.refl _ _,?_⟩;have en:i64.wrap (n+(s.next.length:Int))=n+s.next.length:=dQ (by omega) (by omega);simp only [go_sem,en];exact qH hM1 (qW ⟨rfl,rfl,_,rfl,by omega,by omega,fun h=>⟨(hP (by omega)).1,by omega,(hP (by omega)).2⟩⟩)
theorem dWQ (p:Pg)(h:p.inB F)(hold:Old F M) :
  aI prog 132 [p.val] F M (wtR p.few F M):=by
 refine qZ hm func132 kXY (aA rfl) ?_;obtain ⟨m1,m2,m3,m4,m5,m6⟩:=h.many;have e1:i64.wrap ((p.vars.length:Int)+p.news.length)=p.vars.length+p.news.length:=dQ (by omega) (by omega);have e2:i64.wrap ((p.vars.length:Int)+p.news.length+p.exprs.length)=p.vars.length+p.news.length+p.exprs.length:=dQ (by omega) (by omega);have e3:i64.wrap ((p.vars.length:Int)+p.news.length+p.exprs.length+p.stmts.length)=p.vars.length+p.news.length+p.exprs.length+p.stmts.length:=dQ (by omega) (by omega);have e4:i64.wrap ((p.vars.length:Int)+p.news.length+p.exprs.length+p.stmts.length+p.main.length)=p.vars.length+p.news.length+p.exprs.length+p.stmts.length+p.main.length:=dQ (by omega) (by omega);simp only [zQG,go_sem];intro r1 hF1 hM1;have f1:(M.upd r1 ⟨p.cs,43,7⟩) r1=some ⟨p.cs,43,7⟩:=Hp.qV _ _ _;have oV:Keep M (M.upd r1 ⟨p.cs,43,7⟩):=(by repeat' first | exact Keep.refl _ | (refine Keep.new ?_ (by simp only [*])))
 have kY:Old F (M.upd r1 ⟨p.cs,43,7⟩):=(by repeat' first | assumption | (refine Old.upd ?_ (by assumption)))
 generalize M.upd r1 ⟨p.cs,43,7⟩=M1 at *;have b1:=qG (F:=F) f1;simp only [go_sem,b1,e1,e2,e3,e4];refine wV p.stmts.length (wtI 4 3 (fun i=>p.vars.length<=2500/\p.news.length<=2500/\p.exprs.length<=2500/\p.stmts.length<=2500/\p.main.length<=2500/\∀s∈p.stmts.take i,s.body.length<=2500/\s.els.length<=2500) F M1) ⟨rfl,rfl,(by simp only [go_sem, *] <;> rfl),_,(by simp only [go_sem, *] <;> rfl),by omega,by omega,fun h=>⟨by omega,by omega,by omega,by omega,by omega,fun b hb=>by simp at hb⟩⟩ ?_;rintro i σ F' M' hi hst ⟨rfl,rfl,q4,n,q3,n0,n1,hP⟩;have q1:=hst 1 rfl;simp only [go_sem] at q1;clear hst e1 e2 e3 e4;have hP:n<=2500->p.vars.length<=2500/\p.news.length<=2500/\p.exprs.length<=2500/\p.stmts.length<=2500/\p.main.length<=2500/\∀s∈p.stmts.take i,s.body.length<=2500/\s.els.length<=2500:=hP;by_cases hil:(i:Int) < p.stmts.length;rotate_left
 ·rw [aJ (by omega)] at hP;simp only [go_sem,q1,q3,q4,b1,hil];exact qX oV ⟨rfl,rfl,n,rfl,n0,n1,hP⟩
 by_cases hn:n < 1048576;rotate_left
 ·simp only [go_sem,q1,q3,q4,b1,hil,hn];exact qX oV ⟨rfl,rfl,n,rfl,n0,n1,fun h=>by omega⟩
 have hi0:(0:Int)<=i:=by omega
 have hi1:i < p.stmts.length:=by omega
 have ei:i64.wrap ((i:Int)+1)=i+1:=dQ (by omega) (by omega);obtain ⟨b,o,cs,ea,hbk,rows⟩:=(h.stmts F M1 (Ext.old kY)).rows (by omega);obtain ⟨d1,d2⟩:=rows i hi1;obtain ⟨_,_,_,_,_,d2,d3⟩:=Go.Ax.Sm.row d2;clear rows;have hx:=m6 _ (aH hi1);have t1:=aF hi1;generalize p.stmts[i]=x at *;have en:i64.wrap (n+(x.body.length:Int))=n+x.body.length:=dQ (by omega) (by omega);have en2:i64.wrap (n+(x.body.length:Int)+x.els.length)=n+x.body.length+x.els.length:=dQ (by omega) (by omega);simp only [go_sem,q1,q3,q4,b1,hil,hn,hi0,ea,aB,hbk,d2,d3,ei,en,en2];refine ⟨hi1,rfl,rfl,(by simp only [go_sem, *] <;> rfl),n+x.body.length+x.els.length,(by simp only [go_sem, *] <;> rfl),by omega,by omega,fun h=>?_⟩;obtain ⟨p1,p2,p3,p4,p5,p6⟩:=hP (by omega);refine ⟨p1,p2,p3,p4,p5,fun y hy=>?_⟩;rw [t1] at hy;rcases aW.1 hy with hy | hy
 ·exact p6 y hy
 ·rw [aX.1 hy]; omega
end Go.Proofs.Tryz.K
namespace Go.Ax
open Go
theorem Keep.le {F:Fz}{M M':Hp}(kp:Keep M M')(o:Old F M'):Le F M F M':=⟨fun _ _ h=>h,fun b e h=>⟨e,kp b e h,List.prefix_refl _⟩,fun b h _=>o b h⟩
end Go.Ax
namespace Go.Proofs.Tryz.K
open Go Go.Ax Go.Proofs.Tryz.S
variable (F:Fz) (M:Hp)
theorem k29 (n:Nat)(hn:n<=100000):aI prog 29 [.int .i64 n] F M (tK 5 By.cs 88 (List.replicate n ⟨0,0,0,0,0⟩) F M):=by
 refine qZ hm func29 e29 (aA rfl) ?_;simp only [c29,go_sem];refine rY (aN _) (by simp only [maxLen]; omega) (by omega) ?_;intro r4 mW jP;have hrep:(List.replicate n [Value.int .i64 0,.int .i64 0,.int .i64 0,.int .i64 0,.int .i64 0]).flatten=(List.replicate n (⟨0,0,0,0,0⟩:By)).flatMap By.cs:=qC (f:=By.cs) ⟨0,0,0,0,0⟩ n;rw [hrep];simp only [go_sem];refine qW ⟨rfl,.inr ⟨r4,n,mW,jP,by rw [bD],⟨by rw [bD]; omega,by simp only [maxLen]; omega⟩,rfl⟩⟩
end Go.Proofs.Tryz.K
namespace Go.Proofs.Tryz.K
open Go Go.Ax Go.Proofs.Tryz.S
set_option maxRecDepth 100000
set_option linter.unusedSimpArgs false
set_option linter.unusedVariables false
set_option maxHeartbeats 4000000
variable (F:Fz) (M:Hp)
structure BeB (p:Pg)(r1 r2 r3:Nat)(F0:Fz)(M0:Hp)(wb wn:Value)(lb:List Bl)(M:Hp):Prop where
 kp:Keep M0 M
 old:Old F0 M
 f1:M r1=some ⟨p.cs,43,7⟩
 f2:M r2=some ⟨[.slice none 0 0,.slice none 0 0,.int .i64 0,.int .i64 0,.int .i64 0],57,5⟩
 f3:M r3=some ⟨[wb,wn,.int .i64 0,.int .i64 0,.int .i64 0],57,5⟩
 own:yW 2 Bl.cs 86 F0 M0 M wb lb
 owns:∀x∈lb,gQ 5 By.cs 88 F0 M (.slice x.lA x.l.length x.lC) x.l
 nums:gQ 1 fV 3 F0 M wn p.main
section
variable {p:Pg} {r1 r2 r3:Nat} {F0:Fz} {M0 M1 M2:Hp} {wb wn:Value} {lb:List Bl}
theorem BeB.keep (h:BeB p r1 r2 r3 F0 M0 wb wn lb M1)(k:Keep M1 M2)(o:Old F0 M2):BeB p r1 r2 r3 F0 M0 wb wn lb M2:=
 ⟨h.kp.trans k,o,k _ _ h.f1,k _ _ h.f2,k _ _ h.f3,h.own.keep k,fun x hx=>(h.owns x hx).keep k,h.nums.keep k⟩
theorem BeB.block (h:BeB p r1 r2 r3 F0 M0 wb wn lb M1)(hF3:F0 r3=none)(h3:M0 r3=none)(h13:¬r1=r3)(h23:¬r2=r3){w:Value}{c:Bl}(hc:gQ 5 By.cs 88 F0 M1 (.slice c.lA c.l.length c.lC) c.l)
  (fr:∀r x,M1 r=some x->¬x.elem=86->M2 r=some x)(kp:Keep M0 M2)(o:Old F0 M2)(mine:yW 2 Bl.cs 86 F0 M0 M2 w (lb++[c])) :
  BeB p r1 r2 r3 F0 M0 w wn (lb++[c]) (M2.upd r3 ⟨[w,wn,.int .i64 0,.int .i64 0,.int .i64 0],57,5⟩):=by
 have g3:=fr _ _ h.f3 (by decide:¬(57:Nat)=86);have fr3:∀r x,M2 r=some x->¬x.elem=57->(M2.upd r3 ⟨[w,wn,.int .i64 0,.int .i64 0,.int .i64 0],57,5⟩) r=some x:=fun r x hx hne=>by
  have:¬r=r3:=by rintro rfl; rw [g3] at hx; cases hx; exact hne rfl
  rw [Hp.qK this]; exact hx
 refine ⟨kp.new h3,o.upd hF3,?_,?_,Hp.qV _ _ _,⟨mine.own.frame fr3 (by decide),mine.new⟩,fun x hx=>?_,(h.nums.frame fr (by decide)).frame fr3 (by decide)⟩
 ·rw [Hp.qK h13]; exact fr _ _ h.f1 (by decide:¬(43:Nat)=86)
 ·rw [Hp.qK h23]; exact fr _ _ h.f2 (by decide:¬(57:Nat)=86)
 ·rcases aW.1 hx with hx | hx
  ·exact ((h.owns x hx).frame fr (by decide)).frame fr3 (by decide)
  ·rw [aX.1 hx]; exact (hc.frame fr (by decide)).frame fr3 (by decide)
end
def zZ (b:Bl):Int × List By:=(b.st,b.l)
def wGY (n:Int):Int × List By:=(1,List.replicate n.toNat ⟨0,0,0,0,0⟩)
def beI (p:Pg)(r1 r2 r3:Nat)(wn:Value)(F0:Fz)(M0:Hp)(i:Nat)(σ:Env)(F:Fz)(M:Hp):Prop:=
 F0=F/\Ax.look σ 4=some (.int .i64 i)/\∃wb,∃lb:List Bl,BeB p r1 r2 r3 F0 M0 wb wn lb M/\lb.map zZ=(0,[]) :: (p.vars.take i).map wGY
def beN (p:Pg)(r1 r2 r3:Nat)(wn:Value)(F0:Fz)(M0:Hp)(i:Nat)(σ:Env)(F:Fz)(M:Hp):Prop:=
 F0=F/\Ax.look σ 5=some (.int .i64 i)/\∃wb,∃lb:List Bl,BeB p r1 r2 r3 F0 M0 wb wn lb M/\lb.map zZ=(0,[]) :: p.vars.map wGY++(p.news.take i).map fun _=>(0,[])
def vZY (p:Pg)(F:Fz)(M:Hp)(u:Value)(F':Fz)(M':Hp):Prop:=F'=F/\Keep M M'/\Old F M'/\∃s:dM,u=s.val/\s.blocks.map zZ=(0,[]) :: p.vars.map wGY++p.news.map (fun _=>(0,[]))/\s.next=p.main/\s.inp=0/\s.p=0/\s.w=0/\s.rd F M'
theorem k8 (p:Pg)(hp:p.rd F)(hold:Old F M)(hv:∀n∈p.vars,0<=n/\n<=32):aI prog 8 [p.val] F M (vZY p F M):=by
 refine qZ hm func8 e8 (aA rfl) ?_
 obtain ⟨w1,w2,_,_,w5,_⟩:=hp.few
 simp only [c8,go_sem]
 intro r1 hF1 hM1
 simp only [go_sem]
 intro r2 hF2 hM2
 simp only [qD] at hM2
 simp only [go_sem]
 intro rb uK lW
 simp only [qD] at lW
 simp only [go_sem,hM2,lW]
 have kpb:Keep M (((M.upd r1 ⟨p.cs,43,7⟩).upd r2 ⟨[.slice none 0 0,.slice none 0 0,.int .i64 0,.int .i64 0,.int .i64 0],57,5⟩).upd rb ⟨[.int .i64 0,.slice none 0 0],86,2⟩):=(by repeat' first | exact Keep.refl _ | (refine Keep.new ?_ (by simp only [*])))
 have wGA:Old F (((M.upd r1 ⟨p.cs,43,7⟩).upd r2 ⟨[.slice none 0 0,.slice none 0 0,.int .i64 0,.int .i64 0,.int .i64 0],57,5⟩).upd rb ⟨[.int .i64 0,.slice none 0 0],86,2⟩):=(by repeat' first | assumption | (refine Old.upd ?_ (by assumption)))
 have f1:(((M.upd r1 ⟨p.cs,43,7⟩).upd r2 ⟨[.slice none 0 0,.slice none 0 0,.int .i64 0,.int .i64 0,.int .i64 0],57,5⟩).upd rb ⟨[.int .i64 0,.slice none 0 0],86,2⟩) r1=some ⟨p.cs,43,7⟩:=by rw [Hp.qK (by simp [lW]),Hp.qK (by simp [hM2])]; exact Hp.qV _ _ _
 have f2:(((M.upd r1 ⟨p.cs,43,7⟩).upd r2 ⟨[.slice none 0 0,.slice none 0 0,.int .i64 0,.int .i64 0,.int .i64 0],57,5⟩).upd rb ⟨[.int .i64 0,.slice none 0 0],86,2⟩) r2=some ⟨[.slice none 0 0,.slice none 0 0,.int .i64 0,.int .i64 0,.int .i64 0],57,5⟩:=by rw [Hp.qK (by simp [lW])]; exact Hp.qV _ _ _
 have n2:M r2=none:=hM2.2
 have nb:M rb=none:=lW.2.2
 have tZ:yW 2 Bl.cs 86 F M (((M.upd r1 ⟨p.cs,43,7⟩).upd r2 ⟨[.slice none 0 0,.slice none 0 0,.int .i64 0,.int .i64 0,.int .i64 0],57,5⟩).upd rb ⟨[.int .i64 0,.slice none 0 0],86,2⟩) (.slice (some ⟨rb,0,none⟩) 1 1) [⟨0,none,0,[]⟩]:=yW.one (x:=(⟨0,none,0,[]⟩:Bl)) uK nb rfl
 generalize (((M.upd r1 ⟨p.cs,43,7⟩).upd r2 ⟨[.slice none 0 0,.slice none 0 0,.int .i64 0,.int .i64 0,.int .i64 0],57,5⟩).upd rb ⟨[.int .i64 0,.slice none 0 0],86,2⟩)=M1 at *
 have b1:=qG (F:=F) f1
 clear hM1 hM2 lW hF1
 with_reducible refine wW (k28 F M1 _ _ p.main (hp.main M1 wGA) wGA (by omega)) ?_
 rintro u F' M2 hr
 have jQD:=hr.own
 obtain ⟨hG,le,kq,oq,a,c,rfl,rdq⟩:=hr.le (f:=fV) wJ (by omega)
 subst hG
 refine ⟨(fun h=>by cases h),?_⟩
 have mY:=oq wGA
 clear hr le rdq oq
 simp only [go_sem]
 intro r3 hF3 dN
 simp only [setH,Hp.wZ,go_sem]
 have n3:M r3=none:=(kpb.trans kq).free dN
 have h13:¬r1=r3:=(qJ dN (kq _ _ f1)).1
 have h23:¬r2=r3:=(qJ dN (kq _ _ f2)).1
 have h32:¬r3=r2:=fun h=>h23 h.symm
 have fC:∀e,Keep M2 (M2.upd r3 e):=fun e=>(Keep.refl M2).new dN
 have st:BeB p r1 r2 r3 F' M (.slice (some ⟨rb,0,none⟩) 1 1) (.slice a p.main.length c) [⟨0,none,0,[]⟩] (M2.upd r3 ⟨[.slice (some ⟨rb,0,none⟩) 1 1,.slice a p.main.length c,.int .i64 0,.int .i64 0,.int .i64 0],57,5⟩):=
  ⟨(kpb.trans kq).new n3,mY.upd hF3,fC _ _ _ (kq _ _ f1),fC _ _ _ (kq _ _ f2),Hp.qV _ _ _,(tZ.keep kq).keep (fC _),fun x hx=>by rw [aX.1 hx]; exact .inl ⟨rfl,rfl⟩,jQD.keep (fC _)⟩
 clear tZ f1 f2 fC jQD dN kq b1
 generalize M2.upd r3 ⟨[.slice (some ⟨rb,0,none⟩) 1 1,.slice a p.main.length c,.int .i64 0,.int .i64 0,.int .i64 0],57,5⟩=M3 at *
 clear kpb wGA mY
 refine kQ (fun σ F2 M'=>F'=F2/\∃wb,∃lb:List Bl,BeB p r1 r2 r3 F' M wb (.slice a p.main.length c) lb M'/\lb.map zZ=(0,[]) :: p.vars.map wGY) ?_ ?_
 ·refine wV p.vars.length (beI p r1 r2 r3 (.slice a p.main.length c) F' M) ⟨rfl,(by simp only [go_sem, *] <;> rfl),_,_,st,rfl⟩ ?_
  clear st
  rintro i σ F2 M2 hi hst ⟨rfl,q4,wb,lb,st,hlb⟩
  have q1:=hst 1 rfl
  have q3:=hst 3 rfl
  simp only [go_sem] at q1 q3
  clear hst
  have b1:=qG (F:=F') st.f1
  have b3:=qG (F:=F') st.f3
  by_cases hil:(i:Int) < p.vars.length
  rotate_left
  ·rw [aJ (by omega)] at hlb
   simp only [go_sem,q1,q4,b1,hil]
   exact At.mk ⟨rfl,wb,lb,st,hlb⟩
  have hi0:(0:Int)<=i:=by omega
  have hi1:i < p.vars.length:=by omega
  have ei:i64.wrap ((i:Int)+1)=i+1:=dQ (by omega) (by omega)
  obtain ⟨b,o,cs,ea,hb,d1⟩:=Ax.gW (hp.vars M2 st.old) hi1
  have t1:=aF hi1
  have hvx:=hv _ (aH hi1)
  have hll:lb.length=i+1:=by have:=congrArg List.length hlb; simp at this; omega
  generalize p.vars[i]=x at *
  obtain ⟨n,hn⟩:=aG hvx.1
  have hvn:wGY x=(1,List.replicate n ⟨0,0,0,0,0⟩):=by unfold wGY; rw [hn]; rfl
  rw [hn] at d1
  simp only [go_sem,q1,q3,q4,b1,b3,hil,hi0,ea,aB,hb,d1]
  with_reducible refine wW (k29 F' M2 n (by omega)) ?_
  rintro u F2 M4 hr
  have ownB:=hr.own
  obtain ⟨hG,le,kq,oq,a4,c4,rfl,rdq⟩:=hr.le (f:=By.cs) By.len (by rw [bD]; omega)
  subst hG
  refine ⟨fun _=>le,?_⟩
  have st4:=st.keep kq (oq st.old)
  obtain ⟨nb',hnb⟩:∃nb':Bl,nb'=⟨1,a4,c4,List.replicate n ⟨0,0,0,0,0⟩⟩:=⟨_,rfl⟩
  have own':gQ 5 By.cs 88 F2 M4 (.slice nb'.lA nb'.l.length nb'.lC) nb'.l:=by rw [hnb]; exact ownB
  have hbk:zZ nb'=wGY x:=by rw [hvn,hnb]; rfl
  simp only [go_sem]
  intro rc hFc hMc
  have eC:[Value.int .i64 1,Value.slice a4 (List.replicate n (⟨0,0,0,0,0⟩:By)).length c4]=Bl.cs nb':=by rw [hnb]; rfl
  rw [eC]
  clear eC hnb ownB rdq hr
  simp only [go_sem]
  have kpc:Keep M4 (M4.upd rc ⟨nb'.cs,86,2⟩):=(Keep.refl M4).new hMc
  have stc:=st4.keep kpc (st4.old.upd hFc)
  have f3':=stc.f3
  have b3':=qG (F:=F2) stc.f3
  refine sU (xs:=lb) (ys:=[nb']) Bl.len Bl.plain (by decide) stc.own stc.kp ⟨rfl,.inr ⟨⟨rc,0,none⟩,1,rfl,.inr ⟨rc,0,_,rfl,wH,by simp [Bl.fK]⟩⟩⟩ (by simp) (by simp; omega) ?_
  rintro _ M5 ⟨g',c'',rfl⟩ fr eH o5 mine
  have stN:=stc.block hF3 n3 h13 h23 (own'.keep kpc) fr eH (o5 stc.old) mine
  rw [show (lb++[nb']).length=lb.length+1 by simp] at stN
  have g3:=fr _ _ stc.f3 (by decide:¬(57:Nat)=86)
  simp only [setH,go_sem,q3,q4,g3,ei]
  exact ⟨hi1,rfl,(by simp only [go_sem, *] <;> rfl),_,lb++[nb'],stN,by rw [bP,hlb,t1,bP,List.map_singleton,List.map_singleton,hbk]; rfl⟩
 ·clear st
  rintro σ F2 M2 hst ⟨rfl,wb,lb,st,hlb⟩
  have q1:=hst 1 rfl
  have q2:=hst 2 rfl
  have q3:=hst 3 rfl
  simp only [go_sem] at q1 q2 q3
  clear hst
  simp only [go_sem]
  refine wV p.news.length (beN p r1 r2 r3 (.slice a p.main.length c) F' M) ⟨rfl,(by simp only [go_sem, *] <;> rfl),_,_,st,by rw [hlb]; simp⟩ ?_
  clear st hlb
  rintro i σ2 F2 M2 hi hst ⟨rfl,q5,wb,lb,st,hlb⟩
  have t1:=hst 1 rfl
  have t2:=hst 2 rfl
  have t3:=hst 3 rfl
  simp only [go_sem,q1,q2,q3] at t1 t2 t3
  clear hst
  have b1:=qG (F:=F') st.f1
  have b3:=qG (F:=F') st.f3
  have f2:=st.f2
  have hll:lb.length=1+p.vars.length+i:=by have:=congrArg List.length hlb; simp at this; omega
  by_cases hil:(i:Int) < p.news.length
  rotate_left
  ·rw [aJ (by omega)] at hlb
   obtain ⟨a',c',rfl⟩:=st.own.shape
   simp only [setH,go_sem,t1,t2,t3,q5,b1,b3,f2,hil]
   have fr2:∀r x,M2 r=some x->¬x.elem=57->(M2.upd r2 ⟨[.slice a' lb.length c',.slice a p.main.length c,.int .i64 0,.int .i64 0,.int .i64 0],57,5⟩) r=some x:=fun r x hx hne=>by
    have:¬r=r2:=by rintro rfl; rw [f2] at hx; cases hx; exact hne rfl
    rw [Hp.qK this]; exact hx
   have o1:=st.own.own.frame fr2 (by decide)
   have o2:=fun x hx=>(st.owns x hx).frame fr2 (by decide)
   have o3:=st.nums.frame fr2 (by decide)
   have hle:∀x∈lb,x.l.length<=32:=fun x hx=>by
    have hm:zZ x∈lb.map zZ:=eF hx
    rw [hlb] at hm
    rcases aW.1 hm with hm | hm
    ·rcases aQ.1 hm with hm | hm
     ·have:x.l=[]:=congrArg Prod.snd hm
      rw [this]; simp
     ·obtain ⟨n,hn,e⟩:=List.mem_map.1 hm
      have:x.l=List.replicate n.toNat ⟨0,0,0,0,0⟩:=(congrArg Prod.snd e).symm
      rw [this,bD]
      have:=hv n hn
      omega
    ·obtain ⟨n,hn,e⟩:=List.mem_map.1 hm
     have:x.l=[]:=(congrArg Prod.snd e).symm
     rw [this]; simp
   exact qW ⟨rfl,st.kp.new n2,st.old.upd hF2,⟨a',c',lb,a,c,p.main,0,0,0⟩,rfl,hlb,rfl,rfl,rfl,rfl,
    ⟨o1.rd Bl.len (by show lb.length<=_; omega),fun x hx=>(o2 x hx).rd By.len (by have:=hle x hx; omega),o3.rd wJ (by show p.main.length<=_; omega),xW o1,xW o3,fun x hx=>xW (o2 x hx)⟩⟩
  have hi0:(0:Int)<=i:=by omega
  have hi1:i < p.news.length:=by omega
  have ei:i64.wrap ((i:Int)+1)=i+1:=dQ (by omega) (by omega)
  have tk:=aF hi1
  simp only [go_sem,t1,t3,q5,b1,b3,hil]
  intro rc hFc hMc
  simp only [go_sem]
  have kpc:Keep M2 (M2.upd rc ⟨Bl.cs ⟨0,none,0,[]⟩,86,2⟩):=(Keep.refl M2).new hMc
  have stc:=st.keep kpc (st.old.upd hFc)
  refine sU (xs:=lb) (ys:=[(⟨0,none,0,[]⟩:Bl)]) Bl.len Bl.plain (by decide) stc.own stc.kp ⟨rfl,.inr ⟨⟨rc,0,none⟩,1,rfl,.inr ⟨rc,0,_,rfl,wH,by simp [Bl.cs]⟩⟩⟩ (by simp) (by simp; omega) ?_
  rintro _ M5 ⟨g',c'',rfl⟩ fr eH o5 mine
  have stN:=stc.block hF3 n3 h13 h23 (.inl ⟨rfl,rfl⟩) fr eH (o5 stc.old) mine
  rw [show (lb++[(⟨0,none,0,[]⟩:Bl)]).length=lb.length+1 by simp] at stN
  have g3:=fr _ _ stc.f3 (by decide:¬(57:Nat)=86)
  simp only [setH,go_sem,t3,q5,g3,ei]
  exact ⟨hi1,rfl,(by simp only [go_sem, *] <;> rfl),_,lb++[⟨0,none,0,[]⟩],stN,by rw [bP,hlb,tk,bP,<-fG]; rfl⟩
end Go.Proofs.Tryz.K
namespace Go.Ax
open Go
theorem n8 {n:Int}(h:0<=n/\n<=255):nN n 8=true:=by
 simp only [nN,show wD 8=255 from by decide,aC,decide_eq_true_eq]; exact h
theorem jVG {x:By}(h:lQ x=true)(hb:0 < x.b):x.st=2:=by
 unfold lQ at h;split at h
 ·have:=of_decide_eq_true h;rw [this] at hb; exact absurd hb (by decide)
 split at h
 ·simp only [aC,decide_eq_true_eq] at h; omega
 split at h
 ·assumption
 ·cases h
theorem yVB {l:List By}{i:Nat}(h:i < l.length):jW l i∈l:=by
 unfold jW; rw [List.getElem?_eq_getElem h]; exact aH h
theorem zDF {p:Pg}(hc:wY p=true){x:By}(h:lQ x=true)(hi:zL (yK p) x=true)(h2:x.st=2):(1<=x.b/\x.b<=(yK p).length - 1/\x.b<=6)/\0<=x.o/\x.o<=32/\0<=x.i/\x.i<=3:=by
 have hs:=jE hc x.b;have hl:=jI p;obtain ⟨_,h4,h5,_⟩:=yH hc;simp only [lQ,h2,Int.reduceEq,if_false,if_true,aC,decide_eq_true_eq] at h;simp only [zL,h2,decide_true,bQ,Bool.not_eq_true',dU,decide_eq_false_iff_not] at hi;omega
structure Is1 (v:V)(w n:Int):Prop where
 ok:v.ok=true
 wd:v.w=w
 is1:v.is1=true
 at_:v.wG 0=n
theorem Is1.just {w n:Int}(hw:zS w=true)(hn:nN n w=true):Is1 (V.just w n) w n:=
 ⟨vQ hw hn,rfl,(wDA hw hn).1,(wDA hw hn).2⟩
theorem Is1.rng {v:V}{w n:Int}(h:Is1 v w n):0<=n/\n<=wD w:=by
 have:=xXK h.ok h.is1;rw [h.at_,h.wd] at this;exact ⟨this.1,this.2.1⟩
def yVC (x:Int)(i:Nat):Int:=band .i64 (sW .i64 x (8 * (i:Int))) 255
theorem jQB (x i:Nat)(h:i<=4):yVC x i=((x / 256 ^ i % 256:Nat):Int):=by
 unfold yVC;have e:(8 * (i:Int))=((8 * i:Nat):Int):=by omega
 have e2:(255:Int)=2 ^ 8 - 1:=by decide
 rw [e,xM (by omega),e2,qJW _ (by decide),Nat.shiftRight_eq_div_pow,Nat.pow_mul,show (2:Nat) ^ 8=256 from rfl];omega
theorem jVV {a b:Nat}(ha:a < 2 ^ 40)(hb:b < 256):bor .i64 (qF .i64 (a:Int) 8) (b:Int)=((a * 256+b:Nat):Int):=by
 have e:(8:Int)=((8:Nat):Int):=rfl;have hs:a <<< 8=a * 256:=by rw [Nat.shiftLeft_eq]
 rw [e,wHF (by decide) (by omega),qQD (by omega) (by omega)]
 congr 1
 rw [<-Nat.shiftLeft_add_eq_or_of_lt (show b < 2 ^ 8 from hb),hs]
theorem jVH {ptr k:Int}(h:isK k=true):yJ ptr k=1\/yJ ptr k=2\/yJ ptr k=4:=by
 rcases vH h with rfl | rfl | rfl | rfl | rfl | rfl <;> simp [yJ] <;> decide
theorem jQC {ptr k:Int}(h:isK k=true):wD (wK k)=256 ^ (yJ ptr k).toNat - 1:=by
 rcases vH h with rfl | rfl | rfl | rfl | rfl | rfl <;> simp [yJ] <;> decide
end Go.Ax
