/- Parts B3: the machine's runs of small codes, contracts of functions, plain facts. -/
import Derived.Test.YtpkbjfffbdgpcaaGreatB2
open Nat renaming le_of_ble_eq_true->aA,le_refl->aN
open Int renaming eq_ofNat_of_zero_le->aG,toNat_natCast->aB
open Bool renaming and_assoc->fE,and_eq_true->aC,true_and->bQ
open List renaming all_eq_true->bW,drop_eq_getElem_cons->dH,drop_eq_nil_of_le->dL,getElem_mem->aH,getElem_of_mem->bZ,length_append->aO,length_cons->fF,length_map->bJ,length_set->aZ,length_take->dW,mem_append->aW,mem_cons->aQ,not_mem_nil->aV,replicate_succ->dS,take_of_length_le->aJ,take_succ_eq_append_getElem->aF
open Option renaming bind_some->bY
open Go.Proofs.Tryz
open Go.IntKind (i64)
set_option linter.unusedVariables false
set_option linter.unusedSimpArgs false
set_option maxRecDepth 100000
set_option maxHeartbeats 4000000
namespace Go.Ax
open Go
def dO (op:Int):Int:=if op=1\/op=2 then 0 else if 3<=op/\op<=7 then 1 else if 8<=op/\op<=22 then 2 else -1
def bH (op:Int):Int:=if op=1\/op=2 then 0 else if 3<=op/\op<=7 then 1 else 2
def bF (es:List Xp)(i:Int):Int:=(es[i.toNat]?.map (·.kind)).getD 0
def nY (k i:Int):Bool:=decide (0<=k) && decide (k < i)
def iM (x:Xp)(i:Int):Bool:=
 if dO x.op=0 then decide (x.a=0) && decide (x.b=0) else if dO x.op=1 then nY x.a i && decide (x.b=0) else if dO x.op=2 then nY x.a i && nY x.b i else false
def qVZ (nv:Nat)(x:Xp):Bool:=
 if x.op=2 then decide (x.kind=7) && decide (1<=x.n) && decide (x.n<=nv) else (decide (x.kind=7) && decide (x.n=0)) || (isK x.kind && nN x.n (iF x.kind))
def qHJ (es:List Xp)(x:Xp):Bool:=
 if x.op=3 then isS x.kind && decide (bF es x.a=7) else if x.op=4 then isK x.kind && isK (bF es x.a) else if x.op=7 then decide (x.kind=6) else isK x.kind && decide (bF es x.a=x.kind)
def qHG (es:List Xp)(x:Xp):Bool:=
 if x.op=18\/x.op=19 then decide (x.kind=6) && isK (bF es x.a) && decide (bF es x.a=bF es x.b)
 else if x.op=20 then decide (x.kind=7) && decide (bF es x.a=7) && decide (bF es x.b=6)
 else if x.op=21\/x.op=22 then decide (x.kind=6) && decide (bF es x.a=7) && decide (bF es x.b=7)
 else isK x.kind && decide (bF es x.a=x.kind) && decide (bF es x.b=x.kind)
def iV (nv:Nat)(es:List Xp)(i:Nat)(x:Xp):Bool:=
 iM x i && (if dO x.op=0 then qVZ nv x else if dO x.op=1 then decide (x.n=0) && qHJ es x else decide (x.n=0) && qHG es x)
def uX (n most:Int):Bool:=decide (0<=n) && decide (n<=most)
def kA (es:List Xp)(x:Xp):Int:=if 0 < bH x.op then bF es x.a else 0
def kB (es:List Xp)(x:Xp):Int:=if 1 < bH x.op then bF es x.b else 0
def lZ (nv:Nat)(es:List Xp)(x:Xp):Bool:=
 if x.op=1 then (decide (0 < wK x.kind) && nN x.n (wK x.kind)) || (decide (x.kind=7) && decide (x.n=0))
 else if x.op=2 then decide (x.kind=7) && (decide (1<=x.n) && decide (x.n<=nv))
 else if x.n=0 then
  if x.op=3 then isS x.kind && decide (kA es x=7) else if x.op=4 then decide (0 < wK x.kind) && decide (0 < wK (kA es x))
  else if x.op=5\/x.op=6 then decide (0 < wK x.kind) && decide (kA es x=x.kind)
  else if x.op=7 then decide (x.kind=6) && isS (kA es x)
  else if x.op=18\/x.op=19 then decide (x.kind=6) && decide (0 < wK (kA es x)) && decide (kA es x=kB es x)
  else if x.op=20 then decide (x.kind=7) && decide (kA es x=7) && decide (kB es x=6)
  else if x.op=21\/x.op=22 then decide (x.kind=6) && decide (kA es x=7) && decide (kB es x=7)
  else decide (0 < wK x.kind) && decide (kA es x=x.kind) && decide (kB es x=x.kind)
 else false
def jS (nv:Nat)(es:List Xp)(i:Nat)(x:Xp):Bool:=
 (decide (1<=x.op) && decide (x.op<=22)) && (if 0 < bH x.op then uX x.a ((i:Int) - 1) else decide (x.a=0)) && (if 1 < bH x.op then uX x.b ((i:Int) - 1) else decide (x.b=0)) && lZ nv es x
theorem yN (k:Int):decide (0 < wK k)=isK k:=by
 unfold wK;cases h:isK k
 ·simp
 ·simp [iF];split
  ·omega
  ·split <;> omega
theorem zV {k:Int}(h:isK k=true):wK k=iF k:=by simp [wK,h]
theorem wZA (k:Int)(i:Nat):nY k i=uX k ((i:Int) - 1):=by
 unfold nY uX
 congr 1
 exact decide_eq_decide.2 (by omega)
theorem xVK {op:Int}(h1:1<=op)(h2:op<=22):op=1\/op=2\/op=3\/op=4\/op=5\/op=6\/op=7\/(8<=op/\op<=17)\/op=18\/op=19\/op=20\/op=21\/op=22:=by omega
theorem xXE {nv:Nat}{es:List Xp}{i:Nat}{x:Xp}(h:∀j:Nat,j < i->isS (bF es j)=true):jS nv es i x=iV nv es i x:=by
 obtain ⟨op,kind,n,a,b⟩:=x;have hk:isK kind=false\/wK kind=iF kind:=by
  cases h:isK kind
  ·exact .inl rfl
  ·exact .inr (zV h)
 have ha:nY a i=uX a ((i:Int) - 1):=wZA a i;have hb:nY b i=uX b ((i:Int) - 1):=wZA b i;by_cases hop:1<=op/\op<=22;rotate_left
 ·have e1:(decide (1<=op) && decide (op<=22))=false:=by simp; omega
  have e2:dO op = -1:=by unfold dO; rw [if_neg (by omega),if_neg (by omega),if_neg (by omega)]
  simp only [jS,e1,Bool.false_and,iV,iM,e2];rfl
 rcases xVK hop.1 hop.2 with rfl | rfl | rfl | rfl | rfl | rfl | rfl | e | rfl | rfl | rfl | rfl | rfl
 ·have ea:dO 1=0:=rfl;have em:bH 1=0:=rfl;simp only [jS,iV,iM,ea,em,qVZ,lZ,yN];rcases hk with hk | hk
  ·simp [hk]
  ·simp [hk,Bool.or_comm]
 ·have ea:dO 2=0:=rfl;have em:bH 2=0:=rfl;simp [jS,iV,iM,ea,em,qVZ,lZ,fE]
 ·have ea:dO 3=1:=rfl;have em:bH 3=1:=rfl;by_cases hn:n=0 <;> simp [jS,iV,iM,ea,em,qHJ,lZ,kA,ha,hn,fE]
 ·have ea:dO 4=1:=rfl;have em:bH 4=1:=rfl;by_cases hn:n=0 <;> simp [jS,iV,iM,ea,em,qHJ,lZ,kA,yN,ha,hn,fE]
 ·have ea:dO 5=1:=rfl;have em:bH 5=1:=rfl;by_cases hn:n=0 <;> simp [jS,iV,iM,ea,em,qHJ,lZ,kA,yN,ha,hn,fE]
 ·have ea:dO 6=1:=rfl;have em:bH 6=1:=rfl;by_cases hn:n=0 <;> simp [jS,iV,iM,ea,em,qHJ,lZ,kA,yN,ha,hn,fE]
 ·have ea:dO 7=1:=rfl;have em:bH 7=1:=rfl;by_cases hn:n=0
  ·simp only [jS,iV,iM,ea,em,qHJ,lZ,kA,kB,yN,ha,hn];cases hq:uX a ((i:Int) - 1)
   ·simp
   ·have hs:isS (bF es a)=true:=by
     simp only [uX,aC,decide_eq_true_eq] at hq;have:=h a.toNat (by omega)
     rwa [Int.toNat_of_nonneg hq.1] at this
    simp [hs]
  ·simp [jS,iV,iM,ea,em,qHJ,lZ,ha,hn]
 ·have ea:dO op=2:=by unfold dO; rw [if_neg (by omega),if_neg (by omega),if_pos (by omega)]
  have em:bH op=2:=by unfold bH; rw [if_neg (by omega),if_neg (by omega)]
  have n1:¬op=1:=by omega
  have n2:¬op=2:=by omega
  have n3:¬op=3:=by omega
  have n4:¬op=4:=by omega
  have n5:¬op=5:=by omega
  have n6:¬op=6:=by omega
  have n7:¬op=7:=by omega
  have n18:¬op=18:=by omega
  have n19:¬op=19:=by omega
  have n20:¬op=20:=by omega
  have n21:¬op=21:=by omega
  have n22:¬op=22:=by omega
  by_cases hn:n=0 <;> simp [jS,iV,iM,ea,em,qHG,lZ,kA,kB,yN,ha,hb,hn,hop.1,hop.2,n1,n2,n3,n4,n5,n6,n7,n18,n19,n20,n21,n22,fE]
 ·have ea:dO 18=2:=rfl;have em:bH 18=2:=rfl;by_cases hn:n=0 <;> simp [jS,iV,iM,ea,em,qHG,lZ,kA,kB,yN,ha,hb,hn,fE]
 ·have ea:dO 19=2:=rfl;have em:bH 19=2:=rfl;by_cases hn:n=0 <;> simp [jS,iV,iM,ea,em,qHG,lZ,kA,kB,yN,ha,hb,hn,fE]
 ·have ea:dO 20=2:=rfl;have em:bH 20=2:=rfl;by_cases hn:n=0 <;> simp [jS,iV,iM,ea,em,qHG,lZ,kA,kB,ha,hb,hn,fE]
 ·have ea:dO 21=2:=rfl;have em:bH 21=2:=rfl;by_cases hn:n=0 <;> simp [jS,iV,iM,ea,em,qHG,lZ,kA,kB,ha,hb,hn,fE]
 ·have ea:dO 22=2:=rfl;have em:bH 22=2:=rfl;by_cases hn:n=0 <;> simp [jS,iV,iM,ea,em,qHG,lZ,kA,kB,ha,hb,hn,fE]
theorem yO {k:Int}(h:isK k=true):isS k=true:=by
 simp [isK,isS] at h ⊢; omega
theorem yYE {nv:Nat}{es:List Xp}{i:Nat}{x:Xp}(h:iV nv es i x=true):isS x.kind=true:=by
 simp only [iV,aC] at h;obtain ⟨_,h⟩:=h;have h7:∀{k:Int},k=7->isS k=true:=by rintro k rfl; rfl
 have h6:∀{k:Int},k=6->isS k=true:=by rintro k rfl; rfl
 split at h
 ·unfold qVZ at h;split at h
  ·simp at h; exact h7 h.1.1
  ·simp at h;rcases h with h | h
   ·exact h7 h.1
   ·exact yO h.1
 split at h
 ·simp at h;obtain ⟨_,h⟩:=h;unfold qHJ at h;split at h
  ·simp at h; exact h.1
  split at h
  ·simp at h; exact yO h.1
  split at h
  ·simp at h; exact h6 h
  ·simp at h; exact yO h.1
 ·simp at h;obtain ⟨_,h⟩:=h;unfold qHG at h;split at h
  ·simp at h; exact h6 h.1.1
  split at h
  ·simp at h; exact h7 h.1.1
  split at h
  ·simp at h; exact h6 h.1.1
  ·simp at h; exact yO h.1.1
def qU (nv:Nat)(es:List Xp)(n:Nat):Bool:=(List.range n).all fun i=>match es[i]? with | some x=>iV nv es i x | none=>true
def wR (nv:Nat)(es:List Xp)(n:Nat):Bool:=(List.range n).all fun i=>match es[i]? with | some x=>jS nv es i x | none=>true
theorem qXG (nv:Nat)(es:List Xp){n:Nat}(h:n < es.length):qU nv es (n+1)=(qU nv es n && iV nv es n es[n]):=by
 unfold qU;rw [List.range_succ,List.all_append];simp [List.getElem?_eq_getElem h]
theorem qVK (nv:Nat)(es:List Xp){n:Nat}(h:n < es.length):wR nv es (n+1)=(wR nv es n && jS nv es n es[n]):=by
 unfold wR;rw [List.range_succ,List.all_append];simp [List.getElem?_eq_getElem h]
theorem qVJ (nv:Nat)(es:List Xp):∀(n:Nat),n<=es.length->qU nv es n=true->∀j:Nat,j < n->isS (bF es j)=true
 | 0,_,_,j,hj=>by omega
 | n+1,hn,h,j,hj=>by
  rw [qXG nv es (by omega),aC] at h;by_cases e:j=n
  ·subst e;have:=yYE h.2;have hk:bF es (j:Int)=es[j].kind:=by
    unfold bF;rw [aB,List.getElem?_eq_getElem (by omega)]; rfl
   rw [hk]; exact this
  ·exact qVJ nv es n (by omega) h.1 j (by omega)
theorem wDB (nv:Nat)(es:List Xp):∀(n:Nat),n<=es.length->wR nv es n=qU nv es n
 | 0,_=>rfl
 | n+1,hn=>by
  rw [qXG nv es (by omega),qVK nv es (by omega),wDB nv es n (by omega)];cases h:qU nv es n
  ·rfl
  ·rw [bQ,bQ];exact xXE (qVJ nv es n (by omega) h)
def xP (es:List Xp)(e kind:Int):Bool:=decide (0<=e) && decide (e < es.length) && decide (bF es e=kind)
def dZ (s:Sm):Int:=if s.op=1\/s.op=2\/s.op=3 then s.to else 0
def yQ (s:Sm):Int:=if s.op=1\/s.op=2 then s.kind else 0
def iH (s:Sm):Int:=if s.op=1\/s.op=4\/s.op=5\/s.op=6 then s.e else 0
def iI (s:Sm):Int:=if s.op=3 then s.n else 0
def jK (s:Sm):Bool:=
 !((decide (0 < s.els.length) && !decide (s.op=5)) || (decide (0 < s.body.length) && !decide (s.op=5) && !decide (s.op=6))) &&
 (decide (s.to=dZ s) && decide (s.kind=yQ s) && decide (s.e=iH s) && decide (s.n=iI s))
def tY (nv nn:Nat)(es:List Xp)(s:Sm):Bool:=
 jK s && (if s.op=1 then xP es s.to 7 && isS s.kind && xP es s.e s.kind else if s.op=2 then xP es s.to 7 && isK s.kind
  else if s.op=3 then xP es s.to 7 && decide ((nv:Int) < s.n) && decide (s.n<=nv+nn) else if s.op=4 then xP es s.e 7 else if s.op=5\/s.op=6 then xP es s.e 6 else decide (s.op=7))
def qYE (es:List Xp)(e kind:Int):Bool:=uX e ((es.length:Int) - 1) && decide (bF es e=kind)
def pF (nv nn:Nat)(es:List Xp)(s:Sm):Bool:=
 if 1<=s.op/\s.op<=7 then
  (if s.op=1 then qYE es s.to 7 && isS s.kind && qYE es s.e s.kind else if s.op=2 then qYE es s.to 7 && decide (0 < wK s.kind)
   else if s.op=3 then qYE es s.to 7 && (decide ((nv:Int)+1<=s.n) && decide (s.n<=nv+nn)) else if s.op=4 then qYE es s.e 7 else if s.op=5\/s.op=6 then qYE es s.e 6 else true) &&
  (decide (s.to=dZ s) && decide (s.kind=yQ s) && decide (s.e=iH s) && decide (s.n=iI s) &&
   decide (s.body=if s.op=5\/s.op=6 then s.body else []) && decide (s.els=if s.op=5 then s.els else []))
 else false
theorem vXK (es:List Xp)(e kind:Int):qYE es e kind=xP es e kind:=by
 unfold qYE xP uX
 congr 2
 exact decide_eq_decide.2 (by omega)
theorem xXF (nv nn:Nat)(es:List Xp)(s:Sm):pF nv nn es s=tY nv nn es s:=by
 obtain ⟨op,to,kind,e,n,ba,bc,body,ea,ec,els⟩:=s;by_cases hop:1<=op/\op<=7;rotate_left
 ·have h1:¬op=1:=by omega
  have h2:¬op=2:=by omega
  have h3:¬op=3:=by omega
  have h4:¬op=4:=by omega
  have h5:¬op=5:=by omega
  have h6:¬op=6:=by omega
  have h7:¬op=7:=by omega
  simp only [pF,hop,if_false,tY,h1,h2,h3,h4,h5,h6,h7];simp
 have hc:op=1\/op=2\/op=3\/op=4\/op=5\/op=6\/op=7:=by omega
 have e3:decide ((nv:Int)+1<=n)=decide ((nv:Int) < n):=decide_eq_decide.2 (by omega);cases els <;> cases body
 all_goals (rcases hc with rfl | rfl | rfl | rfl | rfl | rfl | rfl <;> simp [pF,tY,jK,dZ,yQ,iH,iI,vXK,yN,e3])
 all_goals (simp only [Bool.and_comm,Bool.and_left_comm,fE])
def Xp.cs (s:Xp):List Value:=[.int .i64 s.op,.int .i64 s.kind,.int .i64 s.n,.int .i64 s.a,.int .i64 s.b]
def Xp.val (s:Xp):Value:=.agg s.cs.toArray
@[go_sem] theorem Xp.oW {s:Xp}:Value.agg s.cs.toArray=s.val:=rfl
@[go_sem] theorem Xp.jM {s:Xp}:Value.cells.match_1 (fun _=>Array Value) s.val (fun cs=>cs) (fun u=>#[u])=s.cs.toArray:=rfl
@[go_sem] theorem Xp.gI {s:Xp}:s.val.cells=s.cs.toArray:=rfl
@[go_sem] theorem Xp.iY {s:Xp}:s.cs.toArray.size=5:=rfl
@[go_sem] theorem Xp.lU {s:Xp}:s.cs.length=5:=rfl
@[go_sem] theorem Xp.yD {s:Xp}:wQ s.cs=True:=by
 apply eq_true;intro u hu;simp only [Xp.cs,aQ,aV,or_false] at hu;rcases hu with rfl | rfl | rfl | rfl | rfl <;> rfl
@[go_sem] theorem Xp.fK {s:Xp}:s.cs.take 5=s.cs:=rfl
@[go_sem] theorem Xp.take0 {s:Xp}:s.cs.take 0=[]:=rfl
@[go_sem] theorem Xp.jC {s:Xp}:s.cs.drop 5=[]:=rfl
@[go_sem] theorem Xp.ld {s:Xp}:rd true 5 s.cs 0=some s.val:=rfl
@[go_sem] theorem Xp.xG {s:Xp}:s.cs[0]? = some (.int .i64 s.op):=rfl
@[go_sem] theorem Xp.ld0 {s:Xp}:rd false 1 s.cs 0=some (.int .i64 s.op):=rfl
@[go_sem] theorem Xp.xH {s:Xp}:s.cs[1]? = some (.int .i64 s.kind):=rfl
@[go_sem] theorem Xp.ld1 {s:Xp}:rd false 1 s.cs 1=some (.int .i64 s.kind):=rfl
@[go_sem] theorem Xp.qWQ {s:Xp}:s.cs[2]? = some (.int .i64 s.n):=rfl
@[go_sem] theorem Xp.ld2 {s:Xp}:rd false 1 s.cs 2=some (.int .i64 s.n):=rfl
@[go_sem] theorem Xp.qZV {s:Xp}:s.cs[3]? = some (.int .i64 s.a):=rfl
@[go_sem] theorem Xp.ld3 {s:Xp}:rd false 1 s.cs 3=some (.int .i64 s.a):=rfl
@[go_sem] theorem Xp.get4 {s:Xp}:s.cs[4]? = some (.int .i64 s.b):=rfl
@[go_sem] theorem Xp.ld4 {s:Xp}:rd false 1 s.cs 4=some (.int .i64 s.b):=rfl
theorem Xp.row {cs:List Value}{p:Nat}{s:Xp}(h:(cs.drop p).take 5=s.cs):cs[p]? = some (.int .i64 s.op)/\cs[p+1]? = some (.int .i64 s.kind)/\cs[p+2]? = some (.int .i64 s.n)/\cs[p+3]? = some (.int .i64 s.a)/\cs[p+4]? = some (.int .i64 s.b):=by
 have key:∀j,j < 5->cs[p+j]? = s.cs[j]?:=fun j hj=>by
  rw [<-h,List.getElem?_take_of_lt hj,List.getElem?_drop]
 exact ⟨key 0 (by decide),key 1 (by decide),key 2 (by decide),key 3 (by decide),key 4 (by decide)⟩
@[go_sem] theorem vHW {a b c d e:Value}:[a,b,c,d,e].drop 5=[]:=rfl
def Sm.cs (s:Sm):List Value:=[.int .i64 s.op,.int .i64 s.to,.int .i64 s.kind,.int .i64 s.e,.int .i64 s.n,.slice s.ba s.body.length s.bc,.slice s.ea s.els.length s.ec]
def Sm.val (s:Sm):Value:=.agg s.cs.toArray
@[go_sem] theorem Sm.oW {s:Sm}:Value.agg s.cs.toArray=s.val:=rfl
@[go_sem] theorem Sm.jM {s:Sm}:Value.cells.match_1 (fun _=>Array Value) s.val (fun cs=>cs) (fun u=>#[u])=s.cs.toArray:=rfl
@[go_sem] theorem Sm.gI {s:Sm}:s.val.cells=s.cs.toArray:=rfl
@[go_sem] theorem Sm.iY {s:Sm}:s.cs.toArray.size=7:=rfl
@[go_sem] theorem Sm.lU {s:Sm}:s.cs.length=7:=rfl
@[go_sem] theorem Sm.yD {s:Sm}:wQ s.cs=True:=by
 apply eq_true;intro u hu;simp only [Sm.cs,aQ,aV,or_false] at hu;rcases hu with rfl | rfl | rfl | rfl | rfl | rfl | rfl <;> rfl
theorem Sm.len (s:Sm):s.cs.length=7:=rfl
@[go_sem] theorem Sm.fK {s:Sm}:s.cs.take 7=s.cs:=rfl
@[go_sem] theorem Sm.take0 {s:Sm}:s.cs.take 0=[]:=rfl
@[go_sem] theorem Sm.jC {s:Sm}:s.cs.drop 7=[]:=rfl
@[go_sem] theorem Sm.ld {s:Sm}:rd true 7 s.cs 0=some s.val:=rfl
@[go_sem] theorem Sm.xG {s:Sm}:s.cs[0]? = some (.int .i64 s.op):=rfl
@[go_sem] theorem Sm.ld0 {s:Sm}:rd false 1 s.cs 0=some (.int .i64 s.op):=rfl
@[go_sem] theorem Sm.xH {s:Sm}:s.cs[1]? = some (.int .i64 s.to):=rfl
@[go_sem] theorem Sm.ld1 {s:Sm}:rd false 1 s.cs 1=some (.int .i64 s.to):=rfl
@[go_sem] theorem Sm.qWQ {s:Sm}:s.cs[2]? = some (.int .i64 s.kind):=rfl
@[go_sem] theorem Sm.ld2 {s:Sm}:rd false 1 s.cs 2=some (.int .i64 s.kind):=rfl
@[go_sem] theorem Sm.qZV {s:Sm}:s.cs[3]? = some (.int .i64 s.e):=rfl
@[go_sem] theorem Sm.ld3 {s:Sm}:rd false 1 s.cs 3=some (.int .i64 s.e):=rfl
@[go_sem] theorem Sm.get4 {s:Sm}:s.cs[4]? = some (.int .i64 s.n):=rfl
@[go_sem] theorem Sm.ld4 {s:Sm}:rd false 1 s.cs 4=some (.int .i64 s.n):=rfl
@[go_sem] theorem Sm.yXY {s:Sm}:s.cs[5]? = some (.slice s.ba s.body.length s.bc):=rfl
@[go_sem] theorem Sm.ld5 {s:Sm}:rd false 1 s.cs 5=some (.slice s.ba s.body.length s.bc):=rfl
@[go_sem] theorem Sm.yYF {s:Sm}:s.cs[6]? = some (.slice s.ea s.els.length s.ec):=rfl
@[go_sem] theorem Sm.ld6 {s:Sm}:rd false 1 s.cs 6=some (.slice s.ea s.els.length s.ec):=rfl
theorem Sm.row {cs:List Value}{p:Nat}{s:Sm}(h:(cs.drop p).take 7=s.cs):cs[p]? = some (.int .i64 s.op)/\cs[p+1]? = some (.int .i64 s.to)/\cs[p+2]? = some (.int .i64 s.kind)/\cs[p+3]? = some (.int .i64 s.e)/\cs[p+4]? = some (.int .i64 s.n)/\cs[p+5]? = some (.slice s.ba s.body.length s.bc)/\cs[p+6]? = some (.slice s.ea s.els.length s.ec):=by
 have key:∀j,j < 7->cs[p+j]? = s.cs[j]?:=fun j hj=>by
  rw [<-h,List.getElem?_take_of_lt hj,List.getElem?_drop]
 exact ⟨key 0 (by decide),key 1 (by decide),key 2 (by decide),key 3 (by decide),key 4 (by decide),key 5 (by decide),key 6 (by decide)⟩
structure Pg where
 big:Bool
 ptr:Int
 vA:Option Addr
 vC:Nat
 vars:List Int
 nA:Option Addr
 nC:Nat
 news:List Int
 eA:Option Addr
 eC:Nat
 exprs:List Xp
 sA:Option Addr
 sC:Nat
 stmts:List Sm
 mA:Option Addr
 mC:Nat
 main:List Int
def Pg.cs (s:Pg):List Value:=[.bool s.big,.int .i64 s.ptr,.slice s.vA s.vars.length s.vC,.slice s.nA s.news.length s.nC,.slice s.eA s.exprs.length s.eC,.slice s.sA s.stmts.length s.sC,.slice s.mA s.main.length s.mC]
def Pg.val (s:Pg):Value:=.agg s.cs.toArray
@[go_sem] theorem Pg.oW {s:Pg}:Value.agg s.cs.toArray=s.val:=rfl
@[go_sem] theorem Pg.jM {s:Pg}:Value.cells.match_1 (fun _=>Array Value) s.val (fun cs=>cs) (fun u=>#[u])=s.cs.toArray:=rfl
@[go_sem] theorem Pg.gI {s:Pg}:s.val.cells=s.cs.toArray:=rfl
@[go_sem] theorem Pg.iY {s:Pg}:s.cs.toArray.size=7:=rfl
@[go_sem] theorem Pg.lU {s:Pg}:s.cs.length=7:=rfl
@[go_sem] theorem Pg.yD {s:Pg}:wQ s.cs=True:=by
 apply eq_true;intro u hu;simp only [Pg.cs,aQ,aV,or_false] at hu;rcases hu with rfl | rfl | rfl | rfl | rfl | rfl | rfl <;> rfl
@[go_sem] theorem Pg.fK {s:Pg}:s.cs.take 7=s.cs:=rfl
@[go_sem] theorem Pg.take0 {s:Pg}:s.cs.take 0=[]:=rfl
@[go_sem] theorem Pg.jC {s:Pg}:s.cs.drop 7=[]:=rfl
@[go_sem] theorem Pg.ld {s:Pg}:rd true 7 s.cs 0=some s.val:=rfl
@[go_sem] theorem Pg.xG {s:Pg}:s.cs[0]? = some (.bool s.big):=rfl
@[go_sem] theorem Pg.ld0 {s:Pg}:rd false 1 s.cs 0=some (.bool s.big):=rfl
@[go_sem] theorem Pg.xH {s:Pg}:s.cs[1]? = some (.int .i64 s.ptr):=rfl
@[go_sem] theorem Pg.ld1 {s:Pg}:rd false 1 s.cs 1=some (.int .i64 s.ptr):=rfl
@[go_sem] theorem Pg.qWQ {s:Pg}:s.cs[2]? = some (.slice s.vA s.vars.length s.vC):=rfl
@[go_sem] theorem Pg.ld2 {s:Pg}:rd false 1 s.cs 2=some (.slice s.vA s.vars.length s.vC):=rfl
@[go_sem] theorem Pg.qZV {s:Pg}:s.cs[3]? = some (.slice s.nA s.news.length s.nC):=rfl
@[go_sem] theorem Pg.ld3 {s:Pg}:rd false 1 s.cs 3=some (.slice s.nA s.news.length s.nC):=rfl
@[go_sem] theorem Pg.get4 {s:Pg}:s.cs[4]? = some (.slice s.eA s.exprs.length s.eC):=rfl
@[go_sem] theorem Pg.ld4 {s:Pg}:rd false 1 s.cs 4=some (.slice s.eA s.exprs.length s.eC):=rfl
@[go_sem] theorem Pg.yXY {s:Pg}:s.cs[5]? = some (.slice s.sA s.stmts.length s.sC):=rfl
@[go_sem] theorem Pg.ld5 {s:Pg}:rd false 1 s.cs 5=some (.slice s.sA s.stmts.length s.sC):=rfl
@[go_sem] theorem Pg.yYF {s:Pg}:s.cs[6]? = some (.slice s.mA s.main.length s.mC):=rfl
@[go_sem] theorem Pg.ld6 {s:Pg}:rd false 1 s.cs 6=some (.slice s.mA s.main.length s.mC):=rfl
@[go_sem] theorem Pg.ldabi {s:Pg}:rd true 2 s.cs 0=some (.agg #[.bool s.big,.int .i64 s.ptr]):=rfl
abbrev lG (F:Fz) (M:Hp) (a:Option Addr) (c:Nat) (l:List Int):Prop:=dF 1 fV F M (.slice a l.length c) l
def Sm.rd (F:Fz)(s:Sm):Prop:=∀M,Old F M->lG F M s.ba s.bc s.body/\lG F M s.ea s.ec s.els
structure Pg.rd (F:Fz)(p:Pg):Prop where
 vars:∀M,Old F M->lG F M p.vA p.vC p.vars
 news:∀M,Old F M->lG F M p.nA p.nC p.news
 exprs:∀M,Old F M->dF 5 Xp.cs F M (.slice p.eA p.exprs.length p.eC) p.exprs
 stmts:∀M,Old F M->dF 7 Sm.cs F M (.slice p.sA p.stmts.length p.sC) p.stmts
 main:∀M,Old F M->lG F M p.mA p.mC p.main
 bodies:∀s∈p.stmts,s.rd F
 zero:(p.vA=none->p.vC=0)/\(p.nA=none->p.nC=0)/\∀s∈p.stmts,(s.ba=none->s.bc=0)/\(s.ea=none->s.ec=0)
 few:p.vars.length<=2500/\p.news.length<=2500/\p.exprs.length<=2500/\p.stmts.length<=2500/\p.main.length<=2500/\∀s∈p.stmts,s.body.length<=2500/\s.els.length<=2500
theorem dF.at {α:Type}{sz:Nat}{f:α->List Value}{F:Fz}{M:Hp}{a:Option Addr}{c:Nat}{l:List α}(h:dF sz f F M (.slice a l.length c) l){i:Nat}(hi:i < l.length) :
  ∃b o cs,a=some ⟨b,o,none⟩/\blk F M b=some cs/\o+i * sz+sz<=cs.length/\(cs.drop (o+i * sz)).take sz=f l[i]:=by
 obtain ⟨_,ad,cap,_,e,h⟩:=h;cases e;rcases h with h | ⟨b,o,cs,rfl,hb,hc⟩
 ·rw [h] at hi; simp at hi
 ·exact ⟨b,o,cs,rfl,hb,(hc i hi).1,(hc i hi).2⟩
abbrev Lz:=Option Addr × Nat × List Int
abbrev slC (x:Lz):List Value:=[.slice x.1 x.2.2.length x.2.1]
theorem qZC (x:Lz):(slC x).length=1:=rfl
theorem gW {F:Fz}{M:Hp}{a:Option Addr}{c:Nat}{l:List Int}(h:lG F M a c l){i:Nat}(hi:i < l.length) :
  ∃b o cs,a=some ⟨b,o,none⟩/\blk F M b=some cs/\cs[o+i * 1]? = some (.int .i64 l[i]):=by
 obtain ⟨b,o,cs,h1,h2,_,h4⟩:=dF.at h hi;exact ⟨b,o,cs,h1,h2,one_row h4⟩
end Go.Ax
namespace Go.Proofs.Tryz.K
open Go Go.Ax Go.Proofs.Tryz.S
variable (F:Fz) (M:Hp)
theorem k93 (op:Int):aI prog 93 [.int .i64 op] F M (Same F M (.int .i64 (dO op))):=by
 refine qZ hm func93 e93 (aA rfl) ?_;unfold dO;by_cases h1:op=1
 ·subst h1;simp only [c93,go_sem];exact qW ⟨by simp,rfl,rfl⟩
 by_cases h2:op=2
 ·subst h2;simp only [c93,go_sem];exact qW ⟨by simp,rfl,rfl⟩
 by_cases h3:3<=op
 ·by_cases h7:op<=7
  ·simp only [c93,go_sem,h1,h2,h3,h7];exact qW ⟨by simp,rfl,rfl⟩
  ·by_cases h22:op<=22
   ·have h8:8<=op:=by omega
    simp only [c93,go_sem,h1,h2,h3,h7,h8,h22];exact qW ⟨by simp,rfl,rfl⟩
   ·have h8:8<=op:=by omega
    simp only [c93,go_sem,h1,h2,h3,h7,h8,h22];exact qW ⟨by simp,rfl,rfl⟩
 ·have h8:¬8<=op:=by omega
  simp only [c93,go_sem,h1,h2,h3,h8];exact qW ⟨by simp,rfl,rfl⟩
theorem yVW {p:Pg}(hp:p.rd F)(hold:Old F M){i:Nat}(hi:i < p.exprs.length) :
  ∃b o cs,p.eA=some ⟨b,o,none⟩/\blk F M b=some cs/\o+i * 5+5<=cs.length/\(cs.drop (o+i * 5)).take 5=p.exprs[i].cs/\cs[o+i * 5+1]? = some (.int .i64 p.exprs[i].kind):=by
 obtain ⟨b,o,cs,ea,hb,d1,d2⟩:=dF.at (hp.exprs M hold) hi;exact ⟨b,o,cs,ea,hb,d1,d2,(Xp.row d2).2.1⟩
theorem xZQ (p:Pg)(e:Int)(hp:p.rd F)(hold:Old F M)(h0:0<=e)(h1:e < p.exprs.length):aI prog 137 [p.val,.int .i64 e] F M (Same F M (.int .i64 (bF p.exprs e))):=by
 refine qZ hm func137 e137 (aA rfl) ?_;obtain ⟨i,rfl⟩:=aG h0;have hi:i < p.exprs.length:=by omega
 simp only [zQY,go_sem];intro r hF hM;obtain ⟨b,o,cs,ea,hb,d1,d2,d3⟩:=yVW F (M.upd r ⟨p.cs,135,7⟩) hp (hold.upd hF) hi;have hk:bF p.exprs i=p.exprs[i].kind:=by
  unfold bF;rw [aB,List.getElem?_eq_getElem hi]; rfl
 simp only [go_sem,ea,h0,h1,aB,hb,d3];exact qH hM (qW ⟨by rw [hk],rfl,rfl⟩)
theorem vXG (k:Int)(p3:Nat)(e3:nH)(i:Int)(h3:M p3=some e3)(c3:e3.cells=[.int .i64 i]):aI prog 134 [.int .i64 k,.pointer (some ⟨p3,0,none⟩)] F M (Same F M (.bool (nY k i))):=by
 refine qZ hm func134 kXB (aA rfl) ?_;have b3:=qG (F:=F) h3;rw [c3] at b3;by_cases h:0<=k
 ·simp only [vQV,go_sem,h,b3];exact qW ⟨by simp [nY,h],rfl,rfl⟩
 ·simp only [vQV,go_sem,h];exact qW ⟨by simp [nY,h],rfl,rfl⟩
theorem k92 (p:Pg)(i:Nat)(hp:p.rd F)(hold:Old F M)(hi:i < p.exprs.length):aI prog 92 [p.val,.int .i64 i] F M (Same F M (.bool (iM p.exprs[i] i))):=by
 refine qZ hm func92 e92 (aA rfl) ?_;have hi0:(0:Int)<=i:=by omega
 have hil:(i:Int) < p.exprs.length:=by omega
 simp only [c92,go_sem];intro r hF hM;simp only [go_sem];intro r3 hF3 dN;have g3:=yZ dN;obtain ⟨b,o,cs,ea,hb,d1,d2,d3⟩:=yVW F ((M.upd r ⟨p.cs,135,7⟩).upd r3 ⟨[.int .i64 i],3,1⟩) hp ((hold.upd hF).upd hF3) hi;generalize p.exprs[i]=x at *;simp only [go_sem,g3,ea,hi0,hil,aB,hb,d1,d2];intro r5 lM gU;have g5:=yZ gU;have g52:=yZ g5.2.2;have kp:∀e,Keep M (((M.upd r ⟨p.cs,135,7⟩).upd r3 ⟨[.int .i64 i],3,1⟩).upd r5 e):=fun e=>(((Keep.refl M).new hM).new g3.2.2).new g52.2.2
 have f3:∀e,(((M.upd r ⟨p.cs,135,7⟩).upd r3 ⟨[.int .i64 i],3,1⟩).upd r5 e) r3=some ⟨[.int .i64 i],3,1⟩:=fun e=>by
  rw [Hp.qK g5.2.1]; exact Hp.qV _ _ _
 simp only [go_sem];refine qQ (k93 _ _ x.op) ?_;unfold iM;by_cases a0:dO x.op=0
 ·by_cases ha:x.a=0
  ·simp only [go_sem,a0,ha];exact qX (kp _) ⟨by simp [],rfl,rfl⟩
  ·simp only [go_sem,a0,ha];exact qX (kp _) ⟨by simp [],rfl,rfl⟩
 by_cases a1:dO x.op=1
 ·simp only [go_sem,a1];refine qQ (vXG _ _ x.a r3 _ i (f3 _) rfl) ?_;cases hq:nY x.a i
  ·simp only [go_sem];exact qX (kp _) ⟨by simp [],rfl,rfl⟩
  ·simp only [go_sem];exact qX (kp _) ⟨by simp [],rfl,rfl⟩
 by_cases a2:dO x.op=2
 ·simp only [go_sem,a2];refine qQ (vXG _ _ x.a r3 _ i (f3 _) rfl) ?_;cases hq:nY x.a i
  ·simp only [go_sem];exact qX (kp _) ⟨by simp [],rfl,rfl⟩
  ·simp only [go_sem];refine qQ (vXG _ _ x.b r3 _ i (f3 _) rfl) ?_;simp only [go_sem];exact qX (kp _) ⟨by simp [],rfl,rfl⟩
 ·simp only [go_sem,a0,a1,a2];exact qX (kp _) ⟨by simp [],rfl,rfl⟩
theorem k94 (p:Pg)(x:Xp):aI prog 94 [p.val,x.val] F M (Same F M (.bool (qVZ p.vars.length x))):=by
 refine qZ hm func94 e94 (aA rfl) ?_;simp only [c94,go_sem];intro r hF hM;simp only [go_sem];intro r3 hF3 dN;have g3:=yZ dN;have kp:∀e e',Keep M ((M.upd r e).upd r3 e'):=fun e e'=>((Keep.refl M).new hM).new g3.2.2
 unfold qVZ;by_cases h2:x.op=2
 ·by_cases h7:x.kind=7
  ·by_cases h1:1<=x.n
   ·simp only [go_sem,g3,h2,h7,h1];exact qX (kp _ _) ⟨by simp [],rfl,rfl⟩
   ·simp only [go_sem,h2,h7,h1];exact qX (kp _ _) ⟨by simp [],rfl,rfl⟩
  ·simp only [go_sem,h2,h7];exact qX (kp _ _) ⟨by simp [],rfl,rfl⟩
 ·have tail:∀(q:Bool),q=(decide (x.kind=7) && decide (x.n=0))->True:=fun _ _=>trivial
  by_cases h7:x.kind=7
  ·by_cases hn:x.n=0
   ·simp only [go_sem,h2,h7,hn];exact qX (kp _ _) ⟨by simp,rfl,rfl⟩
   ·simp only [go_sem,h2,h7,hn];refine qQ (qYD _ _ 7) ?_;have e7:isK 7=false:=rfl;rw [e7];simp only [go_sem];exact qX (kp _ _) ⟨by simp [],rfl,rfl⟩
  ·simp only [go_sem,h2,h7];refine qQ (qYD _ _ x.kind) ?_;cases hk:isK x.kind
   ·simp only [go_sem];exact qX (kp _ _) ⟨by simp,rfl,rfl⟩
   ·have hw:=jJ (jQ x.kind);simp only [go_sem];refine qQ (qHZ _ _ x.kind hk) ?_;simp only [go_sem];refine qQ (yYG _ _ x.n (iF x.kind) hw.1 hw.2) ?_;simp only [go_sem];exact qX (kp _ _) ⟨by simp,rfl,rfl⟩
theorem k95 (p:Pg)(x:Xp)(hp:p.rd F)(hold:Old F M)(h0:0<=x.a)(h1:x.a < p.exprs.length):aI prog 95 [p.val,x.val] F M (Same F M (.bool (qHJ p.exprs x))):=by
 refine qZ hm func95 e95 (aA rfl) ?_;simp only [c95,go_sem];intro r hF hM;simp only [go_sem];intro r3 hF3 dN;have g3:=yZ dN;have kp:∀e e',Keep M ((M.upd r e).upd r3 e'):=fun e e'=>((Keep.refl M).new hM).new g3.2.2
 have oo:∀e e',Old F ((M.upd r e).upd r3 e'):=fun e e'=>(hold.upd hF).upd hF3
 simp only [go_sem,g3];refine qQ (xZQ _ _ p x.a hp (oo _ _) h0 h1) ?_;unfold qHJ;by_cases q3:x.op=3
 ·simp only [go_sem,q3];refine qQ (vWF _ _ x.kind) ?_;cases hk:isS x.kind
  ·simp only [go_sem];exact qX (kp _ _) ⟨by simp,rfl,rfl⟩
  ·simp only [go_sem];exact qX (kp _ _) ⟨by simp,rfl,rfl⟩
 by_cases q4:x.op=4
 ·simp only [go_sem,q4];refine qQ (qYD _ _ x.kind) ?_;cases hk:isK x.kind
  ·simp only [go_sem];exact qX (kp _ _) ⟨by simp,rfl,rfl⟩
  ·simp only [go_sem];refine qQ (qYD _ _ (bF p.exprs x.a)) ?_;simp only [go_sem];exact qX (kp _ _) ⟨by simp,rfl,rfl⟩
 by_cases q7:x.op=7
 ·simp only [go_sem,q7];exact qX (kp _ _) ⟨by simp,rfl,rfl⟩
 ·simp only [go_sem,q3,q4,q7];refine qQ (qYD _ _ x.kind) ?_;cases hk:isK x.kind
  ·simp only [go_sem];exact qX (kp _ _) ⟨by simp [],rfl,rfl⟩
  ·simp only [go_sem];exact qX (kp _ _) ⟨by simp [],rfl,rfl⟩
theorem k96 (p:Pg)(x:Xp)(hp:p.rd F)(hold:Old F M)(h0:0<=x.a)(h1:x.a < p.exprs.length)(h2:0<=x.b)(h3:x.b < p.exprs.length):aI prog 96 [p.val,x.val] F M (Same F M (.bool (qHG p.exprs x))):=by
 refine qZ hm func96 e96 (aA rfl) ?_;simp only [c96,go_sem];intro r hF hM;simp only [go_sem];intro r3 hF3 dN;have g3:=yZ dN;have kp:∀e e',Keep M ((M.upd r e).upd r3 e'):=fun e e'=>((Keep.refl M).new hM).new g3.2.2
 have oo:∀e e',Old F ((M.upd r e).upd r3 e'):=fun e e'=>(hold.upd hF).upd hF3
 simp only [go_sem,g3];refine qQ (xZQ _ _ p x.a hp (oo _ _) h0 h1) ?_;simp only [go_sem];refine qQ (xZQ _ _ p x.b hp (oo _ _) h2 h3) ?_;unfold qHG;generalize bF p.exprs x.a=ka;generalize bF p.exprs x.b=kb;by_cases q18:x.op=18\/x.op=19
 ·have go:∀(fin:x.kind=6\/¬x.kind=6),True:=fun _=>trivial
  by_cases q6:x.kind=6
  ·rcases q18 with q | q
   ·simp only [go_sem,q,q6];refine qQ (qYD _ _ ka) ?_;cases hk:isK ka
    ·simp only [go_sem];exact qX (kp _ _) ⟨by simp [],rfl,rfl⟩
    ·simp only [go_sem];exact qX (kp _ _) ⟨by simp [],rfl,rfl⟩
   ·simp only [go_sem,q,q6];refine qQ (qYD _ _ ka) ?_;cases hk:isK ka
    ·simp only [go_sem];exact qX (kp _ _) ⟨by simp [],rfl,rfl⟩
    ·simp only [go_sem];exact qX (kp _ _) ⟨by simp [],rfl,rfl⟩
  ·rcases q18 with q | q
   ·simp only [go_sem,q,q6];exact qX (kp _ _) ⟨by simp [],rfl,rfl⟩
   ·simp only [go_sem,q,q6];exact qX (kp _ _) ⟨by simp [],rfl,rfl⟩
 have n18:¬x.op=18:=fun h=>q18 (.inl h)
 have n19:¬x.op=19:=fun h=>q18 (.inr h)
 by_cases q20:x.op=20
 ·by_cases q7:x.kind=7
  ·by_cases qa:ka=7
   ·simp only [go_sem,q20,q7,qa];exact qX (kp _ _) ⟨by simp [],rfl,rfl⟩
   ·simp only [go_sem,q20,q7,qa];exact qX (kp _ _) ⟨by simp [],rfl,rfl⟩
  ·simp only [go_sem,q20,q7];exact qX (kp _ _) ⟨by simp [],rfl,rfl⟩
 by_cases q21:x.op=21\/x.op=22
 ·by_cases q6:x.kind=6
  ·by_cases qa:ka=7
   ·rcases q21 with q | q
    ·simp only [go_sem,q,q6,qa];exact qX (kp _ _) ⟨by simp [],rfl,rfl⟩
    ·simp only [go_sem,q,q6,qa];exact qX (kp _ _) ⟨by simp [],rfl,rfl⟩
   ·rcases q21 with q | q
    ·simp only [go_sem,q,q6,qa];exact qX (kp _ _) ⟨by simp [],rfl,rfl⟩
    ·simp only [go_sem,q,q6,qa];exact qX (kp _ _) ⟨by simp [],rfl,rfl⟩
  ·rcases q21 with q | q
   ·simp only [go_sem,q,q6];exact qX (kp _ _) ⟨by simp [],rfl,rfl⟩
   ·simp only [go_sem,q,q6];exact qX (kp _ _) ⟨by simp [],rfl,rfl⟩
 have n21:¬x.op=21:=fun h=>q21 (.inl h)
 have n22:¬x.op=22:=fun h=>q21 (.inr h)
 simp only [go_sem,n18,n19,q20,n21,n22];refine qQ (qYD _ _ x.kind) ?_;cases hk:isK x.kind
 ·simp only [go_sem];exact qX (kp _ _) ⟨by simp [],rfl,rfl⟩
 ·by_cases qa:ka=x.kind
  ·simp only [go_sem,qa];exact qX (kp _ _) ⟨by simp [],rfl,rfl⟩
  ·simp only [go_sem,qa];exact qX (kp _ _) ⟨by simp [],rfl,rfl⟩
theorem wDE {x:Xp}{i:Int}(h:iM x i=true)(h1:dO x.op=1\/dO x.op=2):0<=x.a/\x.a < i:=by
 unfold iM at h;rcases h1 with e | e
 ·rw [e] at h;simp [nY] at h;exact h.1
 ·rw [e] at h;simp [nY] at h;exact h.1
theorem jJD {x:Xp}{i:Int}(h:iM x i=true)(h1:dO x.op=2):0<=x.b/\x.b < i:=by
 unfold iM at h;rw [h1] at h;simp [nY] at h;exact h.2
theorem wDF (op:Int):dO op=0\/dO op=1\/dO op=2\/dO op = -1:=by
 unfold dO;split
 ·exact .inl rfl
 split
 ·exact .inr (.inl rfl)
 split
 ·exact .inr (.inr (.inl rfl))
 ·exact .inr (.inr (.inr rfl))
theorem k63 (p:Pg)(i:Nat)(hp:p.rd F)(hold:Old F M)(hi:i < p.exprs.length):aI prog 63 [p.val,.int .i64 i] F M (Same F M (.bool (iV p.vars.length p.exprs i p.exprs[i]))):=by
 refine qZ hm func63 e63 (aA rfl) ?_;have hi0:(0:Int)<=i:=by omega
 have hil:(i:Int) < p.exprs.length:=by omega
 simp only [c63,go_sem];intro r hF hM;obtain ⟨b,o,cs,ea,hb,d1,d2,d3⟩:=yVW F (M.upd r ⟨p.cs,135,7⟩) hp (hold.upd hF) hi;have hpl:=fun M hold=>k92 F M p i hp hold hi
 generalize p.exprs[i]=x at *;simp only [go_sem,ea,hi0,hil,aB,hb,d1,d2];intro r5 lM gU;have g5:=yZ gU;have kp:∀e e',Keep M ((M.upd r e).upd r5 e'):=fun e e'=>((Keep.refl M).new hM).new g5.2.2
 have oo:∀e e',Old F ((M.upd r e).upd r5 e'):=fun e e'=>(hold.upd hF).upd lM
 simp only [go_sem,g5];refine qQ (hpl _ (oo _ _)) ?_;unfold iV;cases hq:iM x i
 ·simp only [go_sem];exact qX (kp _ _) ⟨by simp,rfl,rfl⟩
 simp only [go_sem];refine qQ (k93 _ _ x.op) ?_;rcases wDF x.op with a | a | a | a
 ·simp only [go_sem,g5,a];refine qQ (k94 _ _ p x) ?_;simp only [go_sem];exact qX (kp _ _) ⟨by simp,rfl,rfl⟩
 ·have ha:=wDE hq (.inl a);by_cases hn:x.n=0
  ·simp only [go_sem,g5,a,hn];refine qQ (k95 _ _ p x hp (oo _ _) ha.1 (by omega)) ?_;simp only [go_sem];exact qX (kp _ _) ⟨by simp [],rfl,rfl⟩
  ·simp only [go_sem,a,hn];exact qX (kp _ _) ⟨by simp [],rfl,rfl⟩
 ·have ha:=wDE hq (.inr a);have hb:=jJD hq a;by_cases hn:x.n=0
  ·simp only [go_sem,g5,a,hn];refine qQ (k96 _ _ p x hp (oo _ _) ha.1 (by omega) hb.1 (by omega)) ?_;simp only [go_sem];exact qX (kp _ _) ⟨by simp [],rfl,rfl⟩
  ·simp only [go_sem,a,hn];exact qX (kp _ _) ⟨by simp [],rfl,rfl⟩
 ·unfold iM at hq;rw [a] at hq;simp at hq
theorem k99 (p:Pg)(e k:Int)(hp:p.rd F)(hold:Old F M):aI prog 99 [p.val,.int .i64 e,.int .i64 k] F M (Same F M (.bool (xP p.exprs e k))):=by
 refine qZ hm func99 e99 (aA rfl) ?_;simp only [c99,go_sem];intro r hF hM;have oo:∀e,Old F (M.upd r e):=fun e=>hold.upd hF
 unfold xP;by_cases h0:0<=e
 ·by_cases h1:e < p.exprs.length
  ·simp only [go_sem,h0,h1];refine qQ (xZQ _ _ p e hp (oo _) h0 h1) ?_;simp only [go_sem];exact qH hM (qW ⟨by simp [],rfl,rfl⟩)
  ·simp only [go_sem,h0,h1];exact qH hM (qW ⟨by simp [],rfl,rfl⟩)
 ·simp only [go_sem,h0];exact qH hM (qW ⟨by simp [],rfl,rfl⟩)
theorem k61 (big:Bool)(ptr:Int):aI prog 61 [.agg #[.bool big,.int .i64 ptr]] F M (Same F M (.bool (decide (ptr=2) || decide (ptr=4)))):=by
 refine qZ hm func61 e61 (aA rfl) ?_;simp only [c61,go_sem];intro r hF hM;by_cases h2:ptr=2
 ·simp only [go_sem,h2];exact qH hM (qW ⟨by simp,rfl,rfl⟩)
 ·simp only [go_sem,h2];exact qH hM (qW ⟨by simp,rfl,rfl⟩)
def ixN (l:List Int)(p:Int->Bool)(u f:Value)(F0:Fz)(M0:Hp)(m:Nat)(σ:Env)(F:Fz)(M:Hp):Prop:=
 F=F0/\M=M0/\Ax.look σ 0=some u/\Ax.look σ 1=some f/\Ax.look σ 7=some (.int .i64 l.length)/\∃i:Nat,i+m=l.length/\Ax.look σ 8=some (.int .i64 i)/\l.any p=(l.drop i).any p
theorem k91 (ad:Option Addr)(cap:Nat)(l:List Int)(g:Nat)(ca:List Value)(p:Int->Bool)(h:lG F M ad cap l)
  (hp:∀v∈l,aI prog g ([.int .i64 v]++ca) F M (Same F M (.bool (p v)))) :
  aI prog 91 [.slice ad l.length cap,.func (.func g) #[] ca.toArray] F M fun r F' M'=>F'=F/\M'=M/\∃z:Int,r=.int .i64 z/\(0<=z↔l.any p=true):=by
 refine qZ hm func91 e91 (aA rfl) ?_;simp only [c91,go_sem];refine iQ (ixN l p (.slice ad l.length cap) (.func (.func g) #[] ca.toArray) F M) l.length ?_ ?_
 ·exact ⟨rfl,rfl,by simp only [go_sem],by simp only [go_sem],by simp only [go_sem],0,by omega,by simp only [go_sem] <;> rfl,rfl⟩
 rintro m σ F' M' ⟨rfl,rfl,h0,h1,h7,i,hi,h8,ha⟩;by_cases hil:(i:Int) < l.length
 ·have hi0:(0:Int)<=i:=by omega
  have eU:i < l.length:=by omega
  have hle:=h.1;have ei:i64.wrap ((i:Int)+1)=i+1:=dQ (by omega) (by omega);obtain ⟨b,o,cs,rfl,hb,d3⟩:=gW h eU;rw [dH eU,List.any_cons] at ha;have hq:=hp l[i] (aH _);generalize l[i]=v at *;simp only [go_sem,h0,h1,h7,h8,hil,hi0,aB,hb,d3];refine qQ hq ?_;cases hv:p v
  ·rw [hv,Bool.false_or] at ha;simp only [go_sem,h8,ei];exact ⟨m - 1,by omega,rfl,rfl,by simp only [go_sem,h0],by simp only [go_sem,h1],by simp only [go_sem,h7],i+1,by omega,by simp only [go_sem]; rfl,ha⟩
  ·rw [hv,Bool.true_or] at ha;simp only [go_sem];exact qW ⟨rfl,rfl,_,rfl,by simp [ha]⟩
 ·have:l.drop i=[]:=dL (by omega);rw [this] at ha;simp only [go_sem,h7,h8,hil];exact qW ⟨rfl,rfl,_,rfl,by rw [ha]; simp⟩
theorem k62 (ad:Option Addr)(cap:Nat)(l:List Int)(g:Nat)(ca:List Value)(p:Int->Bool)(h:lG F M ad cap l)
  (hp:∀v∈l,aI prog g ([.int .i64 v]++ca) F M (Same F M (.bool (p v)))) :
  aI prog 62 [.slice ad l.length cap,.func (.func g) #[] ca.toArray] F M (Same F M (.bool (l.any p))):=by
 refine qZ hm func62 e62 (aA rfl) ?_;simp only [c62,go_sem];refine wW (k91 F M ad cap l g ca p h hp) ?_;rintro r G M' ⟨hG,rfl,z,rfl,hz⟩;rw [hG];refine ⟨(fun h=>by cases h),?_⟩;simp only [go_sem];have:decide (0<=z)=l.any p:=by
  cases hq:l.any p
  ·rw [hq] at hz; simp at hz; simp; omega
  ·simp [hz.2 hq]
 exact qW ⟨by rw [<-this],rfl,rfl⟩
def ixM (l:List Sm)(p:Sm->Bool)(u f:Value)(F0:Fz)(M0:Hp)(m:Nat)(σ:Env)(F:Fz)(M:Hp):Prop:=
 F=F0/\M=M0/\Ax.look σ 0=some u/\Ax.look σ 1=some f/\Ax.look σ 7=some (.int .i64 l.length)/\∃i:Nat,i+m=l.length/\Ax.look σ 8=some (.int .i64 i)/\l.any p=(l.drop i).any p
theorem k97 (ad:Option Addr)(cap:Nat)(l:List Sm)(g:Nat)(ca:List Value)(p:Sm->Bool)(h:dF 7 Sm.cs F M (.slice ad l.length cap) l)
  (hp:∀v∈l,aI prog g ([v.val]++ca) F M (Same F M (.bool (p v)))) :
  aI prog 97 [.slice ad l.length cap,.func (.func g) #[] ca.toArray] F M fun r F' M'=>F'=F/\M'=M/\∃z:Int,r=.int .i64 z/\(0<=z↔l.any p=true):=by
 refine qZ hm func97 e97 (aA rfl) ?_;simp only [c97,go_sem];refine iQ (ixM l p (.slice ad l.length cap) (.func (.func g) #[] ca.toArray) F M) l.length ?_ ?_
 ·exact ⟨rfl,rfl,by simp only [go_sem],by simp only [go_sem],by simp only [go_sem],0,by omega,by simp only [go_sem] <;> rfl,rfl⟩
 rintro m σ F' M' ⟨rfl,rfl,h0,h1,h7,i,hi,h8,ha⟩;by_cases hil:(i:Int) < l.length
 ·have hi0:(0:Int)<=i:=by omega
  have eU:i < l.length:=by omega
  have hle:=h.1;have ei:i64.wrap ((i:Int)+1)=i+1:=dQ (by omega) (by omega);obtain ⟨b,o,cs,rfl,hb,d1,d2⟩:=dF.at h eU;rw [dH eU,List.any_cons] at ha;have hq:=hp l[i] (aH _);generalize l[i]=v at *;simp only [go_sem,h0,h1,h7,h8,hil,hi0,aB,hb,d1,d2];refine qQ hq ?_;cases hv:p v
  ·rw [hv,Bool.false_or] at ha;simp only [go_sem,h8,ei];exact ⟨m - 1,by omega,rfl,rfl,by simp only [go_sem,h0],by simp only [go_sem,h1],by simp only [go_sem,h7],i+1,by omega,by simp only [go_sem]; rfl,ha⟩
  ·rw [hv,Bool.true_or] at ha;simp only [go_sem];exact qW ⟨rfl,rfl,_,rfl,by simp [ha]⟩
 ·have:l.drop i=[]:=dL (by omega);rw [this] at ha;simp only [go_sem,h7,h8,hil];exact qW ⟨rfl,rfl,_,rfl,by rw [ha]; simp⟩
theorem k64 (ad:Option Addr)(cap:Nat)(l:List Sm)(g:Nat)(ca:List Value)(p:Sm->Bool)(h:dF 7 Sm.cs F M (.slice ad l.length cap) l)
  (hp:∀v∈l,aI prog g ([v.val]++ca) F M (Same F M (.bool (p v)))) :
  aI prog 64 [.slice ad l.length cap,.func (.func g) #[] ca.toArray] F M (Same F M (.bool (l.any p))):=by
 refine qZ hm func64 e64 (aA rfl) ?_;simp only [c64,go_sem];refine wW (k97 F M ad cap l g ca p h hp) ?_;rintro r G M' ⟨hG,rfl,z,rfl,hz⟩;rw [hG];refine ⟨(fun h=>by cases h),?_⟩;simp only [go_sem];have:decide (0<=z)=l.any p:=by
  cases hq:l.any p
  ·rw [hq] at hz; simp at hz; simp; omega
  ·simp [hz.2 hq]
 exact qW ⟨by rw [<-this],rfl,rfl⟩
theorem k60 (n:Int):aI prog 60 [.int .i64 n] F M (Same F M (.bool (decide (n < 1) || decide (32 < n)))):=by
 refine qZ hm func60 e60 (aA rfl) ?_;by_cases h:n < 1
 ·simp only [c60,go_sem,h];exact qW ⟨by simp,rfl,rfl⟩
 ·simp only [c60,go_sem,h];exact qW ⟨by simp,rfl,rfl⟩
theorem qYF {α:Type}{l:List α}(h:(0:Int) < l.length):0 < l.length:=by omega
theorem lV {α:Type}{l:List α}(h:¬(0:Int) < l.length):l=[]:=by cases l <;> simp_all
theorem k98 (s:Sm):aI prog 98 [s.val] F M (Same F M (.bool (jK s))):=by
 refine qZ hm func98 e98 (aA rfl) ?_
 simp only [c98,go_sem]
 intro r1 hF1 hM1
 simp only [go_sem]
 intro r3 hF3 dN
 have g3:=yZ dN
 have kp:∀e e',Keep M ((M.upd r1 e).upd r3 e'):=fun e e'=>((Keep.refl M).new hM1).new g3.2.2
 by_cases q1:s.op=1
 ·by_cases he:(0:Int) < s.els.length
  ·simp only [go_sem,g3,q1,he]
   exact qX (kp _ _) ⟨by simp [jK,dZ,yQ,iH,iI,q1,qYF he],rfl,rfl⟩
  by_cases hb:(0:Int) < s.body.length
  ·simp only [go_sem,g3,q1,he,hb]
   exact qX (kp _ _) ⟨by simp [jK,dZ,yQ,iH,iI,q1,lV he,qYF hb],rfl,rfl⟩
  by_cases h_n:s.n=0
  rotate_left
  ·simp only [go_sem,g3,q1,he,hb,h_n]
   exact qX (kp _ _) ⟨by simp [jK,dZ,yQ,iH,iI,q1,h_n,lV he,lV hb],rfl,rfl⟩
  simp only [go_sem,g3,q1,he,hb,h_n]
  try simp only [setH,go_sem,g3,q1,he,hb,h_n]
  exact qX (kp _ _) ⟨by simp [jK,dZ,yQ,iH,iI,q1,h_n,lV he,lV hb],rfl,rfl⟩
 by_cases q2:s.op=2
 ·by_cases he:(0:Int) < s.els.length
  ·simp only [go_sem,g3,q2,he]
   exact qX (kp _ _) ⟨by simp [jK,dZ,yQ,iH,iI,q2,qYF he],rfl,rfl⟩
  by_cases hb:(0:Int) < s.body.length
  ·simp only [go_sem,g3,q2,he,hb]
   exact qX (kp _ _) ⟨by simp [jK,dZ,yQ,iH,iI,q2,lV he,qYF hb],rfl,rfl⟩
  by_cases h_e:s.e=0
  rotate_left
  ·simp only [go_sem,g3,q2,he,hb,h_e]
   exact qX (kp _ _) ⟨by simp [jK,dZ,yQ,iH,iI,q2,h_e,lV he,lV hb],rfl,rfl⟩
  by_cases h_n:s.n=0
  rotate_left
  ·simp only [go_sem,g3,q2,he,hb,h_e,h_n]
   exact qX (kp _ _) ⟨by simp [jK,dZ,yQ,iH,iI,q2,h_e,h_n,lV he,lV hb],rfl,rfl⟩
  simp only [go_sem,g3,q2,he,hb,h_e,h_n]
  try simp only [setH,go_sem,g3,q1,q2,he,hb,h_e,h_n]
  exact qX (kp _ _) ⟨by simp [jK,dZ,yQ,iH,iI,q2,h_e,h_n,lV he,lV hb],rfl,rfl⟩
 by_cases q3:s.op=3
 ·by_cases he:(0:Int) < s.els.length
  ·simp only [go_sem,g3,q3,he]
   exact qX (kp _ _) ⟨by simp [jK,dZ,yQ,iH,iI,q3,qYF he],rfl,rfl⟩
  by_cases hb:(0:Int) < s.body.length
  ·simp only [go_sem,g3,q3,he,hb]
   exact qX (kp _ _) ⟨by simp [jK,dZ,yQ,iH,iI,q3,lV he,qYF hb],rfl,rfl⟩
  by_cases h_kind:s.kind=0
  rotate_left
  ·simp only [go_sem,g3,q3,he,hb,h_kind]
   exact qX (kp _ _) ⟨by simp [jK,dZ,yQ,iH,iI,q3,h_kind,lV he,lV hb],rfl,rfl⟩
  by_cases h_e:s.e=0
  rotate_left
  ·simp only [go_sem,g3,q3,he,hb,h_kind,h_e]
   exact qX (kp _ _) ⟨by simp [jK,dZ,yQ,iH,iI,q3,h_kind,h_e,lV he,lV hb],rfl,rfl⟩
  simp only [go_sem,g3,q3,he,hb,h_kind,h_e]
  try simp only [setH,go_sem,g3,q1,q2,q3,he,hb,h_kind,h_e]
  exact qX (kp _ _) ⟨by simp [jK,dZ,yQ,iH,iI,q3,h_kind,h_e,lV he,lV hb],rfl,rfl⟩
 by_cases q4:s.op=4
 ·by_cases he:(0:Int) < s.els.length
  ·simp only [go_sem,g3,q4,he]
   exact qX (kp _ _) ⟨by simp [jK,dZ,yQ,iH,iI,q4,qYF he],rfl,rfl⟩
  by_cases hb:(0:Int) < s.body.length
  ·simp only [go_sem,g3,q4,he,hb]
   exact qX (kp _ _) ⟨by simp [jK,dZ,yQ,iH,iI,q4,lV he,qYF hb],rfl,rfl⟩
  by_cases mX:s.to=0
  rotate_left
  ·simp only [go_sem,g3,q4,he,hb,mX]
   exact qX (kp _ _) ⟨by simp [jK,dZ,yQ,iH,iI,q4,mX,lV he,lV hb],rfl,rfl⟩
  by_cases h_kind:s.kind=0
  rotate_left
  ·simp only [go_sem,g3,q4,he,hb,mX,h_kind]
   exact qX (kp _ _) ⟨by simp [jK,dZ,yQ,iH,iI,q4,mX,h_kind,lV he,lV hb],rfl,rfl⟩
  by_cases h_n:s.n=0
  rotate_left
  ·simp only [go_sem,g3,q4,he,hb,mX,h_kind,h_n]
   exact qX (kp _ _) ⟨by simp [jK,dZ,yQ,iH,iI,q4,mX,h_kind,h_n,lV he,lV hb],rfl,rfl⟩
  simp only [go_sem,g3,q4,he,hb,mX,h_kind,h_n]
  try simp only [setH,go_sem,g3,q1,q2,q3,q4,he,hb,mX,h_kind,h_n]
  exact qX (kp _ _) ⟨by simp [jK,dZ,yQ,iH,iI,q4,mX,h_kind,h_n,lV he,lV hb],rfl,rfl⟩
 by_cases q5:s.op=5
 ·by_cases he:(0:Int) < s.els.length <;> by_cases hb:(0:Int) < s.body.length
  all_goals
   by_cases mX:s.to=0
   rotate_left
   ·simp only [go_sem,g3,q5,he,hb,mX]
    exact qX (kp _ _) ⟨by simp [jK,dZ,yQ,iH,iI,q5,mX],rfl,rfl⟩
   by_cases h_kind:s.kind=0
   rotate_left
   ·simp only [go_sem,g3,q5,he,hb,mX,h_kind]
    exact qX (kp _ _) ⟨by simp [jK,dZ,yQ,iH,iI,q5,mX,h_kind],rfl,rfl⟩
   by_cases h_n:s.n=0
   rotate_left
   ·simp only [go_sem,g3,q5,he,hb,mX,h_kind,h_n]
    exact qX (kp _ _) ⟨by simp [jK,dZ,yQ,iH,iI,q5,mX,h_kind,h_n],rfl,rfl⟩
   simp only [go_sem,g3,q5,he,hb,mX,h_kind,h_n]
   exact qX (kp _ _) ⟨by simp [jK,dZ,yQ,iH,iI,q5,mX,h_kind,h_n],rfl,rfl⟩
 by_cases q6:s.op=6
 ·by_cases he:(0:Int) < s.els.length
  ·simp only [go_sem,g3,q6,he]
   exact qX (kp _ _) ⟨by simp [jK,dZ,yQ,iH,iI,q6,qYF he],rfl,rfl⟩
  by_cases hb:(0:Int) < s.body.length
  all_goals
   by_cases mX:s.to=0
   rotate_left
   ·simp only [go_sem,g3,q6,he,hb,mX]
    exact qX (kp _ _) ⟨by simp [jK,dZ,yQ,iH,iI,q6,mX,lV he],rfl,rfl⟩
   by_cases h_kind:s.kind=0
   rotate_left
   ·simp only [go_sem,g3,q6,he,hb,mX,h_kind]
    exact qX (kp _ _) ⟨by simp [jK,dZ,yQ,iH,iI,q6,mX,h_kind,lV he],rfl,rfl⟩
   by_cases h_n:s.n=0
   rotate_left
   ·simp only [go_sem,g3,q6,he,hb,mX,h_kind,h_n]
    exact qX (kp _ _) ⟨by simp [jK,dZ,yQ,iH,iI,q6,mX,h_kind,h_n,lV he],rfl,rfl⟩
   simp only [go_sem,g3,q6,he,hb,mX,h_kind,h_n]
   exact qX (kp _ _) ⟨by simp [jK,dZ,yQ,iH,iI,q6,mX,h_kind,h_n,lV he],rfl,rfl⟩
 by_cases he:(0:Int) < s.els.length
 ·simp only [go_sem,g3,q1,q2,q3,q4,q5,q6,he]
  exact qX (kp _ _) ⟨by simp [jK,dZ,yQ,iH,iI,q1,q2,q3,q4,q5,q6,qYF he],rfl,rfl⟩
 by_cases hb:(0:Int) < s.body.length
 ·simp only [go_sem,g3,q1,q2,q3,q4,q5,q6,he,hb]
  exact qX (kp _ _) ⟨by simp [jK,dZ,yQ,iH,iI,q1,q2,q3,q4,q5,q6,lV he,qYF hb],rfl,rfl⟩
 by_cases mX:s.to=0
 rotate_left
 ·simp only [go_sem,g3,q1,q2,q3,q4,q5,q6,he,hb,mX]
  exact qX (kp _ _) ⟨by simp [jK,dZ,yQ,iH,iI,q1,q2,q3,q4,q5,q6,mX,lV he,lV hb],rfl,rfl⟩
 by_cases h_kind:s.kind=0
 rotate_left
 ·simp only [go_sem,g3,q1,q2,q3,q4,q5,q6,he,hb,mX,h_kind]
  exact qX (kp _ _) ⟨by simp [jK,dZ,yQ,iH,iI,q1,q2,q3,q4,q5,q6,mX,h_kind,lV he,lV hb],rfl,rfl⟩
 by_cases h_e:s.e=0
 rotate_left
 ·simp only [go_sem,g3,q1,q2,q3,q4,q5,q6,he,hb,mX,h_kind,h_e]
  exact qX (kp _ _) ⟨by simp [jK,dZ,yQ,iH,iI,q1,q2,q3,q4,q5,q6,mX,h_kind,h_e,lV he,lV hb],rfl,rfl⟩
 by_cases h_n:s.n=0
 rotate_left
 ·simp only [go_sem,g3,q1,q2,q3,q4,q5,q6,he,hb,mX,h_kind,h_e,h_n]
  exact qX (kp _ _) ⟨by simp [jK,dZ,yQ,iH,iI,q1,q2,q3,q4,q5,q6,mX,h_kind,h_e,h_n,lV he,lV hb],rfl,rfl⟩
 simp only [go_sem,g3,q1,q2,q3,q4,q5,q6,he,hb,mX,h_kind,h_e,h_n]
 try simp only [setH,go_sem,g3,q1,q2,q3,q4,q5,q6,he,hb,mX,h_kind,h_e,h_n]
 exact qX (kp _ _) ⟨by simp [jK,dZ,yQ,iH,iI,q1,q2,q3,q4,q5,q6,mX,h_kind,h_e,h_n,lV he,lV hb],rfl,rfl⟩
theorem k66 (p:Pg)(s:Sm)(hp:p.rd F)(hold:Old F M):aI prog 66 [p.val,s.val] F M (Same F M (.bool (tY p.vars.length p.news.length p.exprs s))):=by
 refine qZ hm func66 e66 (aA rfl) ?_;simp only [c66,go_sem];intro r hF hM;simp only [go_sem];intro r3 hF3 dN;have g3:=yZ dN;have kp:∀e e',Keep M ((M.upd r e).upd r3 e'):=fun e e'=>((Keep.refl M).new hM).new g3.2.2
 have oo:∀e e',Old F ((M.upd r e).upd r3 e'):=fun e e'=>(hold.upd hF).upd hF3
 simp only [go_sem];refine qQ (k98 _ _ s) ?_;unfold tY;cases hq:jK s
 ·simp only [go_sem];exact qX (kp _ _) ⟨by simp,rfl,rfl⟩
 by_cases q1:s.op=1
 ·simp only [go_sem,g3,q1];refine qQ (k99 _ _ p s.to 7 hp (oo _ _)) ?_;cases h1:xP p.exprs s.to 7
  ·simp only [go_sem];exact qX (kp _ _) ⟨by simp,rfl,rfl⟩
  simp only [go_sem];refine qQ (vWF _ _ s.kind) ?_;cases h2:isS s.kind
  ·simp only [go_sem];exact qX (kp _ _) ⟨by simp,rfl,rfl⟩
  simp only [go_sem,g3];refine qQ (k99 _ _ p s.e s.kind hp (oo _ _)) ?_;simp only [go_sem];exact qX (kp _ _) ⟨by simp,rfl,rfl⟩
 by_cases q2:s.op=2
 ·simp only [go_sem,g3,q2];refine qQ (k99 _ _ p s.to 7 hp (oo _ _)) ?_;cases h1:xP p.exprs s.to 7
  ·simp only [go_sem];exact qX (kp _ _) ⟨by simp,rfl,rfl⟩
  simp only [go_sem];refine qQ (qYD _ _ s.kind) ?_;simp only [go_sem];exact qX (kp _ _) ⟨by simp,rfl,rfl⟩
 by_cases q3:s.op=3
 ·have hf:=hp.few;have ew:i64.wrap ((p.vars.length:Int)+p.news.length)=p.vars.length+p.news.length:=dQ (by omega) (by omega);simp only [go_sem,g3,q3];refine qQ (k99 _ _ p s.to 7 hp (oo _ _)) ?_;cases h1:xP p.exprs s.to 7
  ·simp only [go_sem];exact qX (kp _ _) ⟨by simp,rfl,rfl⟩
  by_cases h2:(p.vars.length:Int) < s.n
  ·simp only [go_sem,g3,h2,ew];exact qX (kp _ _) ⟨by simp [],rfl,rfl⟩
  ·simp only [go_sem,g3,h2];exact qX (kp _ _) ⟨by simp [],rfl,rfl⟩
 by_cases q4:s.op=4
 ·simp only [go_sem,g3,q4];refine qQ (k99 _ _ p s.e 7 hp (oo _ _)) ?_;simp only [go_sem];exact qX (kp _ _) ⟨by simp,rfl,rfl⟩
 by_cases q56:s.op=5\/s.op=6
 ·rcases q56 with q | q
  ·simp only [go_sem,g3,q];refine qQ (k99 _ _ p s.e 6 hp (oo _ _)) ?_;simp only [go_sem];exact qX (kp _ _) ⟨by simp [],rfl,rfl⟩
  ·simp only [go_sem,g3,q];refine qQ (k99 _ _ p s.e 6 hp (oo _ _)) ?_;simp only [go_sem];exact qX (kp _ _) ⟨by simp [],rfl,rfl⟩
 have n5:¬s.op=5:=fun h=>q56 (.inl h)
 have n6:¬s.op=6:=fun h=>q56 (.inr h)
 simp only [go_sem,q1,q2,q3,q4,n5,n6];exact qX (kp _ _) ⟨by simp [],rfl,rfl⟩
theorem kHG (n:Nat)(hn:n<=1000000):aI prog 138 [.slice none 0 0,.int .i64 n] F M (tK 1 fV 3 ([]:List Int) F M):=by
 refine qZ hm func138 e138 (aA rfl) ?_;have h0:¬(n:Int) < 0:=by omega
 have es:i64.wrap ((n:Int) - 0)=n:=dQ (by omega) (by omega);by_cases hp:(0:Int) < n
 ·have hn0:((0:Int)<=0/\(0:Int)<=((n:Nat):Int)):=by omega
  simp only [c138,go_sem,h0,es,hp];refine xYE (by omega) (by simp only [maxLen]; omega) (by omega) ?_;intro r cap hF hM hc1 hc2;have hcc:((0:Int)<=n/\n<=cap):=⟨by omega,hc1⟩
  simp only [go_sem,hcc];have hw:=Wk.short (F:=F) (c:=[]) (Hp.qV M r ⟨(List.replicate n [Value.int i64 0]).flatten,3,cap * 1⟩) (List.nil_prefix);rw [Hp.wZ] at hw;exact ⟨F,_,hw,rfl,.inr ⟨r,cap,hF,hM,rfl,⟨Nat.zero_le _,hc2⟩,rfl⟩⟩
 ·simp only [c138,go_sem,h0,es,hp];exact qW ⟨rfl,.inl ⟨rfl,rfl,rfl⟩⟩
structure CcI (ls:List Lz)(u:Value)(F0:Fz)(M0:Hp)(m:Nat)(σ:Env)(F:Fz)(M:Hp):Prop where
 ff:F=F0
 mm:M=M0
 h0:Ax.look σ 0=some u
 st:∃i z:Nat,i+m=ls.length/\Ax.look σ 11=some (.int .i64 i)/\Ax.look σ 9=some u/\Ax.look σ 10=some (.int .i64 ls.length)/\Ax.look σ 3=some (.int .i64 z)/\z<=i * 50000
structure CdI (ls:List Lz)(u:Value)(F0:Fz)(M0:Hp)(m:Nat)(σ:Env)(F:Fz)(M:Hp):Prop where
 ff:F=F0
 kp:Keep M0 M
 old:Old F0 M
 h0:Ax.look σ 0=some u
 h25:Ax.look σ 25=some u
 h26:Ax.look σ 26=some (.int .i64 ls.length)
 st:∃(i:Nat) (w:Value),i+m=ls.length/\Ax.look σ 27=some (.int .i64 i)/\Ax.look σ 6=some w/\yW 1 fV 3 F0 M0 M w ((ls.take i).flatMap (·.2.2))
theorem jJY {ls:List Lz}(h:∀x∈ls,x.2.2.length<=50000):(ls.flatMap (·.2.2)).length<=ls.length * 50000:=by
 induction ls with
 | nil=>simp
 | cons x l ih=>
  have:=ih (fun y hy=>h y (by simp [hy]));have:=h x (by simp);simp only [List.flatMap_cons,aO,fF]; omega
theorem jJA (ad:Option Addr)(cap:Nat)(ls:List Lz)(hold:Old F M)(h:dF 1 slC F M (.slice ad ls.length cap) ls)(hr:∀x∈ls,lG F M x.1 x.2.1 x.2.2/\x.2.2.length<=50000/\(x.1=none->x.2.1=0))(hn:ls.length<=5) :
  aI prog 103 [.slice ad ls.length cap] F M (tK 1 fV 3 (ls.flatMap (·.2.2)) F M):=by
 refine qZ hm func103 kWY (aA rfl) ?_;simp only [vYV,go_sem];refine iQ (CcI ls (.slice ad ls.length cap) F M) ls.length ?_ ?_
 ·exact ⟨rfl,rfl,by simp only [go_sem],0,0,by omega,by simp only [go_sem] <;> rfl,by simp only [go_sem],by simp only [go_sem],by simp only [go_sem] <;> rfl,by omega⟩
 rintro m σ F' M' s;obtain ⟨i,z,hi,h11,h9,h10,h3,hz⟩:=s.st;rw [s.ff,s.mm];by_cases hil:(i:Int) < ls.length
 ·have hi0:(0:Int)<=i:=by omega
  have eU:i < ls.length:=by omega
  have ei:i64.wrap ((i:Int)+1)=i+1:=dQ (by omega) (by omega);obtain ⟨b,o,cs,ea,hb,d1,d2⟩:=dF.at h eU;have d3:=one_row d2;obtain ⟨hx1,hx2,hx3⟩:=hr ls[i] (aH _);generalize ls[i]=x at *;obtain ⟨xa,xc,xl⟩:=x;simp only [] at d3 hx1 hx2 hx3;have ez:i64.wrap ((z:Int)+xl.length)=z+xl.length:=dQ (by omega) (by omega);have hz0:¬(z:Int)+xl.length < 0:=by omega
  rw [ea] at h9;simp only [go_sem,h9,h10,h11,h3,hil,hi0,aB,hb,d3,ez,ei,hz0];exact ⟨m - 1,by omega,rfl,rfl,by simp only [go_sem,s.h0],i+1,z+xl.length,by omega,by simp only [go_sem]; rfl,by simp only [go_sem,h9,ea],by simp only [go_sem,h10],by simp only [go_sem]; rfl,by omega⟩
 have eU:i=ls.length:=by omega
 simp only [go_sem,h10,h11,h3,hil];refine wW (kHG _ _ z (by omega)) ?_;rintro w G M1 hq;have mine:=hq.mine (Keep.refl M);obtain ⟨hG,le,kq,oq,aq,cq,rfl,rdq⟩:=hq.le wJ (by simp);rw [hG];refine ⟨(fun h=>by cases h),?_⟩;have h0:=s.h0;simp only [go_sem,h0];refine iQ (CdI ls (.slice ad ls.length cap) F M) ls.length ?_ ?_
 ·exact ⟨rfl,kq,oq hold,by simp only [go_sem,h0],by simp only [go_sem],by simp only [go_sem],0,_,by omega,by simp only [go_sem] <;> rfl,by simp only [go_sem]; rfl,by simpa using mine⟩
 clear mine rdq le oq kq hq h0 h11 h9 h10 h3;clear s;rintro m σ F' M' s;obtain ⟨i,w,hi,h27,h6,mine⟩:=s.st;obtain rfl:=s.ff;by_cases hil:(i:Int) < ls.length;rotate_left
 ·have:ls.take i=ls:=aJ (by omega);rw [this] at mine;simp only [go_sem,s.h26,h27,h6,hil];exact mine.done s.kp
 have hi0:(0:Int)<=i:=by omega
 have eU:i < ls.length:=by omega
 have ei:i64.wrap ((i:Int)+1)=i+1:=dQ (by omega) (by omega);obtain ⟨b,o,cs,ea,hb,d1,d2⟩:=dF.at (h.keep s.kp s.old) eU;have d3:=one_row d2;obtain ⟨hx1,hx2,hx3⟩:=hr ls[i] (aH _);have htk:(ls.take (i+1)).flatMap (·.2.2)=(ls.take i).flatMap (·.2.2)++ls[i].2.2:=by
  rw [aF eU,List.flatMap_append]; simp
 have hlen:=jJY (ls:=ls.take i) (fun x hx=>(hr x (List.mem_of_mem_take hx)).2.1);have hli:(ls.take i).length<=5:=by rw [dW]; omega
 generalize ls[i]=x at *;obtain ⟨xa,xc,xl⟩:=x;simp only [] at d3 hx1 hx2 hx3 htk;have h25:=s.h25;rw [ea] at h25;simp only [go_sem,h25,s.h26,h27,h6,hil,hi0,aB,hb,d3];refine kU (xs:=(ls.take i).flatMap (·.2.2)) (ys:=xl) wJ kJ (by decide) mine s.kp (dF.src wJ (hx1.keep s.kp s.old) hx3) (by omega) ?_;rintro v' M5 hfr eH ho5 mQ;rw [<-htk] at mQ;simp only [go_sem,h27,ei];exact ⟨m - 1,by omega,rfl,eH,ho5 s.old,by simp only [go_sem,s.h0],by simp only [go_sem,h25,ea],by simp only [go_sem,s.h26],i+1,v',by omega,by simp only [go_sem]; rfl,by simp only [go_sem],mQ⟩
end Go.Proofs.Tryz.K
namespace Go.Proofs.Tryz.K
open Go Go.Ax Go.Proofs.Tryz.S
def xQ (st:List Sm)(k:Nat)(m:Nat)(s:Int):Option Nat:=if s=(m:Int)/\m < st.length then (eY st k (kL st m) (m+1)).bind (eY st k (lN st m)) else none
theorem yZE (st:List Sm)(k:Nat)(l:List Int)(m:Nat):eY st (k+1) l m=l.foldlM (xQ st k) m:=rfl
def FrI (M M':Hp):Prop:=∀r x,M r=some x->¬x.elem=3->M' r=some x
theorem FrI.refl (M:Hp):FrI M M:=fun _ _ h _=>h
theorem FrI.trans {M M1 M2:Hp}(h:FrI M M1)(k:FrI M1 M2):FrI M M2:=fun r x hr hx=>k r x (h r x hr hx) hx
theorem FrI.keep {M M':Hp}(h:Keep M M'):FrI M M':=fun r x hr _=>h r x hr
def zGV (st:List Sm)(k:Nat)(l:List Int)(n:Nat)(F:Fz)(M0 M:Hp)(u:Value)(F':Fz)(M':Hp):Prop:=
 F'=F/\Keep M0 M'/\Old F M'/\FrI M M'/\((∃(w:Value) (ds:List Int),u=.tuple #[w,.bool true]/\yW 1 fV 3 F M0 M' w ds/\eY st k l n=some ds.length)\/(eY st k l n=none/\u=.tuple #[.slice none 0 0,.bool false]))
structure SeO (p:Pg)(k:Nat)(l:List Int)(ul:Value)(n:Nat)(r4:Nat)(F0:Fz)(M0 Me:Hp)(σ:Env)(F:Fz)(M:Hp):Prop where
 ff:F=F0
 kb:Keep M0 M
 old:Old F0 M
 fr:FrI Me M
 h3:Ax.look σ 3=some (.int .i64 (5 - k))
 h4:Ax.look σ 4=some (.pointer (some ⟨r4,0,none⟩))
 h22:Ax.look σ 22=some ul
 h23:Ax.look σ 23=some (.int .i64 l.length)
theorem SeO.ext {p:Pg}{k:Nat}{l:List Int}{ul:Value}{n r4:Nat}{F0 F:Fz}{M0 Me M:Hp}{σ σ':Env}(s:SeO p k l ul n r4 F0 M0 Me σ F M)(e3:Ax.look σ' 3=Ax.look σ 3)(e4:Ax.look σ' 4=Ax.look σ 4)(e22:Ax.look σ' 22=Ax.look σ 22)(e23:Ax.look σ' 23=Ax.look σ 23):SeO p k l ul n r4 F0 M0 Me σ' F M:=
 ⟨s.ff,s.kb,s.old,s.fr,e3.trans s.h3,e4.trans s.h4,e22.trans s.h22,e23.trans s.h23⟩
theorem SeO.grow {p:Pg}{k:Nat}{l:List Int}{ul:Value}{n r4:Nat}{F0 F:Fz}{M0 Me M M':Hp}{σ:Env}(s:SeO p k l ul n r4 F0 M0 Me σ F M)(kb:Keep M0 M')(o:Old F0 M')(fr:FrI M M'):SeO p k l ul n r4 F0 M0 Me σ F M':=
 ⟨s.ff,kb,o,s.fr.trans fr,s.h3,s.h4,s.h22,s.h23⟩
def seO (p:Pg)(k:Nat)(l:List Int)(ul:Value)(n:Nat)(r4:Nat)(F0:Fz)(M0 Me:Hp)(m:Nat)(σ:Env)(F:Fz)(M:Hp):Prop:=
 SeO p k l ul n r4 F0 M0 Me σ F M/\∃(i:Nat) (w:Value) (ds:List Int),i+m=l.length/\Ax.look σ 24=some (.int .i64 i)/\Ax.look σ 2=some w/\yW 1 fV 3 F0 M0 M w ds/\ds.length<=p.stmts.length/\eY p.stmts (k+1) l n=(l.drop i).foldlM (xQ p.stmts k) ds.length
def gS (st:List Sm)(k m:Nat):Nat->Option Nat
 | 0=>some (m+1)
 | 1=>eY st k (kL st m) (m+1)
 | _=>(eY st k (kL st m) (m+1)).bind (eY st k (lN st m))
def lS (st:List Sm)(m:Nat):Nat->List Int
 | 0=>kL st m
 | _=>lN st m
theorem yVX {st:List Sm}{k m j n:Nat}(hj:j < 2)(h:gS st k m j=some n):gS st k m (j+1)=eY st k (lS st m j) n:=by
 match j,hj with
 | 0,_=>simp only [gS,Option.some.injEq] at h; subst h; rfl
 | 1,_=>simp only [gS] at h ⊢; rw [h]; rfl
theorem xZX {st:List Sm}{k m j:Nat}(hj:j < 2)(h:gS st k m (j+1)=none):gS st k m 2=none:=by
 match j,hj with
 | 0,_=>simp only [gS] at h ⊢; rw [h]; rfl
 | 1,_=>exact h
theorem xZZ {st:List Sm}{k m:Nat}(h:m < st.length):xQ st k m (m:Int)=gS st k m 2:=by
 unfold xQ; rw [if_pos ⟨rfl,h⟩]; rfl
def seI (p:Pg)(k:Nat)(l:List Int)(ul:Value)(n:Nat)(r4:Nat)(F0:Fz)(M0 Me:Hp)(i:Nat)(x:Sm)(t r58:Nat)(m:Nat)(σ:Env)(F:Fz)(M:Hp):Prop:=
 SeO p k l ul n r4 F0 M0 Me σ F M/\Ax.look σ 24=some (.int .i64 i)/\Ax.look σ 58=some (.slice (some ⟨r58,0,none⟩) 2 2)/\Ax.look σ 59=some (.int .i64 2)/\M r58=some ⟨[.slice x.ba x.body.length x.bc,.slice x.ea x.els.length x.ec],23,2⟩/\
 ∃(j:Nat) (w:Value) (ds:List Int),j+m=2/\Ax.look σ 60=some (.int .i64 j)/\Ax.look σ 2=some w/\yW 1 fV 3 F0 M0 M w ds/\gS p.stmts k t j=some ds.length/\ds.length<=p.stmts.length
theorem sm_at {F:Fz}{M:Hp}{p:Pg}(hp:p.rd F)(hold:Old F M){i:Nat}(hi:i < p.stmts.length) :
  ∃b o cs,p.sA=some ⟨b,o,none⟩/\blk F M b=some cs/\o+i * 7+7<=cs.length/\(cs.drop (o+i * 7)).take 7=p.stmts[i].cs/\cs[o+i * 7+5]? = some (.slice p.stmts[i].ba p.stmts[i].body.length p.stmts[i].bc)/\cs[o+i * 7+6]? = some (.slice p.stmts[i].ea p.stmts[i].els.length p.stmts[i].ec):=by
 obtain ⟨b,o,cs,ea,hb,d1,d2⟩:=dF.at (hp.stmts M hold) hi;have:=Sm.row d2;exact ⟨b,o,cs,ea,hb,d1,d2,this.2.2.2.2.2.1,this.2.2.2.2.2.2⟩
theorem qXV {st:List Sm}{i:Nat}(h:i < st.length):kL st i=st[i].body:=by unfold kL; rw [List.getElem?_eq_getElem h]; rfl
theorem qJZ {st:List Sm}{i:Nat}(h:i < st.length):lN st i=st[i].els:=by unfold lN; rw [List.getElem?_eq_getElem h]; rfl
def seG (ul d:Value)(k:Nat)(r4:Nat)(F0:Fz)(Me:Hp)(σ:Env)(F:Fz)(M:Hp):Prop:=
 F=F0/\M=Me/\Ax.look σ 1=some ul/\Ax.look σ 2=some d/\Ax.look σ 3=some (.int .i64 (5 - k))/\Ax.look σ 4=some (.pointer (some ⟨r4,0,none⟩))
theorem kHV (p:Pg):∀(k:Nat),k<=6->∀(F:Fz) (M M0:Hp) (la:Option Addr) (lc:Nat) (l:List Int) (d:Value) (ds:List Int),p.rd F->Old F M->Keep M0 M->(∀M,Old F M->lG F M la lc l)->l.length<=2500->yW 1 fV 3 F M0 M d ds->ds.length<=p.stmts.length->
  aI prog 102 [p.val,.slice la l.length lc,d,.int .i64 (6 - k)] F M (zGV p.stmts k l ds.length F M0 M):=by
 intro k
 induction k with
 | zero=>
  intro hk F M M0 la lc l d ds hp hold kb hl hll mine hds;refine qZ hm func102 vYG (aA rfl) ?_;simp only [vQZ,go_sem];intro r4 mW jP;have kp:∀e,Keep M (M.upd r4 e):=fun e=>(Keep.refl M).new jP
  by_cases h0:(0:Int) < l.length
  ·have e6:(5:Int) < 6 - ((0:Nat):Int):=by omega
   have hne:¬l=[]:=by rintro rfl; simp at h0
   simp only [go_sem,h0];exact qW ⟨rfl,kb.trans (kp _),hold.upd mW,FrI.keep (kp _),.inr ⟨by simp [eY,hne],rfl⟩⟩
  ·have hnil:l=[]:=lV h0;subst hnil;simp only [go_sem];refine iQ (fun m σ F' M'=>m=0/\F'=F/\M'=M.upd r4 ⟨p.cs,135,7⟩/\Ax.look σ 24=some (.int .i64 0)/\Ax.look σ 23=some (.int .i64 0)/\Ax.look σ 2=some d) 0 ?_ ?_
   ·exact ⟨rfl,rfl,rfl,by simp only [go_sem],by simp only [go_sem] <;> rfl,by simp only [go_sem]⟩
   rintro m σ F' M' ⟨rfl,hF',hM',h24,h23,h2⟩;rw [hF',hM'];simp only [go_sem,h24,h23,h2];exact qW ⟨rfl,kb.trans (kp _),hold.upd mW,FrI.keep (kp _),.inl ⟨d,ds,rfl,mine.keep (kp _),by simp [eY]⟩⟩
 | succ k ih=>
  intro hk F M M0 la lc l d ds hp hold kb hl hll mine hds;refine qZ hm func102 vYG (aA rfl) ?_;have ek:(6:Int) - ((k+1:Nat):Int)=5 - k:=by omega
  have e6:¬(5:Int) < 5 - k:=by omega
  rw [ek];simp only [vQZ];rw [Go.Ax.seq_assoc];refine cut (fun σ F' M'=>∃r4,F r4=none/\M r4=none/\seG (.slice la l.length lc) d k r4 F (M.upd r4 ⟨p.cs,135,7⟩) σ F' M') ?_ ?_
  ·simp only [go_sem];intro r4 mW jP;by_cases h0:(0:Int) < l.length
   ·simp only [go_sem,h0,e6];exact ⟨r4,mW,jP,rfl,rfl,by simp only [go_sem],by simp only [go_sem],by simp only [go_sem],by simp only [go_sem]⟩
   ·simp only [go_sem,h0];exact ⟨r4,mW,jP,rfl,rfl,by simp only [go_sem],by simp only [go_sem],by simp only [go_sem],by simp only [go_sem]⟩
  rintro σ F' M' ⟨r4,mW,jP,hF',hM',h1,h2,h3,h4⟩;rw [hF',hM'];have kp:∀e,Keep M (M.upd r4 e):=fun e=>(Keep.refl M).new jP
  have fr0:FrI M (M.upd r4 ⟨p.cs,135,7⟩):=FrI.keep (kp _);have fme:(M.upd r4 ⟨p.cs,135,7⟩) r4=some ⟨p.cs,135,7⟩:=Hp.qV _ _ _;have kb0:=kb.trans (kp ⟨p.cs,135,7⟩);have jJB:=hold.upd (e:=⟨p.cs,135,7⟩) mW;have tZ:=mine.keep (kp ⟨p.cs,135,7⟩);generalize M.upd r4 ⟨p.cs,135,7⟩=Me at *;simp only [go_sem,h1];refine iQ (seO p k l (.slice la l.length lc) ds.length r4 F M0 Me) l.length ?_ ?_
  ·exact ⟨⟨rfl,kb0,jJB,FrI.refl _,by simp only [go_sem,h3],by simp only [go_sem,h4],by simp only [go_sem],by simp only [go_sem]⟩,0,d,ds,by omega,by simp only [go_sem] <;> rfl,by simp only [go_sem,h2],tZ,hds,by rw [List.drop_zero]; exact yZE _ _ _ _⟩
  generalize hn:ds.length=n at *;clear tZ mine hds h1 h2 h3 h4 kb0 jJB hn ds d hF' hM' kp jP mW hold;rintro mo σ F' M' ⟨s,i,w,ds,hi,h24,h2,mine,hds,hfold⟩;obtain rfl:=s.ff;have f4:=s.fr _ _ fme (by simp);have b4:=qG (F:=F') f4;obtain ⟨aw,cw,ew⟩:=mine.shape;have h2':=h2;rw [ew] at h2';by_cases hil:(i:Int) < l.length;rotate_left
  ·have:l.drop i=[]:=dL (by omega);rw [this] at hfold;simp only [go_sem,s.h23,h24,h2',hil];rw [<-ew];exact qW ⟨rfl,s.kb,s.old,fr0.trans s.fr,.inl ⟨w,ds,rfl,mine,by rw [hfold]; rfl⟩⟩
  have hi0:(0:Int)<=i:=by omega
  have eU:i < l.length:=by omega
  have ei:i64.wrap ((i:Int)+1)=i+1:=dQ (by omega) (by omega);obtain ⟨b,o,cs,ea,hb,d3⟩:=gW (hl _ s.old) eU;rw [dH eU,List.foldlM_cons] at hfold;generalize l[i]=x at *;have h22:=s.h22;rw [ea] at h22;by_cases hx:x=(ds.length:Int)/\ds.length < p.stmts.length;rotate_left
  ·have hnone:eY p.stmts (k+1) l n=none:=by
    rw [hfold]; unfold xQ; rw [if_neg hx]; rfl
   by_cases hx1:x=(ds.length:Int)
   ·have hx2:(p.stmts.length:Int)<=x:=by omega
    simp only [go_sem,s.h4,h22,s.h23,h24,h2',hil,hi0,aB,hb,d3,hx1];simp only [hx1] at hx2;simp only [go_sem,b4,hx2];exact qW ⟨rfl,s.kb,s.old,fr0.trans s.fr,.inr ⟨hnone,rfl⟩⟩
   ·simp only [go_sem,h22,s.h23,h24,h2',hil,hi0,aB,hb,d3,hx1];exact qW ⟨rfl,s.kb,s.old,fr0.trans s.fr,.inr ⟨hnone,rfl⟩⟩
  obtain ⟨rfl,hdn⟩:=hx;have hx2:¬(p.stmts.length:Int)<=ds.length:=by omega
  have kHH:(ds.length:Int) < p.stmts.length:=by omega
  have hd0:(0:Int)<=ds.length:=by omega
  simp only [go_sem,s.h3,s.h4,h22,s.h23,h24,h2',hil,hi0,aB,hb,d3,b4,hx2];intro rb uK lW;simp only [go_sem];rw [<-ew];have hfew:=hp.few;refine sU (xs:=ds) (ys:=[5 - (k:Int)]) wJ kJ (by decide) (mine.fresh lW) (s.kb.new (s.kb.free lW)) ⟨rfl,.inr ⟨⟨rb,0,none⟩,1,rfl,.inr ⟨rb,0,_,rfl,wH,by simp [fV,oZ]⟩⟩⟩ (by simp) (by simp; omega) ?_;rintro w5 M5 hsh vXH eH ho5 mQ;have frx:FrI M' M5:=fun r x hr hx=>vXH r x (by rw [Hp.qK (qJ lW hr).1]; exact hr) hx
  have dB:=ho5 (s.old.upd uK);have f45:=frx _ _ f4 (by simp);have b45:=qG (F:=F') f45;obtain ⟨b2,o2,cs2,ea2,hb2,g1,g2,g5,g6⟩:=sm_at hp dB hdn;have hbody:=qXV hdn;have hels:=qJZ hdn;have hmem:=aH hdn;have hbd:=hp.bodies _ hmem;have hbf:=hp.few.2.2.2.2.2 _ hmem;generalize p.stmts[ds.length]=y at *;simp only [go_sem,s.h4,b45,ea2,kHH,hd0,aB,hb2,g5,g6];intro r58 zGD zGY;rw [xZZ hdn] at hfold;have xZK:∀e,Keep M5 (M5.upd r58 e):=fun e=>(Keep.refl M5).new zGY
  simp only [go_sem];refine iQ (seI p k l (.slice la l.length lc) n r4 F' M0 Me i y ds.length r58) 2 ?_ ?_
  ·exact ⟨(s.grow (eH.trans (xZK _)) (dB.upd zGD) (frx.trans (FrI.keep (xZK _)))).ext (by simp only [go_sem]) (by simp only [go_sem]) (by simp only [go_sem]) (by simp only [go_sem]),by simp only [go_sem,h24],by simp only [go_sem],by simp only [go_sem],Hp.qV _ _ _,0,w5,ds++[5 - (k:Int)],by omega,by simp only [go_sem] <;> rfl,by simp only [go_sem],mQ.keep (xZK _),by simp [gS],by simp; omega⟩
  clear hsh zGY zGD xZK mQ eH ho5 vXH frx dB f45 b45 hb2 lW uK mine h2 h2' ew f4 b4 h24 h22 hb;clear s;generalize hm:ds.length=t at *;clear hm ds;rintro mi σ F M2 ⟨s,h24,h58,h59,f58,j,w,ds,hj,h60,h2,mine,hg,hds⟩;obtain rfl:=s.ff;have f4:=s.fr _ _ fme (by simp);have b4:=qG (F:=F) f4;have b58:=qG (F:=F) f58;by_cases hj2:(j:Int) < 2;rotate_left
  ·have kHA:j=2:=by omega
   subst kHA;rw [hg] at hfold;simp only [go_sem,h24,h59,h60,ei];exact ⟨mo - 1,by omega,s.ext (by simp only [go_sem]) (by simp only [go_sem]) (by simp only [go_sem]) (by simp only [go_sem]),i+1,w,ds,by omega,by simp only [go_sem]; rfl,by simp only [go_sem,h2],mine,hds,by rw [hfold]; rfl⟩
  have hj0:(0:Int)<=j:=by omega
  have hjn:j < 2:=by omega
  have ej:i64.wrap ((j:Int)+1)=j+1:=dQ (by omega) (by omega);have ed:i64.wrap (5 - (k:Int)+1)=6 - k:=by rw [dQ (by omega) (by omega)]; omega
  obtain ⟨A,C,hcell,hrd,hlen⟩:∃A C,([.slice y.ba y.body.length y.bc,.slice y.ea y.els.length y.ec]:List Value)[j * 1]? = some (.slice A (lS p.stmts t j).length C)/\(∀M,Old F M->lG F M A C (lS p.stmts t j))/\(lS p.stmts t j).length<=2500:=by
   match j,hjn with
   | 0,_=>exact ⟨y.ba,y.bc,by simp [lS,hbody],fun M o=>by simp only [lS,hbody]; exact (hbd M o).1,by simp only [lS,hbody]; exact hbf.1⟩
   | 1,_=>exact ⟨y.ea,y.ec,by simp [lS,hels],fun M o=>by simp only [lS,hels]; exact (hbd M o).2,by simp only [lS,hels]; exact hbf.2⟩
  simp only [go_sem,s.h3,s.h4,h58,h59,h60,h2,hj2,hj0,aB,b4,b58,hcell,ed];refine wW (ih (by omega) F M2 M0 A C (lS p.stmts t j) w ds hp s.old s.kb hrd hlen mine hds) ?_;rintro u G M7 ⟨hG,kb7,iO,fr7,hcase⟩;rw [hG];refine ⟨(fun h=>by cases h),?_⟩;rcases hcase with ⟨w7,ds7,rfl,qWY,hs7⟩ | ⟨hs7,rfl⟩
  ·have hg7:gS p.stmts k t (j+1)=some ds7.length:=by rw [yVX hjn hg]; exact hs7
   have hle:=(kX p.stmts k _ _ _ hs7).2.2 hds;simp only [go_sem,h60,ej];exact ⟨mi - 1,by omega,(s.grow kb7 iO fr7).ext (by simp only [go_sem]) (by simp only [go_sem]) (by simp only [go_sem]) (by simp only [go_sem]),by simp only [go_sem,h24],by simp only [go_sem,h58],by simp only [go_sem,h59],fr7 _ _ f58 (by simp),j+1,w7,ds7,by omega,by simp only [go_sem]; rfl,by simp only [go_sem],qWY,hg7,hle⟩
  ·have hg7:gS p.stmts k t (j+1)=none:=by rw [yVX hjn hg]; exact hs7
   rw [xZX hjn hg7] at hfold;simp only [go_sem];exact qW ⟨rfl,kb7,iO,(fr0.trans s.fr).trans fr7,.inr ⟨by rw [hfold]; rfl,rfl⟩⟩
theorem k67 (F:Fz)(M:Hp)(p:Pg)(hp:p.rd F)(hold:Old F M):aI prog 67 [p.val] F M (fun u F' M'=>F'=F/\M'=M/\∃w,u=.tuple #[w,.bool (decide (eY p.stmts 6 p.main 0=some p.stmts.length))]):=by
 refine qZ hm func67 e67 (aA rfl) ?_;simp only [c67,go_sem];intro r1 hF1 hM1;have kp:∀e,Keep M (M.upd r1 e):=fun e=>(Keep.refl M).new hM1
 simp only [go_sem];have h6:(6:Int) - ((6:Nat):Int)=0:=rfl;have hs:=kHV p 6 (by omega) F (M.upd r1 ⟨p.cs,135,7⟩) M p.mA p.mC p.main (.slice none 0 0) [] hp (hold.upd hF1) (kp _) hp.main hp.few.2.2.2.2.1 yW.nil (Nat.zero_le _);rw [h6] at hs;refine wW hs ?_;rintro u G M7 ⟨hG,kb7,iO,fr7,hcase⟩;rw [hG];refine ⟨(fun h=>by cases h),?_⟩;have f1:=fr7 _ _ (Hp.qV M r1 ⟨p.cs,135,7⟩) (by simp);have b1:=qG (F:=F) f1;simp only [List.length_nil] at hcase;rcases hcase with ⟨w7,ds7,rfl,qWY,hs7⟩ | ⟨hs7,rfl⟩
 ·obtain ⟨aw,cw,ew⟩:=qWY.shape;have e:decide (eY p.stmts 6 p.main 0=some p.stmts.length)=decide ((ds7.length:Int)=p.stmts.length):=by
   rw [hs7];exact decide_eq_decide.2 ⟨fun h=>by simp at h; omega,fun h=>by congr 1; omega⟩
  rw [ew];simp only [go_sem,b1];exact qX kb7 ⟨rfl,rfl,_,by rw [e]⟩
 ·simp only [go_sem];exact qX kb7 ⟨rfl,rfl,.slice none 0 0,by rw [hs7]; rfl⟩
theorem wQQ {F0:Fz}{M0 M:Hp}{R:Value->Fz->Hp->Prop}{v:Value}{rm:Nat}{l:List (Int × Value)}(h:F0.mp rm=none)(kb:Keep M0 M)(hr:R v F0 M0):lK (F0.nM rm l) M R v:=
 ⟨F0,M0,(Wk.vDW h).trans (kb.wk F0),hr⟩
def mV (made:List Int):List (Int × Value):=made.reverse.map fun n=>(n,.bool true)
theorem qXH (n:Int):∀(l:List Int) (i:Nat),(n∈l->∃j,qI (l.map fun n=>(n,Value.bool true)) n i=some (j,.bool true))/\(¬n∈l->qI (l.map fun n=>(n,Value.bool true)) n i=none)
 | [],i=>⟨(fun h=>by cases h),fun _=>rfl⟩
 | x :: l,i=>by
  have ih:=qXH n l (i+1);constructor
  ·intro h;by_cases hx:x=n
   ·exact ⟨i,by simp [qI,hx]⟩
   ·have hl:n∈l:=by
     rcases aQ.1 h with e | h
     ·exact absurd e.symm hx
     ·exact h
    obtain ⟨j,hj⟩:=ih.1 hl;exact ⟨j,by simp [qI,hx]; simpa using hj⟩
  ·intro h;have hx:¬x=n:=fun e=>h (by simp [e])
   have hl:¬n∈l:=fun e=>h (by simp [e])
   have:=ih.2 hl;simp [qI,hx]
   simpa using this
theorem jQQ (made:List Int)(n:Int):((qI (mV made) n 0).map (·.2)).getD (.bool false)=.bool (decide (n∈made)):=by
 have:=qXH n made.reverse 0;unfold mV;by_cases h:n∈made
 ·obtain ⟨j,hj⟩:=this.1 (by simpa using h);rw [hj]; simp [h]
 ·rw [this.2 (by simpa using h)]; simp [h]
theorem jJC {made:List Int}{n:Int}(h:¬n∈made):qI (mV made) n 0=none:=(qXH n made.reverse 0).2 (by simpa using h)
theorem jQW (made:List Int)(n:Int):mV made++[(n,.bool true)]=mV (n :: made):=by simp [mV]
theorem yVZ {lo:List Bool}{i:Nat}(h:i < lo.length):(lo.map Value.bool)[i * 1]? = some (.bool (oU lo i)):=by
 rw [Nat.mul_one,List.getElem?_map];unfold oU;rw [List.getElem?_eq_getElem h]; rfl
theorem yVK {lo:List Bool}{i:Nat}{v:Bool}(h:i < lo.length):(lo.map Value.bool).take (i * 1)++[Value.bool v]++(lo.map Value.bool).drop (i * 1+1)=(lo.set i v).map Value.bool:=by
 rw [Nat.mul_one,List.map_set,List.set_eq_take_append_cons_drop,if_pos (by simpa using h)];simp
theorem wYQ (n:Nat):(List.replicate n [Value.bool false]).flatten=(List.replicate n false).map Value.bool:=by
 induction n with
 | zero=>rfl
 | succ n ih=>rw [dS,List.flatten_cons,ih,dS]; rfl
def yZF (op6:Bool)(i:Nat)(lo:List Bool)(k:Int):List Bool:=lo.set k.toNat (oU lo i || op6)
structure FrO (p:Pg)(r1 rl rm:Nat)(F0:Fz)(M0:Hp)(lo:List Bool)(made:List Int)(i:Nat)(σ:Env)(F:Fz)(M:Hp):Prop where
 ff:F=F0.nM rm (mV made)
 kb:Keep M0 M
 old:Old F0 M
 n1:M0 rl=none
 fl:M rl=some ⟨lo.map Value.bool,4,p.stmts.length * 1⟩
 hlo:lo.length=p.stmts.length
 h3:Ax.look σ 3=some (.slice (some ⟨rl,0,none⟩) p.stmts.length p.stmts.length)
 h4:Ax.look σ 4=some (.map (some rm))
 h17:Ax.look σ 17=some (.slice p.sA p.stmts.length p.sC)
 h18:Ax.look σ 18=some (.int .i64 p.stmts.length)
 h19:Ax.look σ 19=some (.int .i64 i)
theorem FrO.ext {p:Pg}{r1 rl rm:Nat}{F0 F:Fz}{M0 M:Hp}{lo:List Bool}{made:List Int}{i:Nat}{σ σ':Env}(s:FrO p r1 rl rm F0 M0 lo made i σ F M)(e3:Ax.look σ' 3=Ax.look σ 3)(e4:Ax.look σ' 4=Ax.look σ 4)(e17:Ax.look σ' 17=Ax.look σ 17)(e18:Ax.look σ' 18=Ax.look σ 18)(e19:Ax.look σ' 19=Ax.look σ 19):FrO p r1 rl rm F0 M0 lo made i σ' F M:=
 ⟨s.ff,s.kb,s.old,s.n1,s.fl,s.hlo,e3.trans s.h3,e4.trans s.h4,e17.trans s.h17,e18.trans s.h18,e19.trans s.h19⟩
theorem FrO.grow {p:Pg}{r1 rl rm:Nat}{F0 F:Fz}{M0 M M':Hp}{lo:List Bool}{made:List Int}{i:Nat}{σ:Env}(s:FrO p r1 rl rm F0 M0 lo made i σ F M)(k:Keep M M')(o:Old F0 M'):FrO p r1 rl rm F0 M0 lo made i σ F M':=
 ⟨s.ff,s.kb.trans k,o,s.n1,k _ _ s.fl,s.hlo,s.h3,s.h4,s.h17,s.h18,s.h19⟩
def frO (p:Pg)(r1 rl rm:Nat)(F0:Fz)(M0:Hp)(m:Nat)(σ:Env)(F:Fz)(M:Hp):Prop:=
 ∃(i:Nat) (lo:List Bool) (made:List Int),FrO p r1 rl rm F0 M0 lo made i σ F M/\i+m=p.stmts.length/\lH p.stmts p.stmts.length 0 (List.replicate p.stmts.length false,[])=lH p.stmts m i (lo,made)
def frI (p:Pg)(r1 rl rm:Nat)(F0:Fz)(M0:Hp)(lo0:List Bool)(made:List Int)(i:Nat)(x:Sm)(L:List Int)(r6:Nat)(m:Nat)(σ:Env)(F:Fz)(M:Hp):Prop:=
 ∃(j:Nat) (lo:List Bool) (u:Value),FrO p r1 rl rm F0 M0 lo made i σ F M/\j+m=L.length/\Ax.look σ 29=some u/\gQ 1 fV 3 F0 M u L/\Ax.look σ 30=some (.int .i64 L.length)/\Ax.look σ 31=some (.int .i64 j)/\
  Ax.look σ 5=some (.int .i64 i)/\Ax.look σ 6=some (.pointer (some ⟨r6,0,none⟩))/\M r6=some ⟨x.cs,80,7⟩/\L.foldl (yZF (decide (x.op=6)) i) lo0=(L.drop j).foldl (yZF (decide (x.op=6)) i) lo
theorem k68 (F:Fz)(M:Hp)(p:Pg)(hp:p.rd F)(hold:Old F M)(hch:∀s∈p.stmts,∀k∈s.body++s.els,0<=k/\k < p.stmts.length) :
  aI prog 68 [p.val] F M (Same F M (.bool (lH p.stmts p.stmts.length 0 (List.replicate p.stmts.length false,[])).isSome)):=by
 refine qZ hm func68 e68 (aA rfl) ?_;have hfew:=hp.few;simp only [c68,go_sem];intro r1 hF1 hM1;simp only [go_sem];refine rY (aN _) (by simp only [maxLen]; omega) (by omega) ?_;intro rl hFl hMl;have gl:=yZ hMl;simp only [go_sem];intro rm hFm hMm hPm;simp only [go_sem,gl];have kb:∀e e',Keep M ((M.upd r1 e).upd rl e'):=fun e e'=>((Keep.refl M).new hM1).new gl.2.2
 refine iQ (frO p r1 rl rm F M) p.stmts.length ?_ ?_
 ·exact ⟨0,List.replicate p.stmts.length false,[],⟨rfl,kb _ _,(hold.upd hF1).upd hFl,gl.2.2,by rw [Hp.qV,wYQ],by simp,by simp only [go_sem],by simp only [go_sem],by simp only [go_sem],by simp only [go_sem],by simp only [go_sem] <;> rfl⟩,by omega,rfl⟩
 clear kb gl hMl hFl hM1 hF1 hMm hFm;rintro m σ F' M1 ⟨i,lo,made,s,hi,hfr⟩;obtain rfl:=s.ff;by_cases hil:(i:Int) < p.stmts.length;rotate_left
 ·have hm0:m=0:=by omega
  subst hm0;simp only [go_sem,s.h18,s.h19,hil];exact wQQ hPm s.kb ⟨by rw [hfr]; rfl,rfl,rfl⟩
 have hi0:(0:Int)<=i:=by omega
 have eU:i < p.stmts.length:=by omega
 have ei:i64.wrap ((i:Int)+1)=i+1:=dQ (by omega) (by omega);obtain ⟨m,rfl⟩:∃q,m=q+1:=⟨m - 1,by omega⟩
 simp only [lH] at hfr;obtain ⟨b,o,cs,ea,hb,d1,d2,d5,d6⟩:=sm_at hp s.old eU;have hbody:=qXV eU;have hels:=qJZ eU;have hop:opAt p.stmts i=p.stmts[i].op:=by unfold opAt; rw [List.getElem?_eq_getElem eU]; rfl
 have hna:nAt p.stmts i=p.stmts[i].n:=by unfold nAt; rw [List.getElem?_eq_getElem eU]; rfl
 have hc:=hch _ (aH eU);have hbd:=hp.bodies _ (aH eU);have hbf:=hfew.2.2.2.2.2 _ (aH eU);have hbz:=hp.zero.2.2 _ (aH eU);generalize p.stmts[i]=x at *;have h17:=s.h17;rw [ea] at h17;simp only [go_sem,h17,s.h18,s.h19,hil,hi0,aB,hb,d1,d2];intro r6 vI oI;have iZ:∀e,Keep M1 (M1.upd r6 e):=fun e=>(Keep.refl M1).new oI
 simp only [go_sem];intro r28 zGB zGC;have g28:=yZ zGC;have zGE:∀e e',Keep M1 ((M1.upd r6 e).upd r28 e'):=fun e e'=>(iZ e).new g28.2.2
 have f6:∀e e',((M1.upd r6 e).upd r28 e') r6=some e:=fun e e'=>by rw [Hp.qK g28.2.1]; exact Hp.qV _ _ _
 have wYW:∀e e',Old F ((M1.upd r6 e).upd r28 e'):=fun e e'=>(s.old.upd vI).upd zGB
 simp only [go_sem];refine wW (jJA _ _ (some ⟨r28,0,none⟩) 2 [(x.ba,x.bc,x.body),(x.ea,x.ec,x.els)] (wYW _ _) (gZ qZC (by simp) (by simp) (by rw [wH]; simp [slC])) ?_ (by simp)) ?_
 ·intro y hy;simp only [aQ,aV,or_false] at hy;rcases hy with rfl | rfl
  ·exact ⟨(hbd _ (wYW _ _)).1,by simp only []; omega,hbz.1⟩
  ·exact ⟨(hbd _ (wYW _ _)).2,by simp only []; omega,hbz.2⟩
 rintro u G M2 hq;have e2:([(x.ba,x.bc,x.body),(x.ea,x.ec,x.els)]:List Lz).flatMap (·.2.2)=x.body++x.els:=by simp
 obtain ⟨L,hL⟩:∃L,L=x.body++x.els:=⟨_,rfl⟩
 rw [e2,<-hL] at hq;have own:=hq.own;have hlen:L.length<=5000:=by rw [hL,aO]; omega
 obtain ⟨hG,le,kq,oq,aq,cq,rfl,rdq⟩:=hq.le wJ (by omega);rw [hG];refine ⟨(fun h=>by cases h),?_⟩;have f62:=kq _ _ (f6 ⟨x.cs,80,7⟩ _);have mY:=oq (wYW _ _);have nG:=(zGE _ _).trans kq;simp only [go_sem];refine iQ (frI p r1 rl rm F M lo made i x L r6) L.length ?_ ?_
 ·exact ⟨0,lo,_,(s.grow nG mY).ext (by simp only [go_sem]) (by simp only [go_sem]) (by simp only [go_sem]) (by simp only [go_sem]) (by simp only [go_sem]),by omega,by simp only [go_sem] <;> rfl,own,by simp only [go_sem],by simp only [go_sem] <;> rfl,by simp only [go_sem],by simp only [go_sem],f62,by rw [List.drop_zero]⟩
 clear own mY nG f62 rdq kq oq le hq e2 wYW f6 zGE g28 zGC zGB iZ oI vI h17 hb;have hset:tV p.stmts i lo=L.foldl (yZF (decide (x.op=6)) i) lo:=by
  unfold tV; rw [hbody,hels,hop,hL]; rfl
 have hlo0:=s.hlo;rw [<-hL] at hc;clear hL;clear s;rintro mi σ F' M2 ⟨j,lo2,u,s,hj,h29,own,h30,h31,h5,h6,f6,hfold⟩;obtain rfl:=s.ff;obtain ⟨au,cu,eu⟩:∃a c,u=.slice a L.length c:=by
  rcases own with ⟨h1,h2⟩ | ⟨g,cap,h1,_⟩
  ·exact ⟨none,0,by rw [h1,h2]; rfl⟩
  ·exact ⟨_,cap,h1⟩
 have rdu:=own.rd wJ (by omega);rw [eu] at h29 rdu;have b6:=qG (F:=F) f6;have bl:=qG (F:=F) s.fl;by_cases hjl:(j:Int) < L.length
 ·have hj0:(0:Int)<=j:=by omega
  have jQX:j < L.length:=by omega
  have ej:i64.wrap ((j:Int)+1)=j+1:=dQ (by omega) (by omega);obtain ⟨b,o,cs,ea,hb,d3⟩:=gW rdu jQX;have hk:=hc _ (aH jQX);rw [dH jQX,List.foldl_cons] at hfold;generalize L[j]=y at *;obtain ⟨z,rfl⟩:=aG hk.1;have hz:z < lo2.length:=by have:=s.hlo; omega
  have hiz:i < lo2.length:=by have:=s.hlo; omega
  have g1:=yVZ hiz;have jJE:∀v,(lo2.map Value.bool).take (z * 1)++[Value.bool v]++(lo2.map Value.bool).drop (z * 1+1)=(lo2.set z v).map Value.bool:=fun v=>yVK hz
  have hzl:z * 1+1<=(lo2.map Value.bool).length:=by rw [bJ]; omega
  rw [ea] at h29;have fin:∀(v:Bool) (σ':Env),v=(oU lo2 i || decide (x.op=6))->Ax.look σ' 3=some (.slice (some ⟨rl,0,none⟩) p.stmts.length p.stmts.length)->Ax.look σ' 4=some (.map (some rm))->Ax.look σ' 17=some (.slice p.sA p.stmts.length p.sC)->Ax.look σ' 18=some (.int .i64 p.stmts.length)->Ax.look σ' 19=some (.int .i64 i)->
    Ax.look σ' 29=some u->Ax.look σ' 30=some (.int .i64 L.length)->Ax.look σ' 31=some (.int .i64 (j+1))->Ax.look σ' 5=some (.int .i64 i)->Ax.look σ' 6=some (.pointer (some ⟨r6,0,none⟩))->
    ∃m',m' < mi/\frI p r1 rl rm F M lo made i x L r6 m' σ' (F.nM rm (mV made)) (M2.upd rl ⟨(lo2.set z v).map Value.bool,4,p.stmts.length * 1⟩):=by
   intro v σ' hv e3 e4 e17 e18 e19 e29 e30 e31 e5 e6;refine ⟨mi - 1,by omega,j+1,lo2.set z v,u,⟨rfl,s.kb.new s.n1,s.old.upd (s.old.free s.fl),s.n1,Hp.qV _ _ _,by rw [aZ]; exact s.hlo,e3,e4,e17,e18,e19⟩,by omega,e29,?_,e30,e31,e5,e6,?_,?_⟩
   ·exact own.frame (e':=4) (fun r x hr hx=>by
     have:¬r=rl:=by rintro rfl; rw [s.fl] at hr; cases hr; exact hx rfl
     rw [Hp.qK this]; exact hr) (by decide)
   ·have:¬r6=rl:=by
     rintro rfl;have h1:=s.fl;rw [f6] at h1;have:=congrArg (fun e=>e.map nH.elem) h1;simp at this
    rw [Hp.qK this]; exact f6
   ·rw [hfold,hv]; rfl
  cases hlp:oU lo2 i
  ·rw [hlp] at g1;by_cases h66:x.op=6
   ·simp only [go_sem,s.h3,h29,h30,h31,h5,h6,hjl,hj0,hil,hi0,hk.1,hk.2,aB,hb,d3,b6,bl,g1,h66,s.fl,hzl];simp only [setH,go_sem,jJE,ej];exact fin true _ (by rw [hlp]; simp [h66]) (by simp only [go_sem,s.h3]) (by simp only [go_sem,s.h4]) (by simp only [go_sem,s.h17]) (by simp only [go_sem,s.h18]) (by simp only [go_sem,s.h19]) (by simp only [go_sem,h29,eu,ea]) (by simp only [go_sem,h30]) (by simp only [go_sem]) (by simp only [go_sem,h5]) (by simp only [go_sem,h6])
   ·simp only [go_sem,s.h3,h29,h30,h31,h5,h6,hjl,hj0,hil,hi0,hk.1,hk.2,aB,hb,d3,b6,bl,g1,h66,s.fl,hzl];simp only [setH,go_sem,jJE,ej];exact fin false _ (by rw [hlp]; simp [h66]) (by simp only [go_sem,s.h3]) (by simp only [go_sem,s.h4]) (by simp only [go_sem,s.h17]) (by simp only [go_sem,s.h18]) (by simp only [go_sem,s.h19]) (by simp only [go_sem,h29,eu,ea]) (by simp only [go_sem,h30]) (by simp only [go_sem]) (by simp only [go_sem,h5]) (by simp only [go_sem,h6])
  ·rw [hlp] at g1;simp only [go_sem,s.h3,h29,h30,h31,h5,hjl,hj0,hil,hi0,hk.1,hk.2,aB,hb,d3,bl,g1,s.fl,hzl];simp only [setH,go_sem,jJE,ej];exact fin true _ (by rw [hlp]; rfl) (by simp only [go_sem,s.h3]) (by simp only [go_sem,s.h4]) (by simp only [go_sem,s.h17]) (by simp only [go_sem,s.h18]) (by simp only [go_sem,s.h19]) (by simp only [go_sem,h29,eu,ea]) (by simp only [go_sem,h30]) (by simp only [go_sem]) (by simp only [go_sem,h5]) (by simp only [go_sem,h6])
 have hjn:j=L.length:=by omega
 have hlo2:tV p.stmts i lo=lo2:=by
  rw [hset,hfold,hjn,List.drop_length]; rfl
 have hiz:i < lo2.length:=by have:=s.hlo; omega
 have g1:=yVZ hiz;have fin:∀(made':List Int) (σ':Env),lX p.stmts (lo,made) i=some (lo2,made')->Ax.look σ' 3=some (.slice (some ⟨rl,0,none⟩) p.stmts.length p.stmts.length)->Ax.look σ' 4=some (.map (some rm))->Ax.look σ' 17=some (.slice p.sA p.stmts.length p.sC)->Ax.look σ' 18=some (.int .i64 p.stmts.length)->Ax.look σ' 19=some (.int .i64 (i+1))->
   ∃m',m' < m+1/\frO p r1 rl rm F M m' σ' (F.nM rm (mV made')) M2:=fun made' σ' hst e3 e4 e17 e18 e19=>
  ⟨m,by omega,i+1,lo2,made',⟨rfl,s.kb,s.old,s.n1,s.fl,s.hlo,e3,e4,e17,e18,e19⟩,by omega,by rw [hfr,hst]; rfl⟩
 by_cases h33:x.op=3;rotate_left
 ·simp only [go_sem,s.h19,h30,h31,h6,hjl,b6,h33,ei];exact fin made _ (by unfold lX; rw [hop,if_neg h33,hlo2]) (by simp only [go_sem,s.h3]) (by simp only [go_sem,s.h4]) (by simp only [go_sem,s.h17]) (by simp only [go_sem,s.h18]) (by simp only [go_sem])
 cases hlp:oU lo2 i;rotate_left
 ·rw [hlp] at g1;simp only [go_sem,s.h3,h30,h31,h5,h6,hjl,b6,bl,h33,hi0,hil,aB,g1];refine wQQ hPm s.kb ⟨?_,rfl,rfl⟩;have:lX p.stmts (lo,made) i=none:=by
   unfold lX; rw [hop,if_pos h33,hlo2,if_pos (.inl hlp)]
  rw [hfr,this]; rfl
 rw [hlp] at g1;simp only [go_sem,s.h3,s.h4,h30,h31,h5,h6,hjl,b6,bl,h33,hi0,hil,aB,g1];refine xYF yGZ ?_;rw [jQQ];by_cases hmd:x.n∈made
 ·simp only [go_sem,hmd,decide_true];refine wQQ hPm s.kb ⟨?_,rfl,rfl⟩;have:lX p.stmts (lo,made) i=none:=by
   unfold lX; rw [hop,if_pos h33,hlo2,hna,if_pos (.inr hmd)]
  rw [hfr,this]; rfl
 ·simp only [go_sem,s.h4,h6,b6,hmd,decide_false];refine vQQ yGZ (jJC hmd) ?_;rw [yYX,jQW];simp only [go_sem,s.h19,ei];exact fin (x.n :: made) _ (by
   unfold lX; rw [hop,if_pos h33,hlo2,hna,if_neg (by rw [hlp]; simp [hmd])]) (by simp only [go_sem,s.h3]) (by simp only [go_sem,s.h4]) (by simp only [go_sem,s.h17]) (by simp only [go_sem,s.h18]) (by simp only [go_sem])
end Go.Proofs.Tryz.K
namespace Go.Ax
open Go
theorem wQW (st:List Sm):∀(k:Nat) (l:List Int) (a b:Nat),eY st k l a=some b->∀m:Nat,a<=m->m < b->∀c∈kL st m++lN st m,(m:Int) < c/\c < b
 | 0,l,a,b,h,m,hm,hb=>by
  simp only [eY] at h;split at h
  ·cases h; omega
  ·cases h
 | k+1,l,a,b,h,m,hm,hb=>by
  simp only [eY] at h
  induction l generalizing a with
  | nil=>simp at h; omega
  | cons s l ih=>
   rw [List.foldlM_cons] at h;by_cases hs:s=(a:Int)/\a < st.length
   ·rw [if_pos hs] at h;cases h1:eY st k (kL st a) (a+1) with
    | none=>rw [h1] at h; simp at h
    | some m1=>
     cases h2:eY st k (lN st a) m1 with
     | none=>rw [h1] at h; simp [h2] at h
     | some m2=>
      rw [h1] at h;simp only [bY,h2,Option.bind_eq_bind] at h;obtain ⟨a1,a2,a3⟩:=kX st k _ _ _ h1;obtain ⟨b1,b2,b3⟩:=kX st k _ _ _ h2;have hc:=(kX st (k+1) l m2 b (by simpa only [eY] using h)).1;intro c hc';by_cases e:m=a
      ·subst e;rcases aW.1 hc' with hc' | hc'
       ·have:=a2 c hc'; omega
       ·have:=b2 c hc'; omega
      by_cases e1:m < m1
      ·have:=wQW st k _ _ _ h1 m (by omega) e1 c hc'; omega
      by_cases e2:m < m2
      ·have:=wQW st k _ _ _ h2 m (by omega) e2 c hc'; omega
      ·exact ih m2 h (by omega) c hc'
   ·rw [if_neg hs] at h; simp at h
def vO (n:Int):Bool:=decide (1<=n) && decide (n<=32)
def rC (l:List Int)(most:Nat):Bool:=decide (l.length<=most) && l.all vO
def wY (p:Pg):Bool:=
 (decide (p.ptr=2) || decide (p.ptr=4)) && rC p.vars 4 && rC p.news 2 && decide (p.exprs.length<=120) && decide (p.stmts.length<=40) &&
 qU p.vars.length p.exprs p.exprs.length && p.stmts.all (tY p.vars.length p.news.length p.exprs) && qXJ p.stmts p.main
def zK (p:Pg):Bool:=
 (decide (p.ptr=2) || decide (p.ptr=4)) && rC p.vars 4 && rC p.news 2 && decide (p.exprs.length<=120) && decide (p.stmts.length<=40) &&
 wR p.vars.length p.exprs p.exprs.length && p.stmts.all (pF p.vars.length p.news.length p.exprs) && zW p.stmts p.main
theorem jQZ {nv nn:Nat}{es:List Xp}{st:List Sm}(h:st.all (tY nv nn es)=true):∀m,lN st m≠[]->¬opAt st m=6:=by
 intro m hne h6;by_cases hm:m < st.length
 ·have:=bW.1 h _ (aH hm);have e1:lN st m=st[m].els:=by unfold lN; rw [List.getElem?_eq_getElem hm]; rfl
  have e2:opAt st m=st[m].op:=by unfold opAt; rw [List.getElem?_eq_getElem hm]; rfl
  rw [e1] at hne;rw [e2] at h6;have hp:0 < st[m].els.length:=List.length_pos_iff.2 hne;simp [tY,jK,h6,hp] at this
 ·apply hne;unfold lN;rw [List.getElem?_eq_none (by omega)]; rfl
theorem xZG (p:Pg):zK p=wY p:=by
 unfold zK wY;have hx:=wDB p.vars.length p.exprs p.exprs.length (aN _);have hs:pF p.vars.length p.news.length p.exprs=tY p.vars.length p.news.length p.exprs:=funext (xXF _ _ _);rw [hx,hs];cases h:p.stmts.all (tY p.vars.length p.news.length p.exprs)
 ·simp
 ·rw [jJH p.stmts p.main (jQZ h)]
theorem wYX {st:List Sm}{main:List Int}(h:eY st 6 main 0=some st.length):∀s∈st,∀k∈s.body++s.els,0<=k/\k < st.length:=by
 intro s hs k hk;obtain ⟨i,hi,rfl⟩:=bZ hs;have e1:kL st i=st[i].body:=by unfold kL; rw [List.getElem?_eq_getElem hi]; rfl
 have e2:lN st i=st[i].els:=by unfold lN; rw [List.getElem?_eq_getElem hi]; rfl
 have:=wQW st 6 main 0 _ h i (Nat.zero_le _) hi k (by rw [e1,e2]; exact hk);omega
end Go.Ax
namespace Go.Ax
open Go
set_option linter.unusedVariables false
set_option linter.unusedSimpArgs false
def wGK (l:List SO):List Nat:=l.filterMap (·.d)
def SC.defs:SC->List Nat
 | .ops l=>wGK l
 | .zO l=>wGK l
 | .opq l=>wGK l
 | .seq a b=>a.defs++b.defs
 | .cond _ a b=>a.defs++b.defs
 | .block _ c=>c.defs
 | .loop c=>c.defs
 | _=>[]
def sD (ds:List Nat)(σ σ':Env):Prop:=∀t,ds.contains t=false->look σ' t=look σ t
theorem sD.refl (ds:List Nat)(σ:Env):sD ds σ σ:=fun _ _=>rfl
theorem sD.trans {ds:List Nat}{a b c:Env}(h:sD ds a b)(k:sD ds b c):sD ds a c:=fun t ht=>(k t ht).trans (h t ht)
theorem sD.mono {ds es:List Nat}{a b:Env}(h:sD ds a b)(hs:∀t,t∈ds->t∈es):sD es a b:=fun t ht=>h t (by
 cases hd:ds.contains t
 ·rfl
 ·rw [List.contains_iff_mem] at hd;have:=hs t hd;rw [<-List.contains_iff_mem,ht] at this;cases this)
theorem sD.put {ds:List Nat}{σ:Env}{d:Option Nat}{v:Value}(h:∀t,d=some t->t∈ds):sD ds σ (put σ d v):=fun t ht=>by
 cases d with
 | none=>rfl
 | some k=>
  have hk:=h k rfl;have:¬k=t:=by
   rintro rfl;rw [<-List.contains_iff_mem,ht] at hk;cases hk
  simp [Ax.put,look,this]
theorem wZB {P:Program}{s:Bool}{d:Option Nat}{k:SK}{K:Env->Fz->Hp->Prop}{σ:Env}{F:Fz}{M:Hp}
  (h:iR P s d k K σ F M):iR P s d k (fun σ' F' M'=>(∃v,σ'=put σ d v)/\K σ' F' M') σ F M:=by
 cases k <;> simp only [iR] at h ⊢
 case p q=>obtain ⟨v,h1,h2⟩:=h; exact ⟨v,h1,⟨v,rfl⟩,h2⟩
 case al e z=>exact fun r h1 h2=>⟨⟨_,rfl⟩,h r h1 h2⟩
 case bx e x=>obtain ⟨v,h1,h2⟩:=h; exact ⟨v,h1,fun r a b=>⟨⟨_,rfl⟩,h2 r a b⟩⟩
 case bs e len z parts=>obtain ⟨ps,h1,cs,h2,h3⟩:=h; exact ⟨ps,h1,cs,h2,fun r a b=>⟨⟨_,rfl⟩,h3 r a b⟩⟩
 case ap e es bytes x y=>obtain ⟨v,h1,u,h2,n,xs,h3,m,ys,h4,h5,h6,h7,h8⟩:=h; exact ⟨v,h1,u,h2,n,xs,h3,m,ys,h4,h5,h6,h7,fun v' M' a=>⟨⟨_,rfl⟩,h8 v' M' a⟩⟩
 case st fl n a x=>obtain ⟨b,o,h1,v,h2,e,h3,h4,h5,h6,h7,h8⟩:=h; exact ⟨b,o,h1,v,h2,e,h3,h4,h5,h6,h7,⟨_,rfl⟩,h8⟩
 case ms e es bytes z l c=>obtain ⟨k,n,h1,k',m,h2,h3,h4,h5,h6⟩:=h; exact ⟨k,n,h1,k',m,h2,h3,h4,h5,fun r a b=>⟨⟨_,rfl⟩,h6 r a b⟩⟩
 case cp es x y=>obtain ⟨b,o,n,c,h1,u,h2,m,ys,h3,h4,e,h5,h6,h7⟩:=h; exact ⟨b,o,n,c,h1,u,h2,m,ys,h3,h4,e,h5,h6,⟨_,rfl⟩,h7⟩
 case ca f args=>obtain ⟨g,fi,c,h1,vs,h2,h3⟩:=h; exact ⟨g,fi,c,h1,vs,h2,h3.mono fun v F' M' ⟨a,b⟩=>⟨a,⟨_,rfl⟩,b⟩⟩
 case cq f args=>obtain ⟨g,fi,c,h1,vs,h2,h3⟩:=h; exact ⟨g,fi,c,h1,vs,h2,h3.mono fun v F' M' b=>⟨⟨_,rfl⟩,b⟩⟩
 case cf fl f args=>obtain ⟨g,fi,c,h1,vs,h2,h3⟩:=h; exact ⟨g,fi,c,h1,vs,h2,h3.mono fun v F' M' ⟨a,b⟩=>⟨a,⟨_,rfl⟩,b⟩⟩
 case gz e es bytes z x n=>obtain ⟨k,m,h1,h2,h3,h4,h5,h6⟩:=h; exact ⟨k,m,h1,h2,h3,h4,h5,fun r c a b p q=>⟨⟨_,rfl⟩,h6 r c a b p q⟩⟩
 case mm=>exact fun r h1 h2 h3=>⟨⟨_,rfl⟩,h r h1 h2 h3⟩
 case ml z x i=>obtain ⟨r,l,n,h1,h2,h3,h4⟩:=h; exact ⟨r,l,n,h1,h2,h3,⟨_,rfl⟩,h4⟩
 case mu x i y=>obtain ⟨r,l,n,v,h1,h2,h3,h4,h5,h6⟩:=h; exact ⟨r,l,n,v,h1,h2,h3,h4,h5,⟨_,rfl⟩,h6⟩
 case cl es z x=>
  obtain ⟨a,n,c,h1,h2,h3,h4⟩:=h;refine ⟨a,n,c,h1,h2,h3,?_⟩;rcases h4 with ⟨h4,h5⟩ | ⟨h4,b,o,e,h5,h6,h7,h8⟩
  ·exact .inl ⟨h4,⟨_,rfl⟩,h5⟩
  ·exact .inr ⟨h4,b,o,e,h5,h6,h7,⟨_,rfl⟩,h8⟩
theorem jQK {P:Program}{s:Bool}{o:SO}{K:Env->Fz->Hp->Prop}{σ:Env}{F:Fz}{M:Hp}
  (h:stepG P s o K σ F M):stepG P s o (fun σ' F' M'=>(∃v,σ'=put σ o.d v)/\K σ' F' M') σ F M:=by
 unfold stepG at *;split
 ·rename_i hg; rw [hg] at h; exact wZB h
 ·rename_i t want hg;rw [hg] at h;obtain ⟨v,h1,h2,h3⟩:=h;exact ⟨v,h1,fun a=>wZB (h2 a),fun a=>⟨⟨_,rfl⟩,h3 a⟩⟩
theorem qJK {P:Program}{s:Bool}:∀{l:List SO} {K:Env->Fz->Hp->Prop} {σ:Env} {F:Fz} {M:Hp},iD P s l K σ F M->iD P s l (fun σ' F' M'=>sD (wGK l) σ σ'/\K σ' F' M') σ F M:=by
 intro l
 induction l with
 | nil=>intro K σ F M h; exact ⟨sD.refl _ _,h⟩
 | cons o l ih=>
  intro K σ F M h;refine vM (fun σ1 F1 M1 hk=>?_) (jQK h);obtain ⟨⟨v,rfl⟩,hk⟩:=hk;refine uZ (fun σ2 F2 M2 hk=>?_) (ih hk);have hd:∀t,o.d=some t->t∈wGK (o :: l):=fun t ht=>by simp [wGK,ht]
  have hs:∀t,t∈wGK l->t∈wGK (o :: l):=fun t ht=>by
   simp only [wGK,List.filterMap_cons] at ht ⊢;split
   ·exact ht
   ·exact List.mem_cons_of_mem _ ht
  exact ⟨(sD.put hd).trans (hk.1.mono hs),hk.2⟩
theorem wGJ {P:Program}:∀{c:SC} {Q:Post} {σ:Env} {F:Fz} {M:Hp},W P c Q σ F M->W P c (fun x σ' F' M'=>sD c.defs σ σ'/\Q x σ' F' M') σ F M:=by
 intro c
 induction c with
 | bad=>intro Q σ F M h; exact h.elim
 | skip=>intro Q σ F M h; exact ⟨sD.refl _ _,h⟩
 | ret=>intro Q σ F M h; exact ⟨sD.refl _ _,h⟩
 | exit i=>intro Q σ F M h; exact ⟨sD.refl _ _,h⟩
 | ops l=>intro Q σ F M h; exact qJK h
 | zO l=>intro Q σ F M h; exact qJK h
 | opq l=>intro Q σ F M h; exact qJK h
 | seq a b iha ihb=>
  intro Q σ F M h;show W P a (Post.andThen (W P b _) _) σ F M;refine rX (fun x σ1 F1 M1 hx=>?_) (iha h);cases x with
  | n=>exact rX (fun x σ2 F2 M2 hy=>⟨(hx.1.mono (by simp [SC.defs]; intros; simp [*])).trans (hy.1.mono (by simp [SC.defs]; intros; simp [*])),hy.2⟩) (ihb hx.2)
  | r=>exact ⟨hx.1.mono (by simp [SC.defs]; intros; simp [*]),hx.2⟩
  | e i=>exact ⟨hx.1.mono (by simp [SC.defs]; intros; simp [*]),hx.2⟩
 | cond c a b iha ihb=>
  intro Q σ F M h;obtain ⟨t,h1,h2,h3⟩:=h;exact ⟨t,h1,fun ht=>rX (fun x σ1 F1 M1 hx=>⟨hx.1.mono (by simp [SC.defs]; intros; simp [*]),hx.2⟩) (iha (h2 ht)),fun ht=>rX (fun x σ1 F1 M1 hx=>⟨hx.1.mono (by simp [SC.defs]; intros; simp [*]),hx.2⟩) (ihb (h3 ht))⟩
 | block i c ih=>
  intro Q σ F M h;show W P c (Post.inBlock i _) σ F M;refine rX (fun x σ1 F1 M1 hx=>?_) (ih h);cases x with
  | n=>exact hx
  | r=>exact hx
  | e j=>simp only [Post.inBlock] at hx ⊢; split <;> simp_all [SC.defs]
 | loop c ih=>
  intro Q σ F M h;obtain ⟨I,n,⟨F1,M1,hw,h1⟩,h2⟩:=h;refine ⟨fun n σ' F' M'=>sD c.defs σ σ'/\I n σ' F' M',n,⟨F1,M1,hw,sD.refl _ _,h1⟩,fun n σ1 F1 M1 hi=>?_⟩;refine rX (fun x σ2 F2 M2 hx=>?_) (ih (h2 n σ1 F1 M1 hi.2));cases x with
  | n=>obtain ⟨hs,m,hm,hk⟩:=hx; exact ⟨m,hm,hi.1.trans hs,hk⟩
  | r=>exact ⟨hi.1.trans hx.1,hx.2⟩
  | e j=>exact ⟨hi.1.trans hx.1,hx.2⟩
structure At (I:Env->Fz->Hp->Prop)(σ:Env)(F:Fz)(M:Hp):Prop where
 h:I σ F M
structure Nxt (I:Nat->Env->Fz->Hp->Prop)(N i:Nat)(σ:Env)(F:Fz)(M:Hp):Prop where
 lt:i < N
 h:I (i+1) σ F M
structure Nxd (I:Nat->Env->Fz->Hp->Prop)(n:Nat)(σ:Env)(F:Fz)(M:Hp):Prop where
 h:∃m,m < n/\I m σ F M
section
variable {P:Program} {a b c:SC} {Q:Post} {σ:Env} {F:Fz} {M:Hp}
theorem xZV (I:Nat->Env->Fz->Hp->Prop)(n:Nat)(h0:I n σ F M)
  (h:∀n σ' F' M',sD c.defs σ σ'->I n σ' F' M'->W P c (Post.andThen (Nxd I n) Q) σ' F' M'):W P (.loop c) Q σ F M:=by
 refine ⟨fun n σ' F' M'=>sD c.defs σ σ'/\I n σ' F' M',n,⟨F,M,Wk.refl F M,sD.refl _ _,h0⟩,fun n σ1 F1 M1 hi=>?_⟩;refine rX (fun x σ2 F2 M2 hx=>?_) (wGJ (h n σ1 F1 M1 hi.1 hi.2));cases x with
 | n=>obtain ⟨hs,⟨m,hm,hk⟩⟩:=hx; exact ⟨m,hm,hi.1.trans hs,hk⟩
 | r=>exact hx.2
 | e j=>exact hx.2
theorem wV (N:Nat)(I:Nat->Env->Fz->Hp->Prop)(h0:I 0 σ F M)
  (h:∀i σ' F' M',i<=N->sD c.defs σ σ'->I i σ' F' M'->W P c (Post.andThen (Nxt I N i) Q) σ' F' M'):W P (.loop c) Q σ F M:=by
 refine xZV (fun n σ F M=>∃i,i+n=N/\I i σ F M) N ⟨0,by omega,h0⟩ ?_;rintro n σ' F' M' hs ⟨i,hi,hI⟩;refine rX (fun x σ2 F2 M2 hx=>?_) (h i σ' F' M' (by omega) hs hI);cases x with
 | n=>obtain ⟨hlt,hk⟩:=hx; exact ⟨⟨n - 1,by omega,i+1,by omega,hk⟩⟩
 | r=>exact hx
 | e j=>exact hx
theorem wQX (h:W P c (Post.andThen (fun _ _ _=>False) Q) σ F M):W P (.loop c) Q σ F M:=
 iQ (fun _ σ' F' M'=>σ'=σ/\F'=F/\M'=M) 0 ⟨rfl,rfl,rfl⟩ (by
  rintro n σ' F' M' ⟨rfl,rfl,rfl⟩;exact rX (fun x _ _ _ hx=>by
   cases x with
   | n=>exact hx.elim
   | r=>exact hx
   | e i=>exact hx) h)
theorem jJF {i:Nat}(I:Env->Fz->Hp->Prop)(h:W P c (Post.inBlock i (yZK (At I) Q)) σ F M)(hn:∀σ' F' M',sD c.defs σ σ'->I σ' F' M'->Q .n σ' F' M'):W P (.block i c) Q σ F M:=by
 show W P c (Q.inBlock i) σ F M;refine rX (fun x σ2 F2 M2 hx=>?_) (wGJ h);cases x with
 | n=>exact hn _ _ _ hx.1 hx.2.h
 | r=>exact hx.2
 | e j=>
  simp only [Post.inBlock] at hx ⊢;split
  ·rename_i hj; rw [if_pos hj] at hx; exact hn _ _ _ hx.1 hx.2.h
  ·rename_i hj; rw [if_neg hj] at hx; exact hx.2
end
theorem tO {P:Program}{s:Bool}{d:Option Nat}{l:List SO}{K:Env->Fz->Hp->Prop}{σ:Env}{F:Fz}{M:Hp}{b:Bool}{k:SK}(h1:b=true->stepW P s d l K σ F M k)(h2:b=false->iD P s l K (put σ d undef) F M):gK P s d l K σ F M true k (some (.bool b)):=
 qZJ h1 h2
theorem fO {P:Program}{s:Bool}{d:Option Nat}{l:List SO}{K:Env->Fz->Hp->Prop}{σ:Env}{F:Fz}{M:Hp}{b:Bool}{k:SK}(h1:b=false->stepW P s d l K σ F M k)(h2:b=true->iD P s l K (put σ d undef) F M):gK P s d l K σ F M false k (some (.bool b)):=
 qZJ h1 h2
section
variable {P:Program} {s:Bool} {d:Option Nat} {l:List SO} {K:Env->Fz->Hp->Prop} {σ:Env} {F:Fz} {M:Hp} {k:SK} {a b:SC} {Q:Post} {p:Prop} [Decidable p]
theorem tD (h1:p->stepW P s d l K σ F M k)(h2:¬p->iD P s l K (put σ d undef) F M):gK P s d l K σ F M true k (some (.bool (decide p))):=
 tO (fun h=>h1 (of_decide_eq_true h)) (fun h=>h2 (of_decide_eq_false h))
theorem fD (h1:¬p->stepW P s d l K σ F M k)(h2:p->iD P s l K (put σ d undef) F M):gK P s d l K σ F M false k (some (.bool (decide p))):=
 fO (fun h=>h1 (of_decide_eq_false h)) (fun h=>h2 (of_decide_eq_true h))
theorem tN (h1:¬p->stepW P s d l K σ F M k)(h2:p->iD P s l K (put σ d undef) F M):gK P s d l K σ F M true k (some (.bool (!decide p))):=
 tO (fun h=>h1 (of_decide_eq_false (by simpa using h))) (fun h=>h2 (of_decide_eq_true (by simpa using h)))
theorem fN (h1:p->stepW P s d l K σ F M k)(h2:¬p->iD P s l K (put σ d undef) F M):gK P s d l K σ F M false k (some (.bool (!decide p))):=
 fO (fun h=>h1 (of_decide_eq_true (by simpa using h))) (fun h=>h2 (of_decide_eq_false (by simpa using h)))
theorem cO {t:Bool}(h1:t=true->W P a Q σ F M)(h2:t=false->W P b Q σ F M):zI P a b Q σ F M (some (.bool t)):=qZG h1 h2
theorem cD (h1:p->W P a Q σ F M)(h2:¬p->W P b Q σ F M):zI P a b Q σ F M (some (.bool (decide p))):=
 qZG (fun h=>h1 (of_decide_eq_true h)) (fun h=>h2 (of_decide_eq_false h))
theorem cN (h1:¬p->W P a Q σ F M)(h2:p->W P b Q σ F M):zI P a b Q σ F M (some (.bool (!decide p))):=
 qZG (fun h=>h1 (of_decide_eq_false (by simpa using h))) (fun h=>h2 (of_decide_eq_true (by simpa using h)))
theorem cB {c:Bool}(h1:c=false->W P a Q σ F M)(h2:c=true->W P b Q σ F M):zI P a b Q σ F M (some (.bool (!c))):=
 qZG (fun h=>h1 (by simpa using h)) (fun h=>h2 (by simpa using h))
end
section
variable {P:Program} {s:Bool} {d:Option Nat} {l:List SO} {K:Env->Fz->Hp->Prop} {σ:Env} {F:Fz} {M:Hp} {k:SK} {c:Bool}
theorem tB (h1:c=false->stepW P s d l K σ F M k)(h2:c=true->iD P s l K (put σ d undef) F M):gK P s d l K σ F M true k (some (.bool (!c))):=
 tO (fun h=>h1 (by simpa using h)) (fun h=>h2 (by simpa using h))
theorem fB (h1:c=true->stepW P s d l K σ F M k)(h2:c=false->iD P s l K (put σ d undef) F M):gK P s d l K σ F M false k (some (.bool (!c))):=
 fO (fun h=>h1 (by simpa using h)) (fun h=>h2 (by simpa using h))
end
theorem qD {M:Hp}{b r:Nat}{e:nH}:((M.upd b e) r=none)=((¬r=b/\¬b=r)/\M r=none):=by
 rw [nX];apply propext;constructor
 ·rintro ⟨h1,h2⟩; exact ⟨⟨h1,fun e=>h1 e.symm⟩,h2⟩
 ·rintro ⟨⟨h1,_⟩,h2⟩; exact ⟨h1,h2⟩
def Fz.all (F:Fz)(A:Hp):Fz:={ f:=fun b=>blk F A b,mp:=F.mp }
def Hp.join (A B:Hp):Hp:=fun b=>match A b with | some e=>some e | none=>B b
theorem join_none {A B:Hp}{b:Nat}:(A.join B) b=none↔A b=none/\B b=none:=by
 unfold Hp.join; cases h:A b <;> simp
theorem oP {A B:Hp}{b:Nat}{e:nH}(h:A b=some e):(A.join B) b=some e:=by
 unfold Hp.join; rw [h]
theorem sG {A B:Hp}{b:Nat}(h:A b=none):(A.join B) b=B b:=by
 unfold Hp.join; rw [h]
theorem wZC (A:Hp):A.join qKB=A:=by
 funext b; unfold Hp.join; cases A b <;> rfl
theorem aI.lend {P:Program}{f:FuncId}{args:List Value}{F:Fz}{A B:Hp}{R:Value->Fz->Hp->Prop}(hd:∀b,B b≠none->A b=none)
  (h:aI P f args (F.all A) B fun v F' N=>F'=F.all A/\R v F' N) :
  aI P f args F (A.join B) fun v F' M'=>F'=F/\∃N,M'=A.join N/\(∀b,N b≠none->A b=none/\F b=none)/\R v (F.all A) N:=by
 refine ⟨h.1,fun w hw=>?_⟩;have hr:Rel (F.all A) B w:=by
  refine ⟨fun b c hb=>?_,fun b n hb=>?_,fun b hb=>?_,hw.mp⟩
  ·cases ha:A b with
   | some e=>
    have hb':blk F A b=some c:=hb;rw [qG ha] at hb';cases hb';obtain ⟨cur,h1,h2,_⟩:=hw.mu b e (oP ha);exact ⟨cur,_,_,h1,h2⟩
   | none=>
    have hb':blk F A b=some c:=hb;simp only [blk,ha] at hb';exact hw.fz b c hb'
  ·exact hw.mu b n (by rw [sG (hd b (by rw [hb]; simp))]; exact hb)
  ·have ha:=hd b hb;show blk F A b=none;simp only [blk,ha];exact hw.ap b (fun e=>hb (join_none.1 e).2)
 refine (h.2 w hr).mono fun en w' ⟨v,F',N,he,h1,h2,hF,hR⟩=>?_
 subst hF;have hN:∀b,N b≠none->A b=none/\F b=none:=fun b hb=>by
  have h3:blk F A b=none:=h1.ap b hb;cases ha:A b with
  | some e=>rw [qG ha] at h3; cases h3
  | none=>simp only [blk,ha] at h3; exact ⟨rfl,h3⟩
 refine ⟨v,F,A.join N,he,⟨fun b c hb=>?_,fun b n hb=>?_,fun b hb=>?_,h1.mp⟩,⟨h2.os,h2.tape,h2.output,h2.size,fun b hb hm hp=>?_⟩,rfl,N,rfl,hN,hR⟩
 ·have ha:A b=none:=by
   cases ha:A b with
   | none=>rfl
   | some e=>have:=hw.ap b (by rw [oP ha]; simp); rw [hb] at this; cases this
  exact h1.fz b c (by show blk F A b=some c; simp only [blk,ha]; exact hb)
 ·cases ha:A b with
  | some x=>
   rw [oP ha] at hb;cases hb;obtain ⟨cur,g1,g2,g3⟩:=hw.mu b n (oP ha);have hlt:=(Array.getElem?_eq_some_iff.1 g1).1;have hB:B b=none:=by
    cases hB:B b with
    | none=>rfl
    | some x=>have:=hd b (by rw [hB]; simp); rw [ha] at this; cases this
   have:=h2.block b hlt hB (hw.wHX (oP ha));exact ⟨cur,by rw [this.1]; exact g1,g2,g3⟩
  | none=>exact h1.mu b n (by rw [sG ha] at hb; exact hb)
 ·cases ha:A b with
  | some e=>exact hw.ap b (by rw [oP ha]; simp)
  | none=>
   rw [sG ha] at hb;exact (hN b hb).2
 ·obtain ⟨ha,hB⟩:=join_none.1 hm;obtain ⟨g1,g2,g3,_⟩:=h2.block b hb hB hp;exact ⟨g1,join_none.2 ⟨ha,g2⟩,g3,id⟩
def Makes (F:Fz)(M:Hp)(Q:Value->Hp->Prop):Value->Fz->Hp->Prop:=fun v F' M'=>F'=F/\Keep M M'/\Old F M'/\Q v M'
theorem aI.wYZ {P:Program}{f:FuncId}{args:List Value}{F:Fz}{M:Hp}{v:Value}
  (h:aI P f args (F.all M) qKB (fun u F' M'=>u=v/\F'=F.all M/\M'=qKB)):aI P f args F M (fun u F' M'=>u=v/\F'=F/\M'=M):=by
 have h1:=aI.lend (A:=M) (B:=qKB) (R:=fun u _ N=>u=v/\N=qKB) (fun b hb=>absurd rfl hb) (h.mono fun u F' N hq=>⟨hq.2.1,hq.1,hq.2.2⟩);rw [wZC] at h1;refine h1.mono fun u F' M' hq=>?_
 obtain ⟨hF,N,rfl,hN,hu,hn⟩:=hq;rw [hn,wZC];exact ⟨hu,hF,rfl⟩
theorem dF.yP {α:Type}{sz:Nat}{f:α->List Value}{F:Fz}{M:Hp}{u:Value}{l:List α}(h:dF sz f F M u l){N:Hp}(hN:Old (F.all M) N):dF sz f (F.all M) N u l:=by
 obtain ⟨h1,ad,cap,h2,h3,h4⟩:=h;refine ⟨h1,ad,cap,h2,h3,?_⟩;rcases h4 with h4 | ⟨b,o,cs,g1,g2,g3⟩
 ·exact .inl h4
 ·exact .inr ⟨b,o,cs,g1,hN.blk g2,g3⟩
theorem jT {F:Fz}{M:Hp}{b r:Nat}{cs:List Value}(h:blk F M b=some cs)(hF:F r=none)(hM:M r=none):¬b=r:=by
 rintro rfl;simp [blk,hM,hF] at h
theorem wX {F:Fz}{M:Hp}{b r:Nat}{e:nH}(h:(blk F M b).isSome=true)(hF:F r=none)(hM:M r=none):blk F (M.upd r e) b=blk F M b:=by
 obtain ⟨cs,hc⟩:=Option.isSome_iff_exists.1 h;exact iG (jT hc hF hM)
theorem dF.rows {α:Type}{sz:Nat}{f:α->List Value}{F:Fz}{M:Hp}{a:Option Addr}{c:Nat}{l:List α}(h:dF sz f F M (.slice a l.length c) l)(hl:0 < l.length) :
  ∃b o cs,a=some ⟨b,o,none⟩/\blk F M b=some cs/\∀i (hi:i < l.length),o+i * sz+sz<=cs.length/\(cs.drop (o+i * sz)).take sz=f l[i]:=by
 obtain ⟨_,ad,cap,_,e,h⟩:=h;cases e;rcases h with h | ⟨b,o,cs,rfl,hb,hc⟩
 ·rw [h] at hl; simp at hl
 ·exact ⟨b,o,cs,rfl,hb,hc⟩
end Go.Ax
