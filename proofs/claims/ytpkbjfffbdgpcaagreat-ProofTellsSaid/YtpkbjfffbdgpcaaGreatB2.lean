/- Parts B2: the machine's runs of small codes, contracts of functions, plain facts. -/
import Derived.Test.YtpkbjfffbdgpcaaGreatB1
open Nat renaming add_zero->aK,le_of_ble_eq_true->aA,le_refl->aN,lt_of_le_of_lt->dI,sub_self->fM,zero_add->aY,zero_mul->dX
open Int renaming toNat_natCast->aB
open Bool renaming and_eq_true->aC,eq_iff_iff->dG,or_eq_true->dJ,true_and->bQ
open List renaming all_eq_false->dP,all_eq_true->bW,drop_eq_getElem_cons->dH,drop_eq_nil_of_le->dL,getElem_mem->aH,getElem_of_mem->bZ,length_append->aO,length_cons->fF,length_map->bJ,length_set->aZ,length_take->dW,mem_append->aW,mem_cons->aQ,not_mem_nil->aV,take_of_length_le->aJ,take_succ_eq_append_getElem->aF
open Option renaming bind_some->bY
open Go.Proofs.Tryz
open Go.IntKind (i64)
set_option maxRecDepth 100000
set_option linter.unusedSimpArgs false
set_option linter.unusedVariables false
namespace Go.Proofs.Tryz.K
open Go Go.Ax Go.Proofs.Tryz.S
variable (F:Fz) (M:Hp)
theorem qYD (k:Int):aI prog 101 [.int .i64 k] F M (Same F M (.bool (isK k))):=by
 refine qZ hm func101 kWD (aA rfl) ?_;by_cases h1:1<=k
 ·by_cases h2:k<=6
  ·simp only [xWC,go_sem,h1,h2];exact qW ⟨by simp [isK,h1,h2],rfl,rfl⟩
  ·simp only [xWC,go_sem,h1,h2];exact qW ⟨by simp [isK,h1,h2],rfl,rfl⟩
 ·simp only [xWC,go_sem,h1];exact qW ⟨by simp [isK,h1],rfl,rfl⟩
theorem qHZ (k:Int)(hk:isK k=true):aI prog 136 [.int .i64 k] F M (Same F M (.int .i64 (iF k))):=by
 refine qZ hm func136 kXE (aA rfl) ?_
 have q0:(0:Int).tdiv 2=0:=by decide
 have q1:(1:Int).tdiv 2=0:=by decide
 have q2:(2:Int).tdiv 2=1:=by decide
 have q3:(3:Int).tdiv 2=1:=by decide
 have q4:(4:Int).tdiv 2=2:=by decide
 have q5:(5:Int).tdiv 2=2:=by decide
 have w0:i64.wrap 0=0:=by decide
 have w1:i64.wrap 1=1:=by decide
 have w2:i64.wrap 2=2:=by decide
 have w3:i64.wrap 3=3:=by decide
 have w4:i64.wrap 4=4:=by decide
 have w5:i64.wrap 5=5:=by decide
 have s0:qF .i64 8 0=8:=by decide +kernel
 have s1:qF .i64 8 1=16:=by decide +kernel
 have s2:qF .i64 8 2=32:=by decide +kernel
 have n2:¬(2:Int)=0:=by decide
 rcases vH hk with rfl | rfl | rfl | rfl | rfl | rfl <;>
  simp only [zQD,go_sem,w0,w1,w2,w3,w4,w5,q0,q1,q2,q3,q4,q5,s0,s1,s2,n2,not_false_eq_true,Int.sub_self] <;>
  exact qW ⟨rfl,rfl,rfl⟩
theorem xXJ (k:Int):aI prog 228 [.int .i64 k] F M (Same F M (.bool (wP k))):=by
 refine qZ hm func228 e228 (aA rfl) ?_;by_cases h1:k=2
 ·simp only [c228,go_sem,h1];exact qW ⟨rfl,rfl,rfl⟩
 by_cases h2:k=4
 ·simp only [c228,go_sem,h2];exact qW ⟨rfl,rfl,rfl⟩
 simp only [c228,go_sem,h1,h2];exact qW ⟨by simp [wP,h1,h2],rfl,rfl⟩
theorem yZG (k:Int):aI prog 193 [.int .i64 k] F M (Same F M (.bool (wP k))):=by
 refine qZ hm func193 kJX (aA rfl) ?_;by_cases h1:k=2
 ·simp only [c193,go_sem,h1];exact qW ⟨rfl,rfl,rfl⟩
 by_cases h2:k=4
 ·simp only [c193,go_sem,h2];exact qW ⟨rfl,rfl,rfl⟩
 simp only [c193,go_sem,h1,h2];exact qW ⟨by simp [wP,h1,h2],rfl,rfl⟩
theorem k52 (k:Int):aI prog 52 [.int .i64 k] F M (Same F M (.int .i64 (wK k))):=by
 refine qZ hm func52 e52 (aA rfl) ?_
 by_cases h:isK k=true
 ·rcases vH h with rfl | rfl | rfl | rfl | rfl | rfl <;>
   simp only [c52,go_sem] <;>
   exact qW ⟨rfl,rfl,rfl⟩
 ·have hn:¬k=1/\¬k=2/\¬k=3/\¬k=4/\¬k=5/\¬k=6:=by simp [isK] at h; omega
  simp only [c52,go_sem,hn]
  exact qW ⟨by simp [wK,h],rfl,rfl⟩
theorem zKE (n w:Int)(hw:zS w=true)(h0:0<=n)(h1:n<=wD w):aI prog 221 [.int .i64 n,.int .i64 w] F M (Same F M (.int .i64 (mO n w))):=by
 refine qZ hm func221 e221 (aA rfl) ?_;have lw:=jJ hw;have hp:=zJ hw;have w1:i64.wrap (w - 1)=w - 1:=dQ (by omega) (by omega);have s0:¬w - 1 < 0:=by omega
 have s1:¬w < 0:=by omega
 have e1:qF .i64 1 (w - 1)=jR w:=qXZ (by omega) (by omega);have e2:i64.wrap (n - 2 ^ w.toNat)=n - 2 ^ w.toNat:=dQ (by omega) (by omega);by_cases h:jR w<=n
 ·simp only [vQE,go_sem,w1,s0,s1,e1,qXZ lw.1 lw.2,h,e2,not_false_eq_true];exact qW ⟨by simp [mO,h],rfl,rfl⟩
 ·simp only [vQE,go_sem,w1,s0,e1,h,not_false_eq_true];exact qW ⟨by simp [mO,h],rfl,rfl⟩
theorem zKF (n w:Int)(hw:zS w=true)(h0:0<=n)(h1:n<=wD w):aI prog 189 [.int .i64 n,.int .i64 w] F M (Same F M (.int .i64 (mO n w))):=by
 refine qZ hm func189 e189 (aA rfl) ?_;have lw:=jJ hw;have hp:=zJ hw;have w1:i64.wrap (w - 1)=w - 1:=dQ (by omega) (by omega);have s0:¬w - 1 < 0:=by omega
 have s1:¬w < 0:=by omega
 have e1:qF .i64 1 (w - 1)=jR w:=qXZ (by omega) (by omega);have e2:i64.wrap (n - 2 ^ w.toNat)=n - 2 ^ w.toNat:=dQ (by omega) (by omega);by_cases h:jR w<=n
 ·simp only [vQA,go_sem,w1,s0,s1,e1,qXZ lw.1 lw.2,h,e2,not_false_eq_true];exact qW ⟨by simp [mO,h],rfl,rfl⟩
 ·simp only [vQA,go_sem,w1,s0,e1,h,not_false_eq_true];exact qW ⟨by simp [mO,h],rfl,rfl⟩
theorem zV {k:Int}(h:isK k=true):wK k=iF k:=by simp [wK,h]
theorem yGY {k:Int}(h:wP k=true):isK k=true:=by
 simp [wP] at h; simp [isK]; omega
theorem vWY (k n:Int)(h0:0<=n)(h1:n<=wD (iF k)):aI prog 219 [.int .i64 k,.int .i64 n] F M (Same F M (.int .i64 (yX k n))):=by
 refine qZ hm func219 e219 (aA rfl) ?_;simp only [zZJ,go_sem];refine qQ (xXJ F _ k) ?_;cases hs:wP k
 ·simp only [go_sem];exact qW ⟨by simp [yX,hs],rfl,rfl⟩
 ·simp only [go_sem];refine qQ (qHZ F _ k (yGY hs)) ?_;simp only [go_sem];refine qQ (zKE F _ n _ (jQ k) h0 h1) ?_;simp only [go_sem];exact qW ⟨by simp [yX,hs],rfl,rfl⟩
theorem vWA (k n:Int)(h0:0<=n)(h1:n<=wD (iF k)):aI prog 190 [.int .i64 k,.int .i64 n] F M (Same F M (.int .i64 (yX k n))):=by
 refine qZ hm func190 e190 (aA rfl) ?_;simp only [zXJ,go_sem];refine qQ (yZG F _ k) ?_;cases hs:wP k
 ·simp only [go_sem];exact qW ⟨by simp [yX,hs],rfl,rfl⟩
 ·simp only [go_sem];refine qQ (k52 F _ k) ?_;simp only [go_sem,zV (yGY hs)];refine qQ (zKF F _ n _ (jQ k) h0 h1) ?_;simp only [go_sem];exact qW ⟨by simp [yX,hs],rfl,rfl⟩
theorem zJQ (k:Int)(hk:isK k=true):aI prog 230 [.int .i64 k] F M (Same F M (.tuple #[.int .i64 (jH k),.int .i64 (gH k)])):=by
 refine qZ hm func230 e230 (aA rfl) ?_;have hw:=jQ k;have lw:=jJ hw;have hp:=zJ hw;simp only [zZD,go_sem];refine qQ (qHZ F _ k hk) ?_;simp only [go_sem];refine qQ (xXJ F _ k) ?_;have w1:i64.wrap (iF k - 1)=iF k - 1:=dQ (by omega) (by omega);have s0:¬iF k - 1 < 0:=by omega
 have e1:qF .i64 1 (iF k - 1)=jR (iF k):=qXZ (by omega) (by omega);have e3:qF .i64 (-1) (iF k - 1) = -(jR (iF k)):=kGB (by omega) (by omega);have e2:i64.wrap (jR (iF k) - 1)=jR (iF k) - 1:=dQ (by omega) (by omega);cases hs:wP k
 ·simp only [go_sem];refine qQ (jKX F _ _ lw.1 lw.2) ?_;simp only [go_sem];exact qW ⟨by simp [jH,gH,hs],rfl,rfl⟩
 ·simp only [go_sem,w1,s0,e1,e2,e3,not_false_eq_true];exact qW ⟨by simp [jH,gH,hs],rfl,rfl⟩
theorem vWB (b:Bool):aI prog 191 [.bool b] F M (Same F M (.int .i64 (if b then 1 else 0))):=by
 refine qZ hm func191 kJQ (aA rfl) ?_;cases b
 ·simp only [vQB,go_sem];exact qW ⟨rfl,rfl,rfl⟩
 ·simp only [vQB,go_sem];exact qW ⟨rfl,rfl,rfl⟩
theorem kGC (k t a:Int)(ht:isK t=true)(a0:0<=a)(a1:a<=wD (iF k)):aI prog 209 [.int .i64 k,.int .i64 t,.int .i64 a] F M (Same F M (.int .i64 (yX k a % 2 ^ (iF t).toNat))):=by
 refine qZ hm func209 e209 (aA rfl) ?_;have lw:=jJ (jQ t);simp only [zXF,go_sem];refine qQ (vWY F _ k a a0 a1) ?_;simp only [go_sem];refine qQ (qHZ F _ t ht) ?_;simp only [go_sem];refine qQ (wDK F _ _ _ lw.1 lw.2) ?_;simp only [go_sem];exact qW ⟨rfl,rfl,rfl⟩
theorem kGE (k t a:Int)(ht:isK t=true)(a0:0<=a)(a1:a<=wD (iF k)):aI prog 164 [.int .i64 k,.int .i64 t,.int .i64 a] F M (Same F M (.int .i64 (yX k a % 2 ^ (iF t).toNat))):=by
 refine qZ hm func164 kKQ (aA rfl) ?_;have lw:=jJ (jQ t);simp only [c164,go_sem];refine qQ (vWA F _ k a a0 a1) ?_;simp only [go_sem];refine qQ (k52 F _ t) ?_;simp only [go_sem,zV ht];refine qQ (qZA F _ _ _ lw.1 lw.2) ?_;simp only [go_sem];exact qW ⟨rfl,rfl,rfl⟩
end Go.Proofs.Tryz.K
namespace Go.Ax
open Go
theorem qYY {F:Fz}{M M':Hp}{b:Nat}{c:List Value}(h:blk F M b=some c)(kp:Keep M M')(hold:Old F M'):blk F M' b=some c:=by
 unfold blk at h;cases hm:M b with
 | some e=>rw [hm] at h; rw [qG (kp _ _ hm)]; exact h
 | none=>rw [hm] at h; exact hold.blk h
theorem Old.free {F:Fz}{M:Hp}(h:Old F M){b:Nat}{e:nH}(hb:M b=some e):F b=none:=by
 cases hf:F b with
 | none=>rfl
 | some c=>have:=h b (by rw [hf]; simp); rw [hb] at this; cases this
structure Sc where
 p:Bool
 n:Int
 b:Int
 o:Int
instance Sc.dec:DecidableEq Sc:=fun x y=>decidable_of_iff (x.p=y.p/\x.n=y.n/\x.b=y.b/\x.o=y.o) (by cases x; cases y; simp)
def Sc.cs (s:Sc):List Value:=[.bool s.p,.int .i64 s.n,.int .i64 s.b,.int .i64 s.o]
def Sc.val (s:Sc):Value:=.agg s.cs.toArray
@[go_sem] theorem Sc.fold {p:Bool} {n b o:Int}:Value.agg [.bool p,.int .i64 n,.int .i64 b,.int .i64 o].toArray=Sc.val ⟨p,n,b,o⟩:=rfl
@[go_sem] theorem Sc.oW {s:Sc}:Value.agg s.cs.toArray=s.val:=rfl
@[go_sem] theorem Sc.jM {s:Sc}:Value.cells.match_1 (fun _=>Array Value) s.val (fun cs=>cs) (fun u=>#[u])=s.cs.toArray:=rfl
@[go_sem] theorem Sc.gI {s:Sc}:s.val.cells=s.cs.toArray:=rfl
@[go_sem] theorem Sc.iY {s:Sc}:s.cs.toArray.size=4:=rfl
@[go_sem] theorem Sc.lU {s:Sc}:s.cs.length=4:=rfl
@[go_sem] theorem Sc.yD {s:Sc}:wQ s.cs=True:=by
 apply eq_true;intro u hu;simp only [Sc.cs,aQ,aV,or_false] at hu;rcases hu with rfl | rfl | rfl | rfl <;> rfl
@[go_sem] theorem Sc.zJW {s:Sc}:s.cs.take 4=s.cs:=rfl
@[go_sem] theorem Sc.take0 {s:Sc}:s.cs.take 0=[]:=rfl
@[go_sem] theorem Sc.drop4 {s:Sc}:s.cs.drop 4=[]:=rfl
@[go_sem] theorem Sc.vHQ {a b c d:Value}:[a,b,c,d].drop 4=[]:=rfl
@[go_sem] theorem Sc.xG {s:Sc}:s.cs[0]? = some (.bool s.p):=rfl
@[go_sem] theorem Sc.xH {s:Sc}:s.cs[1]? = some (.int .i64 s.n):=rfl
@[go_sem] theorem Sc.qWQ {s:Sc}:s.cs[2]? = some (.int .i64 s.b):=rfl
@[go_sem] theorem Sc.qZV {s:Sc}:s.cs[3]? = some (.int .i64 s.o):=rfl
@[go_sem] theorem Sc.ld {s:Sc}:rd true 4 s.cs 0=some s.val:=rfl
@[go_sem] theorem Sc.ld0 {s:Sc}:rd false 1 s.cs 0=some (.bool s.p):=rfl
@[go_sem] theorem Sc.ld1 {s:Sc}:rd false 1 s.cs 1=some (.int .i64 s.n):=rfl
@[go_sem] theorem Sc.ld2 {s:Sc}:rd false 1 s.cs 2=some (.int .i64 s.b):=rfl
@[go_sem] theorem Sc.ld3 {s:Sc}:rd false 1 s.cs 3=some (.int .i64 s.o):=rfl
theorem jKY (a b:Sc):decide (a=b)=((a.p == b.p) && (decide (a.n=b.n) && (decide (a.b=b.b) && (decide (a.o=b.o) && true)))):=by
 apply dG.2;cases a; cases b;simp
@[go_sem] theorem kGF (a b:Sc):eqV (.st [(false,0,1,.b),(false,1,1,.i),(false,2,1,.i),(false,3,1,.i)]) a.val b.val=some (decide (a=b)):=by
 rw [jKY];simp [eqV,wHZ,Sc.val,Sc.cs,rd]
structure Ba where
 b:Int
 v:V
instance Ba.dec:DecidableEq Ba:=fun x y=>decidable_of_iff (x.b=y.b/\x.v=y.v) (by cases x; cases y; simp)
def Ba.cs (x:Ba):List Value:=.int .i64 x.b :: x.v.cs
def Ba.val (x:Ba):Value:=.agg x.cs.toArray
@[go_sem] theorem Ba.fold {b a c d e f:Int} {k:Bool}:Value.agg [.int .i64 b,.int .i64 a,.bool k,.int .i64 c,.int .i64 d,.int .i64 e,.int .i64 f].toArray=Ba.val ⟨b,⟨a,k,c,d,e,f⟩⟩:=rfl
@[go_sem] theorem Ba.oW {x:Ba}:Value.agg x.cs.toArray=x.val:=rfl
@[go_sem] theorem Ba.zJX {b:Int} {v:V}:Value.agg (.int .i64 b :: v.cs).toArray=Ba.val ⟨b,v⟩:=rfl
@[go_sem] theorem Ba.jM {s:Ba}:Value.cells.match_1 (fun _=>Array Value) s.val (fun cs=>cs) (fun u=>#[u])=s.cs.toArray:=rfl
@[go_sem] theorem Ba.gI {s:Ba}:s.val.cells=s.cs.toArray:=rfl
@[go_sem] theorem Ba.iY {s:Ba}:s.cs.toArray.size=7:=rfl
@[go_sem] theorem Ba.lU {s:Ba}:s.cs.length=7:=rfl
@[go_sem] theorem Ba.yD {s:Ba}:wQ s.cs=True:=by
 apply eq_true;intro u hu;simp only [Ba.cs,aQ] at hu;rcases hu with rfl | hu
 ·rfl
 ·exact (of_eq_true (V.yD (v:=s.v))) u hu
@[go_sem] theorem Ba.wDZ {s:Ba}:s.cs.take 7=s.cs:=rfl
@[go_sem] theorem Ba.take0 {s:Ba}:s.cs.take 0=[]:=rfl
@[go_sem] theorem Ba.zKA {s:Ba}:s.cs.drop 7=[]:=rfl
@[go_sem] theorem Ba.yZZ {a b c d e f g:Value}:[a,b,c,d,e,f,g].drop 7=[]:=rfl
@[go_sem] theorem Ba.xG {s:Ba}:s.cs[0]? = some (.int .i64 s.b):=rfl
@[go_sem] theorem Ba.xH {s:Ba}:s.cs[1]? = some (.int .i64 s.v.w):=rfl
@[go_sem] theorem Ba.drop1 {s:Ba}:s.cs.drop 1=s.v.cs:=rfl
@[go_sem] theorem Ba.ld {s:Ba}:rd true 7 s.cs 0=some s.val:=rfl
@[go_sem] theorem Ba.ld0 {s:Ba}:rd false 1 s.cs 0=some (.int .i64 s.b):=rfl
@[go_sem] theorem Ba.ld1 {s:Ba}:rd true 6 s.cs 1=some s.v.val:=rfl
@[go_sem] theorem Ba.ldw {s:Ba}:rd false 1 s.cs 1=some (.int .i64 s.v.w):=rfl
def gG (v:V)(u:Value):List Value:=v.cs++[u]
def abV (v:V)(u:Value):Value:=.agg (gG v u).toArray
@[go_sem] theorem gGF {a c d e f:Int} {k:Bool} {u:Option Addr} {n m:Nat}:Value.agg [.int .i64 a,.bool k,.int .i64 c,.int .i64 d,.int .i64 e,.int .i64 f,.slice u n m].toArray=abV ⟨a,k,c,d,e,f⟩ (.slice u n m):=rfl
@[go_sem] theorem zJZ {v:V} {u:Value}:Value.agg (gG v u).toArray=abV v u:=rfl
@[go_sem] theorem zJK {v:V} {u:Option Addr} {n m:Nat}:Value.agg (v.cs++[Value.slice u n m]).toArray=abV v (.slice u n m):=rfl
@[go_sem] theorem vWC {v:V} {u:Value}:Value.cells.match_1 (fun _=>Array Value) (abV v u) (fun cs=>cs) (fun u=>#[u])=(gG v u).toArray:=rfl
@[go_sem] theorem zJJ {v:V} {u:Value}:(abV v u).cells=(gG v u).toArray:=rfl
@[go_sem] theorem gVQ {v:V} {u:Value}:(gG v u).toArray.size=7:=rfl
@[go_sem] theorem kVQ {v:V} {u:Value}:(gG v u).length=7:=rfl
@[go_sem] theorem zJG {v:V} {a:Option Addr} {n m:Nat}:wQ (gG v (.slice a n m))=True:=by
 apply eq_true;intro u hu;simp only [gG,aW,aQ,aV,or_false] at hu;rcases hu with hu | rfl
 ·exact (of_eq_true (V.yD (v:=v))) u hu
 ·rfl
@[go_sem] theorem gVW {v:V} {u:Value}:(gG v u).take 7=gG v u:=rfl
@[go_sem] theorem zJV {v:V} {u:Value}:(gG v u).take 0=[]:=rfl
@[go_sem] theorem gVX {v:V} {u:Value}:(gG v u).drop 7=[]:=rfl
@[go_sem] theorem gVZ {v:V} {u:Value}:(gG v u)[0]? = some (.int .i64 v.w):=rfl
@[go_sem] theorem gVK {v:V} {u:Value}:(gG v u)[6]? = some u:=rfl
@[go_sem] theorem zJH {v:V} {u:Value}:(gG v u).take 6=v.cs:=rfl
@[go_sem] theorem ab_ld {v:V} {u:Value}:rd true 7 (gG v u) 0=some (abV v u):=rfl
@[go_sem] theorem kVW {v:V} {u:Value}:rd true 6 (gG v u) 0=some v.val:=rfl
@[go_sem] theorem kVX {v:V} {u:Value}:rd false 1 (gG v u) 0=some (.int .i64 v.w):=rfl
@[go_sem] theorem kVZ {v:V} {u:Value}:rd false 1 (gG v u) 6=some u:=rfl
def dF {α:Type}(sz:Nat)(f:α->List Value)(F:Fz)(M:Hp)(u:Value)(l:List α):Prop:=
 l.length<=4611686018427387904/\∃ad cap,l.length<=cap/\u=.slice ad l.length cap/\
  (l=[]\/∃b o cs,ad=some ⟨b,o,none⟩/\blk F M b=some cs/\∀i (hi:i < l.length),o+i * sz+sz<=cs.length/\(cs.drop (o+i * sz)).take sz=f l[i])
theorem dF.new {α:Type}{sz:Nat}{f:α->List Value}{F:Fz}{M:Hp}{u:Value}{l:List α}(h:dF sz f F M u l){r:Nat}{e:nH}(hF:F r=none)(hM:M r=none):dF sz f F (M.upd r e) u l:=by
 obtain ⟨hl,ad,cap,hlc,rfl,h⟩:=h;refine ⟨hl,ad,cap,hlc,rfl,?_⟩;rcases h with h | ⟨b,o,cs,h1,h2,h3⟩
 ·exact .inl h
 ·exact .inr ⟨b,o,cs,h1,by rw [iG (yZJ h2 hF hM)]; exact h2,h3⟩
theorem dF.keep {α:Type}{sz:Nat}{f:α->List Value}{F:Fz}{M M':Hp}{u:Value}{l:List α}(h:dF sz f F M u l)(kp:Keep M M')(hold:Old F M'):dF sz f F M' u l:=by
 obtain ⟨hl,ad,cap,hc,rfl,h⟩:=h;refine ⟨hl,ad,cap,hc,rfl,?_⟩;rcases h with h | ⟨b,o,cs,h1,h2,h3⟩
 ·exact .inl h
 ·exact .inr ⟨b,o,cs,h1,qYY h2 kp hold,h3⟩
theorem yG {α:Type}{sz:Nat}{f:α->List Value}(hf:∀x,(f x).length=sz)(l:List α):(l.flatMap f).length=l.length * sz:=by
 induction l with
 | nil=>simp
 | cons x l ih=>rw [List.flatMap_cons,aO,ih,hf,fF,Nat.succ_mul]; omega
theorem lF {α:Type}{sz:Nat}{f:α->List Value}(hf:∀x,(f x).length=sz):∀(l:List α) (i:Nat) (hi:i < l.length),((l.flatMap f).drop (i * sz)).take sz=f l[i]
 | [],i,hi=>by simp at hi
 | x :: l,0,hi=>by
  rw [List.flatMap_cons,dX,List.drop_zero,List.take_append_of_le_length (by rw [hf]; exact aN _),aJ (by rw [hf]; exact aN _)];rfl
 | x :: l,i+1,hi=>by
  have:=lF hf l i (by simpa using hi);rw [List.flatMap_cons,List.drop_append];have e:(i+1) * sz - (f x).length=i * sz:=by rw [hf,Nat.succ_mul]; omega
  have e2:(f x).drop ((i+1) * sz)=[]:=dL (by rw [hf,Nat.succ_mul]; omega);rw [e,e2]
  simpa using this
theorem gZ {α:Type}{sz:Nat}{f:α->List Value}{F:Fz}{M:Hp}{g:Nat}{l:List α}{cap:Nat}(hf:∀x,(f x).length=sz)(hl:l.length<=4611686018427387904)(hlc:l.length<=cap)(h:blk F M g=some (l.flatMap f)):dF sz f F M (.slice (some ⟨g,0,none⟩) l.length cap) l:=
 ⟨hl,_,_,hlc,rfl,.inr ⟨g,0,_,rfl,h,fun i hi=>⟨by
  rw [yG hf,aY];have:(i+1) * sz<=l.length * sz:=Nat.mul_le_mul_right _ hi;rw [Nat.succ_mul] at this; exact this,by rw [aY]; exact lF hf l i hi⟩⟩⟩
theorem jX {α:Type}{sz:Nat}{f:α->List Value}{F:Fz}{M:Hp}:dF sz f F M (.slice none 0 0) ([]:List α):=⟨by simp,none,0,by simp,rfl,.inl rfl⟩
theorem vWE {α:Type}{sz bytes:Nat}{e:Sh}{f:α->List Value}{Q:α->Prop}{B:Bk}{v:Value}(h:Rd B (.slice sz bytes e) [v])(hb:0 < bytes)(hsz:0 < sz)(hx:∀x:List Value,x.length=sz->Rd B e x->∃a:α,x=f a/\Q a) :
  ∃(a:Option Addr) (cap:Nat) (l:List α),v=.slice a l.length cap/\l.length<=140737488351232/\(∀x∈l,Q x)/\∀(F:Fz) (M:Hp),(∀b c,B b=some c->blk F M b=some c)->dF sz f F M (.slice a l.length cap) l:=by
 obtain ⟨v',rows,h1,⟨a,cap,rfl,hl,hm,h0,hlen,hc⟩,hs,hr⟩:=h;cases h1;have hlist:∃l:List α,rows=l.map f/\∀x∈l,Q x:=by
  clear hc hs hl
  induction rows with
  | nil=>exact ⟨[],rfl,by simp⟩
  | cons x rows ih=>
   obtain ⟨l,e,hq⟩:=ih (fun y hy=>hlen y (List.mem_cons_of_mem _ hy)) (fun y hy=>hr y (List.mem_cons_of_mem _ hy));obtain ⟨n,e',hn⟩:=hx x (hlen x (by simp)) (hr x (by simp));exact ⟨n :: l,by simp [e,e'],by simp [hn]; exact hq⟩
 obtain ⟨l,rfl,hQ⟩:=hlist;rw [bJ] at hl hs ⊢;have hle:l.length<=140737488351232:=by
  have h1:l.length * 1<=l.length * bytes:=Nat.mul_le_mul_left _ hb;simp only [reachBytes] at hs;omega
 refine ⟨a,cap,l,rfl,hle,hQ,fun F M hB=>⟨by omega,a,cap,hl,rfl,?_⟩⟩;rcases hc with hc | ⟨b,o,cs,rfl,hb',hc⟩
 ·exact .inl (by simpa using hc)
 ·refine .inr ⟨b,o,cs,rfl,hB _ _ hb',fun i hi=>?_⟩;have h2:=hc i (f l[i]) (by simp [hi]);refine ⟨?_,h2⟩;have h3:=congrArg List.length h2;have h4:=hlen (f l[i]) (List.mem_map.2 ⟨l[i],aH _,rfl⟩);rw [h4] at h3;simp only [dW,List.length_drop] at h3;omega
def isS (k:Int):Bool:=decide (1<=k) && decide (k<=7)
def scB (k:Int)(s:Sc):Bool:=
 if k=7 then s.p && decide (s.n=0) && (decide (0<=s.b) && decide (s.b<=32)) && (decide (0<=s.o) && decide (s.o<=32)) && (decide (0 < s.b) || decide (s.o=0))
 else isK k && !s.p && nN s.n (iF k) && decide (s.b=0) && decide (s.o=0)
def gQ {α:Type}(sz:Nat)(f:α->List Value)(e:TypeId)(F:Fz)(M:Hp)(u:Value)(l:List α):Prop:=
 u=.slice none 0 0/\l=[]\/∃g cap,u=.slice (some ⟨g,0,none⟩) l.length cap/\F g=none/\M g=some ⟨l.flatMap f,e,cap * sz⟩/\l.length<=cap/\cap<=maxLen
theorem gQ.own {α:Type}{sz:Nat}{f:α->List Value}{e:TypeId}{F:Fz}{M:Hp}{u:Value}{l:List α}(hf:∀x,(f x).length=sz)(h:gQ sz f e F M u l):Own M e sz u l.length (l.flatMap f):=by
 refine ⟨yG hf l,?_⟩;rcases h with ⟨h1,h2⟩ | ⟨g,cap,h1,h2,h3,h4,h5⟩
 ·exact .inl ⟨h1,by rw [h2]; rfl⟩
 ·exact .inr ⟨g,cap,h1,h3,h4,h5⟩
theorem gQ.rd {α:Type}{sz:Nat}{f:α->List Value}{e:TypeId}{F:Fz}{M:Hp}{u:Value}{l:List α}(hf:∀x,(f x).length=sz)(h:gQ sz f e F M u l)(hl:l.length<=4611686018427387904):dF sz f F M u l:=by
 rcases h with ⟨h1,h2⟩ | ⟨g,cap,h1,h2,h3,h4,h5⟩
 ·subst h2; rw [h1]; exact jX
 ·rw [h1]; exact gZ hf hl h4 (qG h3)
theorem gQ.new {α:Type}{sz:Nat}{f:α->List Value}{e:TypeId}{F:Fz}{M:Hp}{u:Value}{l:List α}(h:gQ sz f e F M u l){r:Nat}{x:nH}(hM:M r=none):gQ sz f e F (M.upd r x) u l:=by
 rcases h with h | ⟨g,cap,h1,h2,h3,h4,h5⟩
 ·exact .inl h
 ·exact .inr ⟨g,cap,h1,h2,by rw [Hp.qK (qJ hM h3).1]; exact h3,h4,h5⟩
theorem gQ.ne {α:Type}{sz:Nat}{f:α->List Value}{e:TypeId}{F:Fz}{M:Hp}{l:List α}{g n c r:Nat}{x:nH}(h:gQ sz f e F M (.slice (some ⟨g,0,none⟩) n c) l)(hr:M r=some x)(hx:¬x.elem=e):¬r=g:=by
 rcases h with ⟨h,_⟩ | ⟨g',cap,h,_,h3,_⟩
 ·cases h
 ·cases h;rintro rfl;rw [hr] at h3; cases h3; exact hx rfl
theorem yZV {α:Type}{f:α->List Value}(hp:∀x,wQ (f x))(l:List α):wQ (l.flatMap f):=by
 intro u hu;obtain ⟨v,_,hv⟩:=List.mem_flatMap.1 hu;exact hp v u hv
theorem qYA {α:Type}{sz bytes:Nat}{f:α->List Value}{P:Program}{s:Bool}{d:Option Nat}{l:List SO}{K:Env->Fz->Hp->Prop}{σ:Env}{F:Fz}{M:Hp}{e:TypeId}{v u:Value}{xs ys:List α}
  (hf:∀x,(f x).length=sz)(hp:∀x,wQ (f x))(hbytes:bytes<=1000)(h:gQ sz f e F M v xs)(hs:Src F M sz u ys.length (ys.flatMap f))(hy:0 < ys.length)(hb:xs.length+ys.length<=1000000)
  (hk:∀g cap M',(M g=none\/∃c,v=.slice (some ⟨g,0,none⟩) xs.length c)->F g=none->M'=M.upd g ⟨(xs++ys).flatMap f,e,cap * sz⟩->
   gQ sz f e F M' (.slice (some ⟨g,0,none⟩) (xs++ys).length cap) (xs++ys)->iD P s l K (put σ d (.slice (some ⟨g,0,none⟩) (xs++ys).length cap)) F M') :
  apK P s d l K σ F M e sz bytes (some v) (some u):=by
 have hm:(xs.length+ys.length) * bytes<=1000000 * 1000:=Nat.mul_le_mul hb hbytes;refine wJD (h.own hf) hs (yZV hp ys) (by simp only [maxLen]; omega) (by omega) ?_;rintro v' M' (⟨_,h0,_⟩ | ⟨g,cap,hg,rfl,h1,h2,rfl⟩)
 ·omega
 rw [<-aO,<-List.flatMap_append];have key:F g=none/\(M g=none\/∃c,v=.slice (some ⟨g,0,none⟩) xs.length c):=by
  rcases hg with ⟨c,hx⟩ | ⟨hx,hy⟩
  ·rcases h with ⟨h1,_⟩ | ⟨g',cap',h1,h2,_⟩
   ·rw [h1] at hx; cases hx
   ·rw [h1] at hx; cases hx; exact ⟨h2,.inr ⟨_,h1⟩⟩
  ·exact ⟨hx,.inl hy⟩
 exact hk g cap _ key.2 key.1 rfl (.inr ⟨g,cap,rfl,key.1,Hp.qV _ _ _,by rw [aO]; exact h1,h2⟩)
theorem Ba.plain (x:Ba):wQ x.cs:=of_eq_true Ba.yD
theorem xXG {v:V}{w:Value}:v.cs++[w]=gG v w:=rfl
end Go.Ax
namespace Go.Proofs.Tryz.K
open Go Go.Ax Go.Proofs.Tryz.S
variable (F:Fz) (M:Hp)
theorem vWF (k:Int):aI prog 100 [.int .i64 k] F M (Same F M (.bool (isS k))):=by
 refine qZ hm func100 e100 (aA rfl) ?_;by_cases h1:1<=k
 ·simp only [vQX,go_sem,h1];exact qW ⟨by simp [isS,h1],rfl,rfl⟩
 ·simp only [vQX,go_sem,h1];exact qW ⟨by simp [isS,h1],rfl,rfl⟩
theorem k53 (k:Int):aI prog 53 [.int .i64 k] F M (Same F M (.bool (isS k))):=by
 refine qZ hm func53 e53 (aA rfl) ?_;simp only [c53,go_sem];refine qQ (k47 _ _ k 1 7) ?_;simp only [go_sem];exact qW ⟨rfl,rfl,rfl⟩
theorem zJD (n m:Int):aI prog 229 [.int .i64 n,.int .i64 m] F M (Same F M (.bool (decide (0<=n) && decide (n<=m)))):=by
 refine qZ hm func229 e229 (aA rfl) ?_;by_cases h1:0<=n
 ·simp only [c229,go_sem,h1];exact qW ⟨by simp [],rfl,rfl⟩
 ·simp only [c229,go_sem,h1];exact qW ⟨by simp [],rfl,rfl⟩
theorem wDJ:isK 7=false:=by decide
theorem zJY (k:Int)(s:Sc):aI prog 222 [.int .i64 k,s.val] F M (Same F M (.bool (scB k s))):=by
 refine qZ hm func222 e222 (aA rfl) ?_;simp only [c222,go_sem];intro r hF hM;simp only [go_sem];refine qQ (qYD _ _ k) ?_;cases hk:isK k
 ·by_cases h7:k=7
  ·simp only [go_sem,h7];cases hp:s.p
   ·simp only [go_sem];exact qH hM (qW ⟨by simp [scB,hp],rfl,rfl⟩)
   by_cases hn:s.n=0;rotate_left
   ·simp only [go_sem,hn];exact qH hM (qW ⟨by simp [scB,hp,hn],rfl,rfl⟩)
   simp only [go_sem,hn];refine qQ (zJD _ _ s.b 32) ?_;cases hb:(decide (0<=s.b) && decide (s.b<=32))
   ·simp only [go_sem];exact qH hM (qW ⟨by simp only [scB,hp,hn,hb]; simp,rfl,rfl⟩)
   simp only [go_sem];refine qQ (zJD _ _ s.o 32) ?_;cases ho:(decide (0<=s.o) && decide (s.o<=32))
   ·simp only [go_sem];exact qH hM (qW ⟨by simp only [scB,hp,hn,hb,ho]; simp,rfl,rfl⟩)
   by_cases hb0:0 < s.b
   ·simp only [go_sem,hb0];exact qH hM (qW ⟨by simp only [scB,hp,hn,hb,ho]; simp [hb0],rfl,rfl⟩)
   ·simp only [go_sem,hb0];exact qH hM (qW ⟨by simp only [scB,hp,hn,hb,ho]; simp [hb0],rfl,rfl⟩)
  ·simp only [go_sem,h7];exact qH hM (qW ⟨by simp [scB,h7,hk],rfl,rfl⟩)
 ·have h7:¬k=7:=by rintro rfl; rw [wDJ] at hk; cases hk
  have lw:=jJ (jQ k);cases hp:s.p;rotate_left
  ·simp only [go_sem,hp];exact qH hM (qW ⟨by simp [scB,h7,hp],rfl,rfl⟩)
  simp only [go_sem,hp];refine qQ (qHZ _ _ k hk) ?_;simp only [go_sem];refine qQ (yYG _ _ s.n (iF k) lw.1 lw.2) ?_;cases hn:nN s.n (iF k)
  ·simp only [go_sem];exact qH hM (qW ⟨by simp [scB,h7,hn],rfl,rfl⟩)
  by_cases hb:s.b=0;rotate_left
  ·simp only [go_sem,hb];exact qH hM (qW ⟨by simp [scB,h7,hb],rfl,rfl⟩)
  simp only [go_sem,hb];exact qH hM (qW ⟨by simp [scB,h7,hk,hp,hn,hb],rfl,rfl⟩)
end Go.Proofs.Tryz.K
namespace Go.Ax
open Go
theorem qYB {cs:List Value}{p:Nat}{x:Ba}(h1:p+7<=cs.length)(h:(cs.drop p).take 7=x.cs) :
  cs[p]? = some (.int .i64 x.b)/\cs[p+1]? = some (.int .i64 x.v.w)/\(cs.drop (p+1)).take 6=x.v.cs/\p+1+6<=cs.length:=by
 refine ⟨?_,?_,?_,by omega⟩
 ·have:=congrArg (fun t=>t[0]?) h
  simpa [Ba.cs] using this
 ·have:=congrArg (fun t=>t[1]?) h
  simpa [Ba.cs,V.cs] using this
 ·have:=congrArg (fun t=>t.drop 1) h;rw [List.drop_take,List.drop_drop] at this
  simpa [Ba.cs] using this
def mP (x:Ba):Bool:=(decide (0<=x.b) && decide (x.b<=6)) && x.v.ok && decide (x.v.w=8) && !(decide (x.b=0) && !(x.v.is1 && decide (x.v.wG 0=0)))
def tJ (l:List Ba)(i:Nat):Bool:=match l[i]? with
 | none=>true
 | some x=>mP x && (decide (i=0) || match l[i - 1]? with | none=>true | some y=>decide (y.b < x.b))
def gX (l:List Ba):Bool:=decide (l.length<=7) && (List.range l.length).all (tJ l)
theorem yGA {l:List Ba}{i:Nat}(hi:i < l.length)(h:tJ l i=false):gX l=false:=by
 unfold gX;have:(List.range l.length).all (tJ l)=false:=by
  rw [dP];exact ⟨i,by simpa using hi,by simp [h]⟩
 rw [this]; simp
theorem wDG {l:List Ba}(h7:l.length<=7)(h:∀j,j < l.length->tJ l j=true):gX l=true:=by
 unfold gX;have:(List.range l.length).all (tJ l)=true:=by
  rw [bW];intro x hx;exact h x (by simpa using hx)
 rw [this]; simp [h7]
def uM (k:Int)(v:V)(l:List Ba):Bool:=
 if k=7 then decide (v=V.zero) && gX l else decide (0 < wK k) && v.ok && decide (v.w=wK k) && decide (l.length=0)
def oO (l:List Ba)(b o:Int):Bool:=l.any fun x=>decide (x.b=b) && x.v.has o
def hasB (k:Int)(v:V)(l:List Ba)(s:Sc):Bool:=if k=7 then oO l s.b s.o else v.has s.n
theorem yGB {l:List Ba}(h:∀j,j < l.length->tJ l j=true):∀j (hj:j < l.length),(j:Int)<=(l[j]).b/\(l[j]).b<=6
 | 0,hj=>by
  have h0:=h 0 hj;unfold tJ at h0;rw [List.getElem?_eq_getElem hj] at h0;simp only [mP,aC,decide_eq_true_eq] at h0;omega
 | j+1,hj=>by
  have ih:=yGB h j (by omega);have h0:=h (j+1) hj;unfold tJ at h0;rw [List.getElem?_eq_getElem hj] at h0;simp only [mP,aC,decide_eq_true_eq,Nat.add_sub_cancel,List.getElem?_eq_getElem (by omega:j < l.length),dJ] at h0;omega
theorem jKA {l:List Ba}(h:∀j,j < l.length->tJ l j=true):l.length<=7:=by
 by_cases h0:l.length=0
 ·omega
 ·have:=yGB h (l.length - 1) (by omega);omega
theorem jKB {l:List Ba}(h:∀j,j < l.length->tJ l j=true):gX l=true:=wDG (jKA h) h
end Go.Ax
namespace Go.Proofs.Tryz.K
open Go Go.Ax Go.Proofs.Tryz.S
variable (F:Fz) (M:Hp)
def pnI (l:List Ba)(u:Value)(b o:Int)(F0:Fz)(M0:Hp)(m:Nat)(σ:Env)(F:Fz)(M:Hp):Prop:=
 F=F0/\M=M0/\Ax.look σ 0=some u/\Ax.look σ 1=some (.int .i64 b)/\Ax.look σ 2=some (.int .i64 o)/\∃i:Nat,i+m=l.length/\Ax.look σ 7=some (.int .i64 i)/\oO l b o=oO (l.drop i) b o
theorem zJA (u:Value)(l:List Ba)(b o:Int)(h:dF 7 Ba.cs F M u l):aI prog 123 [u,.int .i64 b,.int .i64 o] F M (Same F M (.bool (oO l b o))):=by
 refine qZ hm func123 kXG (aA rfl) ?_;obtain ⟨hl,ad,cap,hlc,rfl,h⟩:=h;simp only [zQX,go_sem];refine iQ (pnI l (.slice ad l.length cap) b o F M) l.length ?_ ?_
 ·exact ⟨rfl,rfl,by simp only [go_sem],by simp only [go_sem],by simp only [go_sem],0,by omega,by simp only [go_sem] <;> rfl,rfl⟩
 rintro m σ F' M' ⟨rfl,rfl,h0,h1,h2,i,hi,h7,ha⟩;by_cases hil:(i:Int) < l.length
 ·have hi0:(0:Int)<=i:=by omega
  have eU:i < l.length:=by omega
  have ei:i64.wrap ((i:Int)+1)=i+1:=dQ (by omega) (by omega);rcases h with h | ⟨g,p,cs,rfl,hb,hc⟩
  ·rw [h] at eU; simp at eU
  obtain ⟨d1,d2⟩:=hc i eU;unfold oO at ha;rw [dH eU,List.any_cons] at ha;generalize l[i]=x at *;obtain ⟨r1,r2,r3,r4⟩:=qYB d1 d2;by_cases hx:x.b=b
  ·simp only [go_sem,h0,h1,h2,h7,hil,hi0,aB,aK,hb,r1,r3,r4,hx];refine qQ (vWX _ _ x.v o) ?_;cases hh:x.v.has o
   ·simp only [go_sem,h7,ei];exact ⟨m - 1,by omega,rfl,rfl,by simp only [go_sem,h0],by simp only [go_sem,h1],by simp only [go_sem,h2],i+1,by omega,by simp only [go_sem]; rfl,by unfold oO; rw [ha,hh]; simp⟩
   ·simp only [go_sem];exact qW ⟨by unfold oO; rw [ha,hh]; simp [hx],rfl,rfl⟩
  ·simp only [go_sem,h0,h1,h7,hil,hi0,aB,aK,hb,r1,hx,ei];exact ⟨m - 1,by omega,rfl,rfl,by simp only [go_sem,h0],by simp only [go_sem,h1],by simp only [go_sem,h2],i+1,by omega,by simp only [go_sem]; rfl,by unfold oO; rw [ha]; simp [hx]⟩
 ·have:l.drop i=[]:=dL (by omega);rw [this] at ha;simp only [go_sem,h0,h7,hil];exact qW ⟨by rw [ha]; rfl,rfl,rfl⟩
theorem kVK (k:Int)(v:V)(u:Value)(l:List Ba)(s:Sc)(h:dF 7 Ba.cs F M u l):aI prog 124 [.int .i64 k,abV v u,s.val] F M (Same F M (.bool (hasB k v l s))):=by
 refine qZ hm func124 kXV (aA rfl) ?_;have h':=h;obtain ⟨_,ad,cap,_,rfl,_⟩:=h;simp only [c124,go_sem];intro r4 mW jP;simp only [go_sem];intro r5 lM gU;have g5:=yZ gU;have h2:=(h'.new mW jP (e:=⟨gG v (.slice ad l.length cap),97,7⟩)).new lM gU (e:=⟨s.cs,90,4⟩);by_cases h7:k=7
 ·simp only [go_sem,g5,h7];refine qQ (zJA _ _ _ l s.b s.o h2) ?_;simp only [go_sem];exact qH gU (qH jP (qW ⟨by simp [hasB],rfl,rfl⟩))
 ·simp only [go_sem,g5,h7];refine qQ (vWX _ _ v s.n) ?_;simp only [go_sem];exact qH gU (qH jP (qW ⟨by simp [hasB,h7],rfl,rfl⟩))
def zJB (F:Fz)(M0 M:Hp):Prop:=∀{u:Value} {l:List Ba},dF 7 Ba.cs F M0 u l->dF 7 Ba.cs F M u l
def ptI (l:List Ba)(u:Value)(F0:Fz)(M0:Hp)(m:Nat)(σ:Env)(F:Fz)(M:Hp):Prop:=
 F=F0/\Keep M0 M/\zJB F0 M0 M/\Ax.look σ 0=some u/\∃i:Nat,i+m=l.length/\Ax.look σ 3=some (.int .i64 i)/\∀j,j < i->tJ l j=true
theorem zJC (u:Value)(l:List Ba)(h:dF 7 Ba.cs F M u l):aI prog 119 [u] F M (Same F M (.bool (gX l))):=by
 refine qZ hm func119 e119 (aA rfl) ?_;have h':=h;obtain ⟨hl,ad,cap,hlc,rfl,_⟩:=h;simp only [c119,go_sem];by_cases hl7:(7:Int) < l.length
 ·simp only [go_sem,hl7];exact qW ⟨by simp [gX]; omega,rfl,rfl⟩
 simp only [go_sem,hl7];refine iQ (ptI l (.slice ad l.length cap) F M) l.length ?_ ?_
 ·exact ⟨rfl,Keep.refl _,fun h=>h,by simp only [go_sem],0,by omega,by simp only [go_sem] <;> rfl,by omega⟩
 rintro m σ F' M' ⟨rfl,kp,ro,h0,i,hi,h3,hok⟩;by_cases hil:(i:Int) < l.length;rotate_left
 ·simp only [go_sem,h0,h3,hil];exact qX kp ⟨by rw [wDG (by omega) (fun j hj=>hok j (by omega))],rfl,rfl⟩
 have hi0:(0:Int)<=i:=by omega
 have eU:i < l.length:=by omega
 have ei:i64.wrap ((i:Int)+1)=i+1:=dQ (by omega) (by omega);have ei1:i64.wrap ((i:Int) - 1)=i - 1:=dQ (by omega) (by omega);obtain ⟨_,_,_,_,eu,hrd⟩:=ro h';cases eu;rcases hrd with h | ⟨g,p,cs,rfl,hb,hc⟩
 ·rw [h] at eU; simp at eU
 obtain ⟨d1,d2⟩:=hc i eU;have hget:l[i]? = some l[i]:=by simp
 obtain ⟨r1,r2,r3,r4⟩:=qYB d1 d2;simp only [go_sem,h0,h3,hil,hi0,aB,hb,d1,d2];intro r hF hM;have bg:=yZJ hb hF hM;have no:tJ l i=false->gX l=false:=fun h=>yGA eU h
 have nG:∀e,Keep M (M'.upd r e):=fun e=>kp.new (kp.free hM)
 have ok1:tJ l i=(mP l[i] && (decide (i=0) || match l[i - 1]? with | none=>true | some y=>decide (y.b < l[i].b))):=by
  unfold tJ; rw [hget] <;> rfl
 simp only [go_sem];refine qQ (k49 _ _ l[i].b 6) ?_;cases hn:(decide (0<=l[i].b) && decide (l[i].b<=6))
 ·have hno:gX l=false:=no (by rw [ok1]; simp only [mP,hn]; simp);simp only [go_sem];exact qX (nG _) ⟨by rw [hno],rfl,rfl⟩
  -- the one ahead
 have prev:(0:Int) < i->∃y,l[i - 1]? = some y/\cs[p+(i - 1) * 7]? = some (.int .i64 y.b):=by
  intro hi1;obtain ⟨e1,e2⟩:=hc (i - 1) (by omega);exact ⟨l[i - 1],List.getElem?_eq_getElem (by omega),(qYB e1 e2).1⟩
 have rest:∀(b2:Bool),(decide (i=0) || match l[i - 1]? with | none=>true | some y=>decide (y.b < l[i].b))=b2->tJ l i=(mP l[i] && b2):=fun b2 h=>by rw [ok1,h]
 have tail:∀(b2:Bool),(decide (i=0) || match l[i - 1]? with | none=>true | some y=>decide (y.b < l[i].b))=b2->(b2=false->gX l=false)/\(b2=true->tJ l i=mP l[i]):=fun b2 h=>⟨fun hb=>no (by rw [rest b2 h,hb]; simp),fun hb=>by rw [rest b2 h,hb]; simp⟩
 have nxt:∀σ' e,Ax.look σ' 0=some (.slice (some ⟨g,p,none⟩) l.length cap)->Ax.look σ' 3=some (.int .i64 (i+1))->tJ l i=true->∃m',m' < m/\ptI l (.slice (some ⟨g,p,none⟩) l.length cap) F' M m' σ' F' (M'.upd r e):=by
  intro σ' e q0 q3 hk;refine ⟨m - 1,by omega,rfl,nG e,fun h=>(ro h).new hF hM,q0,i+1,by omega,q3,fun j hj=>?_⟩;rcases Nat.lt_or_ge j i with h | h
  ·exact hok j h
  ·have:j=i:=by omega
   rw [this]; exact hk
 generalize l[i]=x at *;by_cases hi1:(0:Int) < i
 ·obtain ⟨y,y1,y2⟩:=prev hi1;have i1:(0:Int)<=(i:Int) - 1:=by omega
  have i2:(i:Int) - 1 < l.length:=by omega
  have i3:((i:Int) - 1).toNat=i - 1:=by omega
  have yZH:¬i=0:=by omega
  rw [y1] at tail;by_cases hyx:x.b<=y.b
  ·have hno:=(tail false (by simp [yZH]; omega)).1 rfl;simp only [go_sem,h0,h3,hi1,ei1,i1,i2,i3,bg,hb,y2,aK,hyx];exact qX (nG _) ⟨by rw [hno],rfl,rfl⟩
  ·have hk:=(tail true (by simp; omega)).2 rfl;simp only [go_sem,h0,h3,hi1,ei1,i1,i2,i3,bg,hb,y2,aK,hyx];refine qQ (xXW _ _ x.v) ?_;cases hv:x.v.ok
   ·have hno:gX l=false:=no (by rw [hk]; simp [mP,hv]);simp only [go_sem];exact qX (nG _) ⟨by rw [hno],rfl,rfl⟩
   by_cases hw:x.v.w=8;rotate_left
   ·have hno:gX l=false:=no (by rw [hk]; simp [mP,hw]);simp only [go_sem,hw];exact qX (nG _) ⟨by rw [hno],rfl,rfl⟩
   simp only [go_sem,hw];refine qQ (zKY _ _ x.v hv) ?_;by_cases hb0:x.b=0;rotate_left
   ·simp only [tH,go_sem,h3,hb0,ei];exact nxt _ _ (by simp only [go_sem,h0]) (by simp only [go_sem]) (by rw [hk]; simp only [mP,hn,hv,hw]; simp [hb0])
   cases h1:x.v.is1
   ·have hno:gX l=false:=no (by rw [hk]; simp [mP,hb0,h1]);simp only [tH,go_sem,hb0,h1];exact qX (nG _) ⟨by rw [hno],rfl,rfl⟩
   by_cases hn0:x.v.wG 0=0;rotate_left
   ·have hno:gX l=false:=no (by rw [hk]; simp [mP,hb0,hn0]);simp only [tH,go_sem,hb0,h1,hn0];exact qX (nG _) ⟨by rw [hno],rfl,rfl⟩
   simp only [tH,go_sem,h3,hb0,h1,hn0,ei];exact nxt _ _ (by simp only [go_sem,h0]) (by simp only [go_sem]) (by rw [hk]; simp only [mP,hn,hv,hw,h1,hn0]; simp)
 ·have yZH:i=0:=by omega
  have hk:=(tail true (by simp [yZH])).2 rfl;simp only [go_sem,h3,hi1];refine qQ (xXW _ _ x.v) ?_;cases hv:x.v.ok
  ·have hno:gX l=false:=no (by rw [hk]; simp [mP,hv]);simp only [go_sem];exact qX (nG _) ⟨by rw [hno],rfl,rfl⟩
  by_cases hw:x.v.w=8;rotate_left
  ·have hno:gX l=false:=no (by rw [hk]; simp [mP,hw]);simp only [go_sem,hw];exact qX (nG _) ⟨by rw [hno],rfl,rfl⟩
  simp only [go_sem,hw];refine qQ (zKY _ _ x.v hv) ?_;by_cases hb0:x.b=0;rotate_left
  ·simp only [tH,go_sem,h3,hb0,ei];exact nxt _ _ (by simp only [go_sem,h0]) (by simp only [go_sem]) (by rw [hk]; simp only [mP,hn,hv,hw]; simp [hb0])
  cases h1:x.v.is1
  ·have hno:gX l=false:=no (by rw [hk]; simp [mP,hb0,h1]);simp only [tH,go_sem,hb0,h1];exact qX (nG _) ⟨by rw [hno],rfl,rfl⟩
  by_cases hn0:x.v.wG 0=0;rotate_left
  ·have hno:gX l=false:=no (by rw [hk]; simp [mP,hb0,hn0]);simp only [tH,go_sem,hb0,h1,hn0];exact qX (nG _) ⟨by rw [hno],rfl,rfl⟩
  simp only [tH,go_sem,h3,hb0,h1,hn0,ei];exact nxt _ _ (by simp only [go_sem,h0]) (by simp only [go_sem]) (by rw [hk]; simp only [mP,hn,hv,hw,h1,hn0]; simp)
theorem kVJ (k:Int)(v:V)(u:Value)(l:List Ba)(h:dF 7 Ba.cs F M u l):aI prog 121 [.int .i64 k,abV v u] F M (Same F M (.bool (uM k v l))):=by
 refine qZ hm func121 kXK (aA rfl) ?_;have h':=h;obtain ⟨hl,ad,cap,_,rfl,_⟩:=h;simp only [zQQ,go_sem];intro r3 hF3 dN;have h2:=h'.new hF3 dN (e:=⟨gG v (.slice ad l.length cap),97,7⟩);by_cases h7:k=7
 ·simp only [go_sem,h7];cases hv:decide (v=V.zero)
  ·simp only [go_sem];exact qH dN (qW ⟨by simp only [uM,hv]; simp,rfl,rfl⟩)
  simp only [go_sem];refine qQ (zJC _ _ _ l h2) ?_;simp only [go_sem];exact qH dN (qW ⟨by simp only [uM,hv]; simp,rfl,rfl⟩)
 ·simp only [go_sem,h7];refine qQ (k52 _ _ k) ?_;by_cases hw:0 < wK k;rotate_left
  ·simp only [go_sem,hw];exact qH dN (qW ⟨by simp [uM,h7,hw],rfl,rfl⟩)
  simp only [go_sem,hw];refine qQ (xXW _ _ v) ?_;cases hv:v.ok
  ·simp only [go_sem];exact qH dN (qW ⟨by simp [uM,h7,hv],rfl,rfl⟩)
  by_cases hvw:v.w=wK k;rotate_left
  ·simp only [go_sem,hvw];exact qH dN (qW ⟨by simp [uM,h7,hvw],rfl,rfl⟩)
  by_cases hl0:(l.length:Int)=0
  ·simp only [go_sem,hvw,hl0];have hd:decide (l.length=0)=true:=by rw [decide_eq_true_eq]; omega
   exact qH dN (qW ⟨by unfold uM; rw [if_neg h7,hv,hd]; simp [hw,hvw],rfl,rfl⟩)
  ·simp only [go_sem,hvw,hl0];have hd:decide (l.length=0)=false:=by rw [decide_eq_false_iff_not]; omega
   exact qH dN (qW ⟨by unfold uM; rw [if_neg h7,hv,hd]; simp,rfl,rfl⟩)
def ixB (l:List Ba)(p:Ba->Bool)(u f:Value)(F0:Fz)(M0:Hp)(m:Nat)(σ:Env)(F:Fz)(M:Hp):Prop:=
 F=F0/\M=M0/\Ax.look σ 0=some u/\Ax.look σ 1=some f/\Ax.look σ 7=some (.int .i64 l.length)/\∃i:Nat,i+m=l.length/\Ax.look σ 8=some (.int .i64 i)/\l.any p=(l.drop i).any p
theorem kVG (u:Value)(l:List Ba)(g:Nat)(ca:List Value)(p:Ba->Bool)(h:dF 7 Ba.cs F M u l)
  (hp:∀v∈l,aI prog g ([v.val]++ca) F M (Same F M (.bool (p v)))) :
  aI prog 198 [u,.func (.func g) #[] ca.toArray] F M fun r F' M'=>F'=F/\M'=M/\∃z:Int,r=.int .i64 z/\(0<=z↔l.any p=true):=by
 refine qZ hm func198 kJJ (aA rfl) ?_;obtain ⟨hl,ad,cap,hlc,rfl,h⟩:=h;simp only [c198,go_sem];refine iQ (ixB l p (.slice ad l.length cap) (.func (.func g) #[] ca.toArray) F M) l.length ?_ ?_
 ·exact ⟨rfl,rfl,by simp only [go_sem],by simp only [go_sem],by simp only [go_sem],0,by omega,by simp only [go_sem] <;> rfl,rfl⟩
 rintro m σ F' M' ⟨rfl,rfl,h0,h1,h7,i,hi,h8,ha⟩;by_cases hil:(i:Int) < l.length
 ·have hi0:(0:Int)<=i:=by omega
  have eU:i < l.length:=by omega
  have ei:i64.wrap ((i:Int)+1)=i+1:=dQ (by omega) (by omega);rcases h with h | ⟨b,o,cs,rfl,hb,hc⟩
  ·rw [h] at eU; simp at eU
  obtain ⟨d1,d2⟩:=hc i eU;rw [dH eU,List.any_cons] at ha;have hq:=hp l[i] (aH _);generalize l[i]=v at *;simp only [go_sem,h0,h1,h7,h8,hil,hi0,aB,hb,d1,d2];refine qQ hq ?_;cases hv:p v
  ·rw [hv,Bool.false_or] at ha;simp only [go_sem,h8,ei];exact ⟨m - 1,by omega,rfl,rfl,by simp only [go_sem,h0],by simp only [go_sem,h1],by simp only [go_sem,h7],i+1,by omega,by simp only [go_sem]; rfl,ha⟩
  ·rw [hv,Bool.true_or] at ha;simp only [go_sem];exact qW ⟨rfl,rfl,_,rfl,by simp [ha]⟩
 ·have:l.drop i=[]:=dL (by omega);rw [this] at ha;simp only [go_sem,h7,h8,hil];exact qW ⟨rfl,rfl,_,rfl,by rw [ha]; simp⟩
theorem zJF (u:Value)(l:List Ba)(g:Nat)(ca:List Value)(p:Ba->Bool)(h:dF 7 Ba.cs F M u l)
  (hp:∀v∈l,aI prog g ([v.val]++ca) F M (Same F M (.bool (p v)))) :
  aI prog 173 [u,.func (.func g) #[] ca.toArray] F M (Same F M (.bool (l.any p))):=by
 refine qZ hm func173 kKZ (aA rfl) ?_;simp only [c173,go_sem];refine wW (kVG F M u l g ca p h hp) ?_;rintro r G M' ⟨hG,rfl,z,rfl,hz⟩;rw [hG];refine ⟨(fun h=>by cases h),?_⟩;simp only [go_sem];have:decide (0<=z)=l.any p:=by
  cases hq:l.any p
  ·rw [hq] at hz; simp at hz; simp; omega
  ·simp [hz.2 hq]
 exact qW ⟨by rw [<-this],rfl,rfl⟩
theorem kVV (x:Ba)(b o:Int)(p4 p5:Nat)(e4 e5:nH)(h4:M p4=some e4)(c4:e4.cells=[.int .i64 b])(h5:M p5=some e5)(c5:e5.cells=[.int .i64 o]) :
  aI prog 184 [x.val,.pointer (some ⟨p4,0,none⟩),.pointer (some ⟨p5,0,none⟩)] F M (Same F M (.bool (decide (x.b=b) && x.v.has o))):=by
 refine qZ hm func184 kKC (aA rfl) ?_;have b4:=qG (F:=F) h4;have b5:=qG (F:=F) h5;rw [c4] at b4;rw [c5] at b5;simp only [zXQ,go_sem];intro r3 hF3 dN;have g4:=qJ dN h4;have g5:=qJ dN h5;by_cases hx:x.b=b
 ·simp only [go_sem,g4,g5,b4,b5,hx];refine qQ (vWZ _ _ x.v o) ?_;simp only [go_sem];exact qH dN (qW ⟨by simp,rfl,rfl⟩)
 ·simp only [go_sem,g4,b4,hx];exact qH dN (qW ⟨by simp,rfl,rfl⟩)
theorem zGQ (u:Value)(l:List Ba)(b o:Int)(h:dF 7 Ba.cs F M u l):aI prog 151 [u,.int .i64 b,.int .i64 o] F M (Same F M (.bool (decide (o<=32) && oO l b o))):=by
 refine qZ hm func151 kZY (aA rfl) ?_;have h':=h;obtain ⟨_,ad,cap,_,rfl,_⟩:=h;simp only [zWW,go_sem];intro r4 mW jP;simp only [go_sem];intro r5 lM gU;have g5:=yZ gU;by_cases ho:o<=32
 ·have h2:=(h'.new mW jP (e:=⟨[.int .i64 b],3,1⟩)).new lM gU (e:=⟨[.int .i64 o],3,1⟩);simp only [go_sem,ho];refine qQ (zJF F _ _ l _ [.pointer (some ⟨r4,0,none⟩),.pointer (some ⟨r5,0,none⟩)] (fun x=>decide (x.b=b) && x.v.has o) h2 ?_) ?_
  ·intro x hx;exact kVV F _ x b o r4 r5 _ _ (by rw [Hp.qK g5.2.1]; exact Hp.qV _ _ _) rfl (Hp.qV _ _ _) rfl
  simp only [go_sem];exact qH gU (qH jP (qW ⟨by simp [oO],rfl,rfl⟩))
 ·simp only [go_sem,ho];exact qH gU (qH jP (qW ⟨by simp,rfl,rfl⟩))
def holdsB (k:Int)(v:V)(l:List Ba)(s:Sc):Bool:=if k=7 then decide (s.o<=32) && oO l s.b s.o else v.has s.n
theorem kVH (k:Int)(v:V)(u:Value)(l:List Ba)(s:Sc)(h:dF 7 Ba.cs F M u l):aI prog 153 [.int .i64 k,abV v u,s.val] F M (Same F M (.bool (holdsB k v l s))):=by
 refine qZ hm func153 e153 (aA rfl) ?_;have h':=h;obtain ⟨_,ad,cap,_,rfl,_⟩:=h;simp only [zWX,go_sem];intro r4 mW jP;simp only [go_sem];intro r5 lM gU;have g5:=yZ gU;have h2:=(h'.new mW jP (e:=⟨gG v (.slice ad l.length cap),97,7⟩)).new lM gU (e:=⟨s.cs,90,4⟩);by_cases h7:k=7
 ·simp only [go_sem,g5,h7];refine qQ (zGQ _ _ _ l s.b s.o h2) ?_;simp only [go_sem];exact qH gU (qH jP (qW ⟨by simp [holdsB],rfl,rfl⟩))
 ·simp only [go_sem,g5,h7];refine qQ (vWZ _ _ v s.n) ?_;simp only [go_sem];exact qH gU (qH jP (qW ⟨by simp [holdsB,h7],rfl,rfl⟩))
theorem jKC (x:Ba):mP x=((decide (0<=x.b) && decide (x.b<=6)) && x.v.ok && decide (x.v.w=8) && (decide (0 < x.b) || x.v.is1 && decide (x.v.wG 0=0))):=by
 unfold mP;by_cases h0:0<=x.b
 ·by_cases h1:x.b=0
  ·simp [h1]
  ·have:0 < x.b:=by omega
   simp [h1,this]
 ·simp [h0]
theorem kVD (x:Ba):aI prog 197 [x.val] F M (Same F M (.bool (mP x))):=by
 refine qZ hm func197 e197 (aA rfl) ?_;rw [jKC];simp only [zXH,go_sem];intro r1 hF1 hM1;by_cases h0:x.b < 0
 ·have:¬0<=x.b:=by omega
  simp only [go_sem,h0];exact qH hM1 (qW ⟨by simp [this],rfl,rfl⟩)
 by_cases h6:6 < x.b
 ·have:¬x.b<=6:=by omega
  simp only [go_sem,h0,h6];exact qH hM1 (qW ⟨by simp [this],rfl,rfl⟩)
 by_cases hw:x.v.w=8;rotate_left
 ·simp only [go_sem,h0,h6,hw];exact qH hM1 (qW ⟨by simp [],rfl,rfl⟩)
 simp only [go_sem,h0,h6,hw];refine qQ (vWK _ _ x.v) ?_;cases hv:x.v.ok
 ·simp only [go_sem];exact qH hM1 (qW ⟨by simp,rfl,rfl⟩)
 have e0:0<=x.b:=by omega
 have e6:x.b<=6:=by omega
 simp only [go_sem];refine qQ (kGV _ _ x.v hv) ?_;by_cases hb:0 < x.b
 ·simp only [qVQ,go_sem,hb];exact qH hM1 (qW ⟨by simp [e0,e6],rfl,rfl⟩)
 cases h1:x.v.is1
 ·simp only [qVQ,go_sem,hb,h1];exact qH hM1 (qW ⟨by simp [],rfl,rfl⟩)
 ·simp only [qVQ,go_sem,hb,h1];exact qH hM1 (qW ⟨by simp [e0,e6],rfl,rfl⟩)
def mpI (l:List Ba)(u:Value)(F0:Fz)(M0:Hp)(m:Nat)(σ:Env)(F:Fz)(M:Hp):Prop:=
 F=F0/\Keep M0 M/\zJB F0 M0 M/\Ax.look σ 0=some u/\Ax.look σ 5=some u/\Ax.look σ 6=some (.int .i64 l.length)/\∃i:Nat,i+m=l.length/\Ax.look σ 7=some (.int .i64 i)/\∀j,j < i->tJ l j=true
theorem zGW (u:Value)(l:List Ba)(h:dF 7 Ba.cs F M u l):aI prog 171 [u] F M (Same F M (.bool (gX l))):=by
 refine qZ hm func171 kKW (aA rfl) ?_;have h':=h;obtain ⟨hl,ad,cap,hlc,rfl,_⟩:=h;simp only [c171,go_sem];refine iQ (mpI l (.slice ad l.length cap) F M) l.length ?_ ?_
 ·exact ⟨rfl,Keep.refl _,fun h=>h,by simp only [go_sem],by simp only [go_sem],by simp only [go_sem],0,by omega,by simp only [go_sem] <;> rfl,by omega⟩
 rintro m σ F' M' ⟨rfl,kp,ro,h0,h5,h6,i,hi,h7,hok⟩;by_cases hil:(i:Int) < l.length;rotate_left
 ·simp only [go_sem,h6,h7,hil];exact qX kp ⟨by rw [jKB (fun j hj=>hok j (by omega))],rfl,rfl⟩
 have hi0:(0:Int)<=i:=by omega
 have eU:i < l.length:=by omega
 have ei:i64.wrap ((i:Int)+1)=i+1:=dQ (by omega) (by omega);have ei1:i64.wrap ((i:Int) - 1)=i - 1:=dQ (by omega) (by omega);obtain ⟨_,_,_,_,eu,hrd⟩:=ro h';cases eu;rcases hrd with h | ⟨g,p,cs,rfl,hb,hc⟩
 ·rw [h] at eU; simp at eU
 obtain ⟨d1,d2⟩:=hc i eU;have hget:l[i]? = some l[i]:=by simp
 simp only [go_sem,h5,h6,h7,hil,hi0,aB,hb,d1,d2];intro r hF hM;have bg:=yZJ hb hF hM;have no:tJ l i=false->gX l=false:=fun h=>yGA eU h
 have nG:∀e,Keep M (M'.upd r e):=fun e=>kp.new (kp.free hM)
 have ok1:tJ l i=(mP l[i] && (decide (i=0) || match l[i - 1]? with | none=>true | some y=>decide (y.b < l[i].b))):=by
  unfold tJ; rw [hget] <;> rfl
 have prev:(0:Int) < i->∃y,l[i - 1]? = some y/\cs[p+(i - 1) * 7]? = some (.int .i64 y.b):=by
  intro hi1;obtain ⟨e1,e2⟩:=hc (i - 1) (by omega);exact ⟨l[i - 1],List.getElem?_eq_getElem (by omega),(qYB e1 e2).1⟩
 have nxt:∀σ' e,Ax.look σ' 0=some (.slice (some ⟨g,p,none⟩) l.length cap)->Ax.look σ' 5=some (.slice (some ⟨g,p,none⟩) l.length cap)->Ax.look σ' 6=some (.int .i64 l.length)->Ax.look σ' 7=some (.int .i64 (i+1))->tJ l i=true->∃m',m' < m/\mpI l (.slice (some ⟨g,p,none⟩) l.length cap) F' M m' σ' F' (M'.upd r e):=by
  intro σ' e q0 q5 q6 q7 hk;refine ⟨m - 1,by omega,rfl,nG e,fun h=>(ro h).new hF hM,q0,q5,q6,i+1,by omega,q7,fun j hj=>?_⟩;rcases Nat.lt_or_ge j i with h | h
  ·exact hok j h
  ·have:j=i:=by omega
   rw [this]; exact hk
 generalize l[i]=x at *;simp only [go_sem];refine qQ (kVD _ _ x) ?_;cases hbx:mP x
 ·have hno:gX l=false:=no (by rw [ok1,hbx]; rfl);simp only [go_sem];exact qX (nG _) ⟨by rw [hno],rfl,rfl⟩
 rw [hbx,bQ] at ok1;by_cases hi1:(0:Int) < i
 ·obtain ⟨y,y1,y2⟩:=prev hi1;have i1:(0:Int)<=(i:Int) - 1:=by omega
  have i2:(i:Int) - 1 < l.length:=by omega
  have i3:((i:Int) - 1).toNat=i - 1:=by omega
  have yZH:¬i=0:=by omega
  rw [y1] at ok1;by_cases hyx:x.b<=y.b
  ·have hno:gX l=false:=no (by rw [ok1]; simp [yZH]; omega);simp only [go_sem,h0,hi1,ei1,i1,i2,i3,bg,hb,y2,aK,hyx];exact qX (nG _) ⟨by rw [hno],rfl,rfl⟩
  ·simp only [go_sem,h0,h7,hi1,ei1,i1,i2,i3,bg,hb,y2,aK,hyx,ei];exact nxt _ _ (by simp only [go_sem,h0]) (by simp only [go_sem,h5]) (by simp only [go_sem,h6]) (by simp only [go_sem]) (by rw [ok1]; simp; omega)
 ·have yZH:i=0:=by omega
  simp only [go_sem,h7,hi1,ei];exact nxt _ _ (by simp only [go_sem,h0]) (by simp only [go_sem,h5]) (by simp only [go_sem,h6]) (by simp only [go_sem]) (by rw [ok1]; simp [yZH])
theorem kVY (k:Int)(v:V)(u:Value)(l:List Ba)(h:dF 7 Ba.cs F M u l):aI prog 172 [.int .i64 k,abV v u] F M (Same F M (.bool (uM k v l))):=by
 refine qZ hm func172 kKX (aA rfl) ?_;have h':=h;obtain ⟨hl,ad,cap,_,rfl,_⟩:=h;simp only [zWY,go_sem];intro r3 hF3 dN;have h2:=h'.new hF3 dN (e:=⟨gG v (.slice ad l.length cap),97,7⟩);simp only [go_sem];refine qQ (qYD _ _ k) ?_;cases hk:isK k
 ·have hw0:¬0 < wK k:=by simp [wK,hk]
  by_cases h7:k=7
  ·simp only [go_sem,h7];cases hv:decide (v=V.zero)
   ·simp only [go_sem];exact qH dN (qW ⟨by simp only [uM,hv]; simp,rfl,rfl⟩)
   simp only [go_sem];refine qQ (zGW _ _ _ l h2) ?_;simp only [go_sem];exact qH dN (qW ⟨by simp only [uM,hv]; simp,rfl,rfl⟩)
  ·simp only [go_sem,h7];exact qH dN (qW ⟨by unfold uM; rw [if_neg h7]; simp [hw0],rfl,rfl⟩)
 ·have h7:¬k=7:=by rintro rfl; rw [wDJ] at hk; cases hk
  have e0:wK k=iF k:=zV hk;have hpw:=zJ (jQ k);have e1:(0:Int) < iF k:=by omega
  simp only [go_sem];refine qQ (vWK _ _ v) ?_;cases hv:v.ok
  ·simp only [go_sem];exact qH dN (qW ⟨by simp [uM,h7,hv],rfl,rfl⟩)
  simp only [go_sem];refine qQ (qHZ _ _ k hk) ?_;by_cases hvw:v.w=iF k;rotate_left
  ·simp only [go_sem,hvw];exact qH dN (qW ⟨by simp [uM,h7,e0,hvw],rfl,rfl⟩)
  by_cases hl0:(l.length:Int)=0
  ·simp only [go_sem,hvw,hl0];have hd:decide (l.length=0)=true:=by rw [decide_eq_true_eq]; omega
   exact qH dN (qW ⟨by unfold uM; rw [if_neg h7,hv,hd,e0]; simp [e1,hvw],rfl,rfl⟩)
  ·simp only [go_sem,hvw,hl0];have hd:decide (l.length=0)=false:=by rw [decide_eq_false_iff_not]; omega
   exact qH dN (qW ⟨by unfold uM; rw [if_neg h7,hv,hd]; simp,rfl,rfl⟩)
end Go.Proofs.Tryz.K
namespace Go.Ax
open Go
abbrev zGX:Sh:=.cons 1 (.int .i64) (.cons 6 shV .nil)
abbrev kVA:Sh:=.cons 6 shV (.cons 1 (.slice 7 56 zGX) .nil)
structure Ab where
 v:V
 a:Option Addr
 n:Nat
 c:Nat
theorem zGZ {B:Bk}{x:List Value}(hlen:x.length=6)(h:Rd B shV x):∃v:V,x=v.cs:=by
 obtain ⟨_,⟨n0,e0,_⟩,_,⟨n1,e1⟩,_,⟨n2,e2,_⟩,_,⟨n3,e3,_⟩,_,⟨n4,e4,_⟩,_,⟨n5,e5,_⟩,_⟩:=h
 match x,hlen with
 | [x0,x1,x2,x3,x4,x5],_=>
  simp at e0 e1 e2 e3 e4 e5;subst e0; subst e1; subst e2; subst e3; subst e4; subst e5;exact ⟨⟨n0,n1,n2,n3,n4,n5⟩,rfl⟩
theorem zGK {B:Bk}{x:List Value}(hlen:x.length=7)(h:Rd B zGX x):∃s:Ba,x=s.cs:=by
 obtain ⟨_,⟨n0,e0,_⟩,h1,h2,_⟩:=h
 match x,hlen with
 | [x0,x1,x2,x3,x4,x5,x6],_=>
  simp at e0;subst e0;obtain ⟨v,hv⟩:=zGZ (x:=[x1,x2,x3,x4,x5,x6]) rfl h2;exact ⟨⟨n0,v⟩,by rw [Ba.cs,<-hv]⟩
theorem yYA {B:Bk}{sz bytes n cap:Nat}{e:Sh}{a:Option Addr}(h:Rd B (.slice sz bytes e) [.slice a n cap]):a=none->cap=0:=by
 obtain ⟨v',rows,h1,⟨a',cap',e1,hl,hm,h0,_⟩,_⟩:=h;cases h1;cases e1;exact h0
theorem qZB {α:Type}{sz:Nat}{f:α->List Value}{cs:List Value}:∀(l:List α) (o:Nat),(∀i (hi:i < l.length),(cs.drop (o+i * sz)).take sz=f l[i])->(cs.drop o).take (l.length * sz)=l.flatMap f
 | [],o,_=>by simp
 | x :: l,o,h=>by
  have h0:=h 0 (by simp);have ih:=qZB l (o+sz) (fun i hi=>by
   have:=h (i+1) (by simpa using hi);rw [Nat.succ_mul,Nat.add_comm (i * sz) sz,<-Nat.add_assoc] at this
   simpa using this)
  rw [dX,aK] at h0;rw [fF,Nat.succ_mul,Nat.add_comm (l.length * sz) sz,List.take_add,List.drop_drop,h0,ih];rfl
theorem dF.src {α:Type}{sz:Nat}{f:α->List Value}{F:Fz}{M:Hp}{a:Option Addr}{cap:Nat}{l:List α}(hf:∀x,(f x).length=sz)(h:dF sz f F M (.slice a l.length cap) l)(h0:a=none->cap=0):Src F M sz (.slice a l.length cap) l.length (l.flatMap f):=by
 obtain ⟨_,a',cap',hc,e,h⟩:=h;cases e;refine ⟨yG hf l,?_⟩;cases a with
 | none=>
  have:=h0 rfl;subst this;have hl:l.length=0:=by omega
  exact .inl ⟨by rw [hl],hl⟩
 | some ad=>
  refine .inr ⟨ad,cap,rfl,?_⟩;rcases h with h | ⟨b,o,cs,e,hb,hr⟩
  ·exact .inl (by rw [h]; rfl)
  ·cases e;exact .inr ⟨b,o,cs,rfl,hb,qZB l o (fun i hi=>(hr i hi).2)⟩
structure yW {α:Type}(sz:Nat)(f:α->List Value)(e:TypeId)(F:Fz)(M0 M:Hp)(u:Value)(l:List α):Prop where
 own:gQ sz f e F M u l
 new:∀g n c,u=.slice (some ⟨g,0,none⟩) n c->M0 g=none
theorem yW.nil {α:Type}{sz:Nat}{f:α->List Value}{e:TypeId}{F:Fz}{M0 M:Hp}:yW sz f e F M0 M (.slice none 0 0) ([]:List α):=⟨.inl ⟨rfl,rfl⟩,fun g n c h=>by cases h⟩
theorem yW.fresh {α:Type}{sz:Nat}{f:α->List Value}{e:TypeId}{F:Fz}{M0 M:Hp}{u:Value}{l:List α}(h:yW sz f e F M0 M u l){r:Nat}{x:nH}(hM:M r=none):yW sz f e F M0 (M.upd r x) u l:=⟨h.own.new hM,h.new⟩
theorem gQ.keep {α:Type}{sz:Nat}{f:α->List Value}{e:TypeId}{F:Fz}{M M':Hp}{u:Value}{l:List α}(h:gQ sz f e F M u l)(kp:Keep M M'):gQ sz f e F M' u l:=by
 rcases h with h | ⟨g,cap,h1,h2,h3,h4⟩
 ·exact .inl h
 ·exact .inr ⟨g,cap,h1,h2,kp _ _ h3,h4⟩
theorem yW.keep {α:Type}{sz:Nat}{f:α->List Value}{e:TypeId}{F:Fz}{M0 M M':Hp}{u:Value}{l:List α}(h:yW sz f e F M0 M u l)(kp:Keep M M'):yW sz f e F M0 M' u l:=⟨h.own.keep kp,h.new⟩
theorem yW.shape {α:Type}{sz:Nat}{f:α->List Value}{e:TypeId}{F:Fz}{M0 M:Hp}{u:Value}{l:List α}(h:yW sz f e F M0 M u l):∃a c,u=.slice a l.length c:=by
 rcases h.own with ⟨h1,h2⟩ | ⟨g,cap,h1,_⟩
 ·exact ⟨none,0,by rw [h1,h2]; rfl⟩
 ·exact ⟨_,cap,h1⟩
def tK {α:Type}(sz:Nat)(f:α->List Value)(e:TypeId)(l:List α)(F:Fz)(M:Hp)(u:Value)(F':Fz)(M':Hp):Prop:=
 F'=F/\((l=[]/\u=.slice none 0 0/\M'=M)\/∃g cap,F g=none/\M g=none/\u=.slice (some ⟨g,0,none⟩) l.length cap/\(l.length<=cap/\cap<=maxLen)/\M'=M.upd g ⟨l.flatMap f,e,cap * sz⟩)
theorem tK.le {α:Type}{sz:Nat}{f:α->List Value}{e:TypeId}{l:List α}{F:Fz}{M:Hp}{u:Value}{F':Fz}{M':Hp}(hf:∀x,(f x).length=sz)(h:tK sz f e l F M u F' M')(hl:l.length<=4611686018427387904) :
  F'=F/\Le F M F M'/\Keep M M'/\(Old F M->Old F M')/\∃a c,u=.slice a l.length c/\dF sz f F M' (.slice a l.length c) l:=by
 obtain ⟨hF,h⟩:=h;refine ⟨hF,?_⟩;rcases h with ⟨rfl,rfl,rfl⟩ | ⟨g,cap,h1,h2,rfl,h4,rfl⟩
 ·exact ⟨Le.refl _ _,Keep.refl _,fun h=>h,none,0,rfl,jX⟩
 ·exact ⟨Le.upd h1 h2,(Keep.refl _).new h2,fun h=>h.upd h1,_,_,rfl,gZ hf hl h4.1 wH⟩
theorem yW.done {α:Type}{sz:Nat}{f:α->List Value}{e:TypeId}{F:Fz}{M0 M:Hp}{u:Value}{l:List α}(h:yW sz f e F M0 M u l)(kp:Keep M0 M):lK F M (tK sz f e l F M0) u:=by
 rcases h.own with ⟨h1,h2⟩ | ⟨g,cap,h1,h2,h3,h4,h5⟩
 ·exact qX kp ⟨rfl,.inl ⟨h2,h1,rfl⟩⟩
 ·exact qX (kp.one h3) ⟨rfl,.inr ⟨g,cap,h2,h.new _ _ _ h1,h1,⟨h4,h5⟩,rfl⟩⟩
theorem sU {α:Type}{sz bytes:Nat}{f:α->List Value}{P:Program}{s:Bool}{d:Option Nat}{l:List SO}{K:Env->Fz->Hp->Prop}{σ:Env}{F:Fz}{M0 M:Hp}{e:TypeId}{v u:Value}{xs ys:List α}
  (hf:∀x,(f x).length=sz)(hp:∀x,wQ (f x))(hbytes:bytes<=1000)(h:yW sz f e F M0 M v xs)(kp:Keep M0 M)(hs:Src F M sz u ys.length (ys.flatMap f))(hy:0 < ys.length)(hb:xs.length+ys.length<=1000000)
  (hk:∀v' M',(∃g c,v'=.slice (some ⟨g,0,none⟩) (xs++ys).length c)->(∀r x,M r=some x->¬x.elem=e->M' r=some x)->Keep M0 M'->(Old F M->Old F M')->yW sz f e F M0 M' v' (xs++ys)->iD P s l K (put σ d v') F M') :
  apK P s d l K σ F M e sz bytes (some v) (some u):=by
 refine qYA hf hp hbytes h.own hs hy hb ?_;rintro g cap M2 hgo gF rfl jKE;have g0:M0 g=none:=by
  rcases hgo with h1 | ⟨c,rfl⟩
  ·exact kp.free h1
  ·exact h.new _ _ _ rfl
 refine hk _ _ ⟨g,cap,rfl⟩ (fun r x hr hx=>?_) (kp.new g0) (fun h=>h.upd gF) ⟨jKE,fun g' n c h=>by cases h; exact g0⟩;have:¬r=g:=by
  rcases hgo with h1 | ⟨c,rfl⟩
  ·exact (qJ h1 hr).1
  ·exact h.own.ne hr hx
 rw [Hp.qK this]; exact hr
theorem jKF (a b:Ba):decide (a=b)=(decide (a.b=b.b) && (decide (a.v=b.v) && true)):=by
 apply dG.2;cases a; cases b;simp
@[go_sem] theorem kVB (a b:Ba):eqV (.st [(false,0,1,.i),(true,1,6,(.st [(false,0,1,.i),(false,1,1,.b),(false,2,1,.i),(false,3,1,.i),(false,4,1,.i),(false,5,1,.i)]))]) a.val b.val=some (decide (a=b)):=by
 rw [jKF];have e1:rd true 6 a.cs 1=some a.v.val:=rfl;have e2:rd true 6 b.cs 1=some b.v.val:=rfl;have e3:rd false 1 a.cs 0=some (.int .i64 a.b):=rfl;have e4:rd false 1 b.cs 0=some (.int .i64 b.b):=rfl;simp only [eqV,wHZ,Ba.val,e1,e2,e3,e4];have:=zKW a.v b.v;simp only [eqV] at this;simp [this]
theorem tK.own {α:Type}{sz:Nat}{f:α->List Value}{e:TypeId}{l:List α}{F:Fz}{M:Hp}{u:Value}{F':Fz}{M':Hp}(h:tK sz f e l F M u F' M'):gQ sz f e F M' u l:=by
 obtain ⟨_,⟨h1,h2,_⟩ | ⟨g,cap,h1,_,h3,h4,h5⟩⟩:=h
 ·exact .inl ⟨h2,h1⟩
 ·exact .inr ⟨g,cap,h3,h1,by rw [h5]; exact Hp.qV _ _ _,h4⟩
theorem gQ.frame {α:Type}{sz:Nat}{f:α->List Value}{e e':TypeId}{l:List α}{F:Fz}{M M':Hp}{u:Value}(h:gQ sz f e F M u l)(hfr:∀r x,M r=some x->¬x.elem=e'->M' r=some x)(hne:¬e=e'):gQ sz f e F M' u l:=by
 rcases h with h | ⟨g,cap,h1,h2,h3,h4⟩
 ·exact .inl h
 ·exact .inr ⟨g,cap,h1,h2,hfr _ _ h3 hne,h4⟩
abbrev fV (n:Int):List Value:=[oZ n]
theorem wJ (n:Int):(fV n).length=1:=rfl
theorem kJ (n:Int):wQ (fV n):=by
 intro u hu;simp [fV] at hu;rw [hu]; rfl
theorem one_row {cs:List Value}{p:Nat}{v:Value}(h:(cs.drop p).take 1=[v]):cs[p]? = some v:=by
 have:=congrArg (fun t=>t[0]?) h
 simpa using this
theorem xXV {k:Int}{v:V}{l:List Ba}(h:uM k v l=true):l.length<=7/\(¬k=7->v.ok=true/\l=[])/\(∀x∈l,0<=x.v.w/\x.v.w<=62/\x.v.ok=true/\x.v.w=8/\0<=x.b/\x.b<=6):=by
 by_cases h7:k=7
 ·simp only [uM,h7,if_true,aC,gX,bW,decide_eq_true_eq] at h;refine ⟨h.2.1,fun h=>absurd h7 h,fun x hx=>?_⟩;obtain ⟨i,hi,rfl⟩:=bZ hx;have:=h.2.2 i (by simpa using hi);unfold tJ at this;rw [List.getElem?_eq_getElem hi] at this;simp only [mP,aC,decide_eq_true_eq] at this;have hb:=this.1.1.1.1;have hv:=this.1.1.1.2;have hw:=this.1.1.2;exact ⟨by omega,by omega,hv,hw,hb.1,hb.2⟩
 ·simp only [uM,h7,if_false,aC,decide_eq_true_eq] at h;have hl:l=[]:=by simpa using h.2
  subst hl;exact ⟨by simp,fun _=>⟨h.1.1.2,rfl⟩,by simp⟩
theorem seq_assoc {P:Program}{a b c:SC}{Q:Post}{σ:Env}{F:Fz}{M:Hp}:W P (.seq a (.seq b c)) Q σ F M=W P (.seq (.seq a b) c) Q σ F M:=by
 have:(Post.andThen (W P b (Post.andThen (W P c Q) Q)) (Post.andThen (W P c Q) Q))=Post.andThen (W P b (Post.andThen (W P c Q) Q)) Q:=by
  funext x
  cases x <;> rfl
 show W P a (Post.andThen (W P b (Post.andThen (W P c Q) Q)) Q) σ F M=W P a (Post.andThen (W P b (Post.andThen (W P c Q) Q)) (Post.andThen (W P c Q) Q)) σ F M;rw [this]
end Go.Ax
namespace Go.Proofs.Tryz.K
open Go Go.Ax Go.Proofs.Tryz.S
variable (F:Fz) (M:Hp)
def eqI (l1 l2:List Ba)(u1 u2:Value)(F0:Fz)(M0:Hp)(m:Nat)(σ:Env)(F:Fz)(M:Hp):Prop:=
 F=F0/\M=M0/\Ax.look σ 0=some u1/\Ax.look σ 1=some u2/\∃i:Nat,i+m=l1.length/\Ax.look σ 5=some (.int .i64 i)/\l1.take i=l2.take i
theorem kVC (u1 u2:Value)(l1 l2:List Ba)(h1:dF 7 Ba.cs F M u1 l1)(h2:dF 7 Ba.cs F M u2 l2):aI prog 155 [u1,u2] F M (Same F M (.bool (decide (l1=l2)))):=by
 refine qZ hm func155 kZA (aA rfl) ?_;obtain ⟨hl1,a1,c1,_,rfl,r1⟩:=h1;obtain ⟨hl2,a2,c2,_,rfl,r2⟩:=h2;by_cases hlen:l1.length=l2.length;rotate_left
 ·have:¬((l1.length:Int)=l2.length):=by omega
  simp only [vQH,go_sem,this];exact qW ⟨by rw [decide_eq_false (by rintro rfl; exact hlen rfl)],rfl,rfl⟩
 have hli:(l1.length:Int)=l2.length:=by omega
 simp only [vQH,go_sem,hli];refine iQ (eqI l1 l2 (.slice a1 l1.length c1) (.slice a2 l2.length c2) F M) l1.length ?_ ?_
 ·exact ⟨rfl,rfl,by simp only [go_sem],by simp only [go_sem],0,by omega,by simp only [go_sem] <;> rfl,by simp⟩
 rintro m σ F' M' ⟨rfl,rfl,q0,q1,i,hi,q5,he⟩;by_cases hil:(i:Int) < l1.length;rotate_left
 ·simp only [go_sem,q0,q5,hil];have:l1=l2:=by
   rw [aJ (by omega),aJ (by omega)] at he;exact he
  exact qW ⟨by simp [this],rfl,rfl⟩
 have hi0:(0:Int)<=i:=by omega
 have hi1:i < l1.length:=by omega
 have hi2:i < l2.length:=by omega
 have xXH:(i:Int) < l2.length:=by omega
 have ei:i64.wrap ((i:Int)+1)=i+1:=dQ (by omega) (by omega);rcases r1 with h | ⟨b,o,cs,rfl,hb,hc⟩
 ·rw [h] at hi1; simp at hi1
 rcases r2 with h | ⟨b',o',cs',rfl,hb',hc'⟩
 ·rw [h] at hi2; simp at hi2
 obtain ⟨d1,d2⟩:=hc i hi1;obtain ⟨d3,d4⟩:=hc' i hi2;have t1:=aF hi1;have t2:=aF hi2;have hne:¬l1[i]=l2[i]->¬l1=l2:=by
  rintro h rfl; exact h rfl
 generalize l1[i]=x at *;generalize l2[i]=y at *;by_cases hxy:x=y
 ·simp only [go_sem,q0,q1,q5,hil,xXH,hi0,aB,hb,hb',d1,d2,d3,d4,hxy,ei];exact ⟨m - 1,by omega,rfl,rfl,by simp only [go_sem,q0],by simp only [go_sem,q1],i+1,by omega,by simp only [go_sem]; rfl,by rw [t1,t2,he,hxy]⟩
 ·simp only [go_sem,q0,q1,q5,hil,xXH,hi0,aB,hb,hb',d1,d2,d3,d4,hxy];exact qW ⟨by rw [decide_eq_false (hne hxy)],rfl,rfl⟩
theorem zGJ (v1 v2:V)(u1 u2:Value)(l1 l2:List Ba)(h1:dF 7 Ba.cs F M u1 l1)(h2:dF 7 Ba.cs F M u2 l2):aI prog 117 [abV v1 u1,abV v2 u2] F M (Same F M (.bool (decide (v1=v2) && decide (l1=l2)))):=by
 refine qZ hm func117 e117 (aA rfl) ?_;have h1':=h1;have h2':=h2;obtain ⟨_,a1,c1,_,rfl,_⟩:=h1;obtain ⟨_,a2,c2,_,rfl,_⟩:=h2;simp only [c117,go_sem];intro r2 hF2 hM2;simp only [go_sem];intro r3 hF3 dN;have g3:=yZ dN;have q1:=(h1'.new hF2 hM2 (e:=⟨gG v1 (.slice a1 l1.length c1),97,7⟩)).new hF3 dN (e:=⟨gG v2 (.slice a2 l2.length c2),97,7⟩);have q2:=(h2'.new hF2 hM2 (e:=⟨gG v1 (.slice a1 l1.length c1),97,7⟩)).new hF3 dN (e:=⟨gG v2 (.slice a2 l2.length c2),97,7⟩);by_cases hv:v1=v2
 ·simp only [go_sem,g3,hv];subst hv;refine qQ (kVC _ _ _ _ l1 l2 q1 q2) ?_;simp only [go_sem];exact qH dN (qH hM2 (qW ⟨by simp,rfl,rfl⟩))
 ·simp only [go_sem,g3,hv];exact qH dN (qH hM2 (qW ⟨by simp,rfl,rfl⟩))
structure CbI (l:List Ba)(u:Value)(F0:Fz)(M0:Hp)(m:Nat)(σ:Env)(F:Fz)(M:Hp):Prop where
 ff:F=F0
 kp:Keep M0 M
 old:Old F0 M
 h0:Ax.look σ 0=some u
 st:∃(i:Nat) (w:Value),i+m=l.length/\Ax.look σ 4=some (.int .i64 i)/\Ax.look σ 3=some w/\yW 7 Ba.cs 132 F0 M0 M w (l.take i)
theorem kVE (u:Value)(l:List Ba)(h:dF 7 Ba.cs F M u l)(hold:Old F M)(hl:l.length<=100000):aI prog 194 [u] F M (tK 7 Ba.cs 132 l F M):=by
 refine qZ hm func194 kJZ (aA rfl) ?_;have h':=h;obtain ⟨_,ad,cap,_,rfl,_⟩:=h;simp only [c194,go_sem];refine iQ (CbI l (.slice ad l.length cap) F M) l.length ?_ ?_
 ·exact ⟨rfl,Keep.refl _,hold,by simp only [go_sem],0,_,by omega,by simp only [go_sem] <;> rfl,by simp only [go_sem]; rfl,by rw [List.take_zero]; exact yW.nil⟩
 rintro m σ F' M' s;obtain ⟨i,w,hi,h4,h3,mine⟩:=s.st;obtain rfl:=s.ff;have h0:=s.h0;by_cases hil:(i:Int) < l.length;rotate_left
 ·have:l.take i=l:=aJ (by omega);rw [this] at mine;simp only [go_sem,h0,h3,h4,hil];exact mine.done s.kp
 have hi0:(0:Int)<=i:=by omega
 have eU:i < l.length:=by omega
 have ei:i64.wrap ((i:Int)+1)=i+1:=dQ (by omega) (by omega);obtain ⟨_,_,_,_,eu,hrd⟩:=h'.keep s.kp s.old;cases eu;rcases hrd with h | ⟨b,o,cs,rfl,hb,hc⟩
 ·rw [h] at eU; simp at eU
 obtain ⟨d1,d2⟩:=hc i eU;have t1:=aF eU;generalize l[i]=x at *;simp only [go_sem,h0,h3,h4,hil,hi0,aB,hb,d1,d2];intro rb uK lW;simp only [go_sem];refine sU (xs:=l.take i) (ys:=[x]) (fun x=>rfl) Ba.plain (by decide) (mine.fresh lW) (s.kp.new (s.kp.free lW)) ⟨rfl,.inr ⟨⟨rb,0,none⟩,1,rfl,.inr ⟨rb,0,_,rfl,wH,by simp [Ba.wDZ]⟩⟩⟩ (by simp) (by simp; omega) ?_;rintro v' M2 _ _ nG ho2 xO;rw [<-t1] at xO;simp only [go_sem,h4,ei];exact ⟨m - 1,by omega,rfl,nG,ho2 (s.old.upd uK),by simp only [go_sem,h0],i+1,v',by omega,by simp only [go_sem]; rfl,by simp only [go_sem],xO⟩
def cpR (v:V)(l:List Ba)(F:Fz)(M:Hp)(u:Value)(F':Fz)(M':Hp):Prop:=∃w,u=abV v w/\tK 7 Ba.cs 132 l F M w F' M'
theorem kVF (v:V)(u:Value)(l:List Ba)(h:dF 7 Ba.cs F M u l)(hold:Old F M)(hl:l.length<=100000):aI prog 168 [abV v u] F M (cpR v l F M):=by
 refine qZ hm func168 e168 (aA rfl) ?_;have h':=h;obtain ⟨_,ad,cap,_,rfl,_⟩:=h;simp only [c168,go_sem];intro r1 hF1 hM1;simp only [go_sem];intro r2 hF2 hM2;have g2:=yZ hM2;simp only [go_sem,g2];intro r3 hF3 dN;have g3:=yZ dN;have g32:=yZ g3.2.2;simp only [go_sem,g2,g32];have kp0:Keep M (((M.upd r1 ⟨gG v (.slice ad l.length cap),97,7⟩).upd r2 ⟨[.int .i64 0,.bool false,.int .i64 0,.int .i64 0,.int .i64 0,.int .i64 0,.slice none 0 0],97,7⟩).upd r3 ⟨gG v (.slice ad l.length cap),97,7⟩):=(((Keep.refl M).new hM1).new g2.2.2).new g32.2.2;have dA:Old F (((M.upd r1 ⟨gG v (.slice ad l.length cap),97,7⟩).upd r2 ⟨[.int .i64 0,.bool false,.int .i64 0,.int .i64 0,.int .i64 0,.int .i64 0,.slice none 0 0],97,7⟩).upd r3 ⟨gG v (.slice ad l.length cap),97,7⟩):=((hold.upd hF1).upd hF2).upd hF3;have wJF:¬r2=r3:=g3.2.1;have f3:(((M.upd r1 ⟨gG v (.slice ad l.length cap),97,7⟩).upd r2 ⟨[.int .i64 0,.bool false,.int .i64 0,.int .i64 0,.int .i64 0,.int .i64 0,.slice none 0 0],97,7⟩).upd r3 ⟨gG v (.slice ad l.length cap),97,7⟩) r3=some ⟨gG v (.slice ad l.length cap),97,7⟩:=Hp.qV _ _ _;have f2:(((M.upd r1 ⟨gG v (.slice ad l.length cap),97,7⟩).upd r2 ⟨[.int .i64 0,.bool false,.int .i64 0,.int .i64 0,.int .i64 0,.int .i64 0,.slice none 0 0],97,7⟩).upd r3 ⟨gG v (.slice ad l.length cap),97,7⟩) r2=some ⟨[.int .i64 0,.bool false,.int .i64 0,.int .i64 0,.int .i64 0,.int .i64 0,.slice none 0 0],97,7⟩:=by
  rw [Hp.qK wJF]; exact Hp.qV _ _ _
 refine wW (kVE _ _ _ l (h'.keep kp0 dA) dA hl) ?_;have n2:M r2=none:=g2.2.2;have n3:M r3=none:=g32.2.2;generalize ((M.upd r1 ⟨gG v (.slice ad l.length cap),97,7⟩).upd r2 ⟨[.int .i64 0,.bool false,.int .i64 0,.int .i64 0,.int .i64 0,.int .i64 0,.slice none 0 0],97,7⟩).upd r3 ⟨gG v (.slice ad l.length cap),97,7⟩=M3 at *;rintro w G M4 hr;obtain ⟨hG,le,kq,oq,a,c,rfl,rdq⟩:=hr.le (f:=Ba.cs) (fun x=>rfl) (by omega);subst hG;refine ⟨(fun h=>by cases h),?_⟩;have f3':=kq _ _ f3;have f2':=kq _ _ f2;obtain ⟨M5,k5,ha,nn⟩:∃M5,Keep M5 M4/\tK 7 Ba.cs 132 l G M (.slice a l.length c) G M5/\(∀r x,M r=none->M3 r=some x->M5 r=none):=by
  obtain ⟨_,⟨h1,h2,rfl⟩ | ⟨g,cp,h1,h2,h3,h4,rfl⟩⟩:=hr
  ·exact ⟨M,kp0,⟨rfl,.inl ⟨h1,h2,rfl⟩⟩,fun r x h _=>h⟩
  ·exact ⟨_,kp0.both,⟨rfl,.inr ⟨g,cp,h1,kp0.free h2,h3,h4,rfl⟩⟩,fun r x hr hx=>by
    rw [Hp.qK (qJ h2 hx).1]; exact hr⟩
 have n25:=nn _ _ n2 f2;have n35:=nn _ _ n3 f3;simp only [go_sem,f3'];simp only [setH,xXG,go_sem,f2',wJF];refine qX (M:=M5) ((k5.new n35).new ?_) ⟨_,rfl,ha⟩;exact n25
end Go.Proofs.Tryz.K
namespace Go.Ax
open Go
theorem gQ.src {α:Type}{sz:Nat}{f:α->List Value}{e:TypeId}{F:Fz}{M:Hp}{u:Value}{l:List α}(hf:∀x,(f x).length=sz)(h:gQ sz f e F M u l):Src F M sz u l.length (l.flatMap f):=by
 refine ⟨yG hf l,?_⟩;rcases h with ⟨h1,h2⟩ | ⟨g,cap,h1,h2,h3,h4,h5⟩
 ·exact .inl ⟨h1,by rw [h2]; rfl⟩
 ·exact .inr ⟨_,cap,h1,.inr ⟨g,0,_,rfl,qG h3,by rw [List.drop_zero,aJ]; rw [yG hf]; exact aN _⟩⟩
theorem kU {α:Type}{sz bytes:Nat}{f:α->List Value}{P:Program}{s:Bool}{d:Option Nat}{l:List SO}{K:Env->Fz->Hp->Prop}{σ:Env}{F:Fz}{M0 M:Hp}{e:TypeId}{v u:Value}{xs ys:List α}
  (hf:∀x,(f x).length=sz)(hp:∀x,wQ (f x))(hbytes:bytes<=1000)(h:yW sz f e F M0 M v xs)(kp:Keep M0 M)(hs:Src F M sz u ys.length (ys.flatMap f))(hb:xs.length+ys.length<=1000000)
  (hk:∀v' M',(∀r x,M r=some x->¬x.elem=e->M' r=some x)->Keep M0 M'->(Old F M->Old F M')->yW sz f e F M0 M' v' (xs++ys)->iD P s l K (put σ d v') F M') :
  apK P s d l K σ F M e sz bytes (some v) (some u):=by
 have hm:(xs.length+ys.length) * bytes<=1000000 * 1000:=Nat.mul_le_mul hb hbytes;refine wJD (h.own.own hf) hs (yZV hp ys) (by simp only [maxLen]; omega) (by omega) ?_;rintro v' M' (⟨h0,h1,rfl,rfl⟩ | ⟨g,cap,hg,rfl,h1,h2,rfl⟩)
 ·have hys:ys=[]:=by simpa using h1
  have hxs:xs=[]:=by
   rcases h.own with ⟨_,h⟩ | ⟨g',cap',h,_⟩
   ·exact h
   ·rw [h] at h0; cases h0
  subst hys hxs;exact hk _ _ (fun r x hr _=>hr) kp (fun h=>h) ⟨.inl ⟨rfl,rfl⟩,fun g n c h=>by cases h⟩
 rw [<-aO,<-List.flatMap_append];have key:F g=none/\(M g=none\/∃c,v=.slice (some ⟨g,0,none⟩) xs.length c):=by
  rcases hg with ⟨c,hx⟩ | ⟨hx,hy⟩
  ·rcases h.own with ⟨h1,_⟩ | ⟨g',cap',h1,h2,_⟩
   ·rw [h1] at hx; cases hx
   ·rw [h1] at hx; cases hx; exact ⟨h2,.inr ⟨_,h1⟩⟩
  ·exact ⟨hx,.inl hy⟩
 have g0:M0 g=none:=by
  rcases key.2 with h1 | ⟨c,hv⟩
  ·exact kp.free h1
  ·exact h.new _ _ _ hv
 refine hk _ _ (fun r x hr hx=>?_) (kp.new g0) (fun h=>h.upd key.1) ⟨.inr ⟨g,cap,rfl,key.1,Hp.qV _ _ _,by rw [aO]; exact h1,h2⟩,fun g' n c h=>by cases h; exact g0⟩;have:¬r=g:=by
  rcases key.2 with h1 | ⟨c,hv⟩
  ·exact (qJ h1 hr).1
  ·rw [hv] at h; exact h.own.ne hr hx
 rw [Hp.qK this]; exact hr
def ofB (l:List Ba)(b:Int):Ba:=match l.find? (fun x=>decide (x.b=b)) with
 | some x=>x
 | none=>⟨b,V.nothing 8⟩
theorem yYB {l : List Ba} (h : gX l = true) : (∀ x ∈ l, mP x = true) /\ l.Pairwise (fun x y => x.b < y.b) := by
  unfold gX at h
  rw [aC, bW] at h
  have hj : ∀ j, j < l.length -> tJ l j = true := fun j hj => h.2 j (by simpa using hj)
  have hlt : ∀ j (hj1 : j + 1 < l.length), (l[j]).b < (l[j + 1]).b := by
    intro j hj1
    have := hj (j + 1) hj1
    unfold tJ at this
    rw [List.getElem?_eq_getElem hj1] at this
    simp only [Nat.add_sub_cancel, List.getElem?_eq_getElem (by omega : j < l.length), aC, dJ, decide_eq_true_eq] at this
    omega
  refine ⟨fun x hx => ?_, ?_⟩
  · obtain ⟨i, hi, rfl⟩ := bZ hx
    have := hj i hi
    unfold tJ at this
    rw [List.getElem?_eq_getElem hi] at this
    simp only [aC] at this
    exact this.1
  · rw [List.pairwise_iff_getElem]
    intro i j hi hj' hij
    have key : ∀ d (hd : i + d + 1 < l.length), (l[i]).b < (l[i + d + 1]).b := by
      intro d
      induction d with
      | zero => intro hd; exact hlt i hd
      | succ d ih => intro hd; have h1 := ih (by omega); have h2 := hlt (i + d + 1) (by omega); have e : i + (d + 1) + 1 = i + d + 1 + 1 := by omega
                     simp only [e] at *; omega
    have := key (j - i - 1) (by omega)
    have e : i + (j - i - 1) + 1 = j := by omega
    simpa only [e] using this
theorem tK.mine {α:Type}{sz:Nat}{f:α->List Value}{e:TypeId}{l:List α}{F:Fz}{M0 M:Hp}{u:Value}{F':Fz}{M':Hp}(h:tK sz f e l F M u F' M')(kp:Keep M0 M):yW sz f e F M0 M' u l:=by
 refine ⟨h.own,fun g n c hu=>?_⟩;obtain ⟨_,⟨_,h2,_⟩ | ⟨g',cap,_,h2,h3,_⟩⟩:=h
 ·rw [h2] at hu; cases hu
 ·rw [h3] at hu; cases hu; exact kp.free h2
end Go.Ax
namespace Go.Ax
open Go
set_option linter.unusedVariables false
def wDV (n:Nat):Int:=-((n:Int)+1)
theorem ofInt_neg {n:Nat}(h:n < 2 ^ 63):BitVec.ofInt 64 (wDV n) = ~~~ BitVec.ofNat 64 n:=by
 apply BitVec.eq_of_toNat_eq;rw [BitVec.toNat_not,mF h,BitVec.toNat_ofInt,wDV];omega
theorem jJQ {m:Nat}(h:m < 2 ^ 63):i64.wrap ((~~~BitVec.ofNat 64 m).toNat:Int)=wDV m:=by
 rw [BitVec.toNat_not,mF h,IntKind.wrap_i64,wDV];omega
section
variable {p q:Nat} (hp:p < 2 ^ 63) (hq:q < 2 ^ 63)
include hp hq
end
theorem xVZ {p : Nat} (hp : p < 2 ^ 63) : qVE .i64 (-1) (p : Int) = wDV p := by
  unfold qVE
  have e : BitVec.ofInt 64 (-1) = ~~~ BitVec.ofNat 64 0 := ofInt_neg (n := 0) (by decide)
  have : ~~~BitVec.ofNat 64 0 ^^^ BitVec.ofNat 64 p = ~~~BitVec.ofNat 64 p := by
    apply BitVec.eq_of_getLsbD_eq
    intro i hi
    rw [BitVec.getLsbD_xor, BitVec.getLsbD_not, BitVec.getLsbD_not, BitVec.getLsbD_ofNat, BitVec.getLsbD_ofNat]
    cases p.testBit i <;> simp [hi]
  rw [show i64.bits = 64 from rfl, mD hp, e, this]
  exact jJQ hp
def xXD (op:Int)(x y:Nat):Nat:=if op=13 then x &&& y else if op=14 then x ||| y else x ^^^ y
end Go.Ax
namespace Go.Ax
open Go
set_option linter.unusedVariables false
def rM (k v:Int):Int × Int:=if wP k=true/\(v < jH k\/gH k < v) then (0,4) else (v % 2 ^ (iF k).toNat,0)
def yL (op k u v:Int):Int × Int:=if v=0 then (0,6) else if wP k=true/\u=jH k/\v = -1 then (0,4) else ((if op=11 then u.tdiv v else u.tmod v) % 2 ^ (iF k).toNat,0)
def oQ (op k a u v:Int):Int × Int:=if v < 0\/iF k<=v then (0,5) else ((if op=16 then a * 2 ^ v.toNat else u / 2 ^ v.toNat) % 2 ^ (iF k).toNat,0)
def vXW (op a b:Int):Int:=if op=13 then band .i64 a b else if op=14 then bor .i64 a b else qVE .i64 a b
def rO (op k a b:Int):Int × Int:=
 if op=8 then rM k (yX k a+yX k b)
 else if op=9 then rM k (yX k a - yX k b)
 else if op=10 then rM k (yX k a * yX k b)
 else if op=11\/op=12 then yL op k (yX k a) (yX k b)
 else if op=13\/op=14\/op=15 then (vXW op a b,0)
 else if op=16\/op=17 then oQ op k a (yX k a) (yX k b)
 else if op=18 then (if a=b then 1 else 0,0)
 else (if yX k a < yX k b then 1 else 0,0)
def qHK (op k:Int):Int:=if op=18\/op=19\/op=7 then 32 else iF k
def wGQ (op k bad:Int):Bool:=
 if op=8\/op=9\/op=10\/op=5 then wP k && decide (bad=4)
 else if op=11\/op=12 then decide (bad=6) || (wP k && decide (bad=4))
 else if op=16\/op=17 then decide (bad=5) else false
theorem kinds {k:Int}(h:isK k=true) :
  (wP k=false/\jH k=0/\gH k=wD (iF k)\/wP k=true/\jH k = -(gH k) - 1/\wD (iF k)=2 * gH k+1)/\127<=gH k/\gH k<=4294967295/\wD (iF k)<=4294967295/\255<=wD (iF k):=by
 rcases vH h with rfl | rfl | rfl | rfl | rfl | rfl <;> decide +kernel
theorem yZD {k v:Int}(h0:jH k<=v)(h1:v<=gH k):rM k v=(v % 2 ^ (iF k).toNat,0):=by
 unfold rM;rw [if_neg (by omega)]
theorem jJW (n:Int){w:Int}(hw:zS w=true):i64.wrap n % 2 ^ w.toNat=n % 2 ^ w.toNat:=by
 rw [IntKind.wrap_i64];rcases zJ hw with ⟨_,h,_⟩ | ⟨_,h,_⟩ | ⟨_,h,_⟩ <;> rw [h] <;> omega
theorem wDH (u v:Int):(u.tdiv v).natAbs=u.natAbs / v.natAbs:=Int.natAbs_tdiv u v
theorem wDD (u v:Int):(u.tmod v).natAbs=u.natAbs % v.natAbs:=Int.natAbs_tmod u v
structure kHW (u v:Int):Prop where
 q:(u.tdiv v).natAbs<=u.natAbs
 qs:0<=u->0<=v->0<=u.tdiv v
 r:(u.tmod v).natAbs<=u.natAbs
 rv:v≠0->(u.tmod v).natAbs < v.natAbs
 rs:0<=u->0<=u.tmod v
 rn:u<=0->u.tmod v<=0
 half:2<=v.natAbs->(u.tdiv v).natAbs<=u.natAbs / 2
theorem wZH (u v:Int):kHW u v where
 q:=by rw [wDH]; exact Nat.div_le_self _ _
 qs:=fun h k=>Int.tdiv_nonneg h k
 r:=by rw [wDD]; exact Nat.mod_le _ _
 rv:=fun h=>by rw [wDD]; exact Nat.mod_lt _ (by omega)
 rs:=fun h=>Int.tmod_nonneg v h
 rn:=fun h=>by
  have:=Int.tmod_nonneg v (show 0<=-u by omega);rw [Int.neg_tmod] at this;omega
 half:=fun h=>by rw [wDH]; exact Nat.div_le_div_left h (by decide)
theorem qYC {k u v:Int}(hk:isK k=true)(u0:jH k<=u)(u1:u<=gH k)(v0:jH k<=v)(hv:v≠0)(h:¬(wP k=true/\u=jH k/\v = -1)):jH k<=u.tdiv v/\u.tdiv v<=gH k:=by
 have d:=wZH u v;have hq:=d.q;obtain ⟨hs,_⟩:=kinds hk;rcases hs with ⟨s,l,m⟩ | ⟨s,l,m⟩
 ·have:=d.qs (by omega) (by omega);omega
 ·by_cases h1:v=1
  ·subst h1; rw [Int.tdiv_one]; omega
  ·by_cases h2:v = -1
   ·subst h2;have e:u.tdiv (-1) = -u:=by rw [Int.tdiv_neg,Int.tdiv_one]
    have:¬u=jH k:=fun e=>h ⟨s,e,rfl⟩
    rw [e]; omega
   ·have:=d.half (by omega);omega
theorem yZY {k u v:Int}(hk:isK k=true)(u0:jH k<=u)(u1:u<=gH k):jH k<=u.tmod v/\u.tmod v<=gH k:=by
 have d:=wZH u v;have hq:=d.r;have h1:=d.rs;have h2:=d.rn;obtain ⟨hs,_⟩:=kinds hk;by_cases h:0<=u
 ·have:=h1 h; omega
 ·have:=h2 (by omega); omega
theorem yZA {n w:Int}(h0:0<=n)(h1:n<=wD w):nN n w=true:=by simp [nN,h0,h1]
theorem jJX {n w:Int}(h:nN n w=true):0<=n/\n<=wD w:=by simpa [nN] using h
theorem yZB {n w:Int}(h0:0<=n)(h1:n<=wD w):∃k:Nat,n=k/\k < 2 ^ w.toNat:=by
 refine ⟨n.toNat,by omega,?_⟩;rw [qQY] at h1;have:1<=2 ^ w.toNat:=Nat.one_le_two_pow;omega
theorem jJZ {op:Int}{a b:Nat}(ha:a < 2 ^ 63)(hb:b < 2 ^ 63):vXW op a b=(xXD op a b:Nat):=by
 unfold vXW xXD;split
 ·rw [qM ha hb]
 ·split
  ·rw [qQD ha hb]
  ·rw [wHB ha hb]
theorem xXY {op:Int}{a b w:Nat}(ha:a < 2 ^ w)(hb:b < 2 ^ w):xXD op a b < 2 ^ w:=by
 unfold xXD;split
 ·exact dI Nat.and_le_left ha
 ·split
  ·exact Nat.or_lt_two_pow ha hb
  ·exact Nat.xor_lt_two_pow ha hb
section
variable {op k a b:Int} (hk:isK k=true) (a0:0<=a) (a1:a<=wD (iF k)) (b0:0<=b) (b1:b<=wD (iF k))
theorem wGW (k v:Int):(rM k v).2=0\/(wP k=true/\(rM k v).2=4):=by
 unfold rM; split
 ·rename_i h; exact .inr ⟨h.1,rfl⟩
 ·exact .inl rfl
theorem xXA (op k u v:Int):(yL op k u v).2=0\/(yL op k u v).2=6\/(wP k=true/\(yL op k u v).2=4):=by
 unfold yL; split
 ·exact .inr (.inl rfl)
 ·split
  ·rename_i h; exact .inr (.inr ⟨h.1,rfl⟩)
  ·exact .inl rfl
theorem yYC (op k a u v:Int):(oQ op k a u v).2=0\/(oQ op k a u v).2=5:=by
 unfold oQ; split
 ·exact .inr rfl
 ·exact .inl rfl
include hk a0 a1 b0 b1
theorem wGX (hz:(rO op k a b).2=0):nN (rO op k a b).1 (qHK op k)=true:=by
 have hm:∀t:Int,nN (t % 2 ^ (iF k).toNat) (iF k)=true:=fun t=>wI (jQ k)
 have hf:∀v,nN (rM k v).1 (iF k)=true:=fun v=>by
  unfold rM; split
  ·exact zT (jJ (jQ k)).1 (jJ (jQ k)).2
  ·exact hm _
 have hans:¬(op=18\/op=19\/op=7)->qHK op k=iF k:=fun h=>by unfold qHK; rw [if_neg h]
 unfold rO at hz ⊢;split
 ·rw [hans (by omega)]; exact hf _
 ·split
  ·rw [hans (by omega)]; exact hf _
  ·split
   ·rw [hans (by omega)]; exact hf _
   ·split
    ·rw [hans (by omega)];unfold yL;split
     ·exact zT (jJ (jQ k)).1 (jJ (jQ k)).2
     ·split
      ·exact zT (jJ (jQ k)).1 (jJ (jQ k)).2
      ·exact hm _
    ·split
     ·rw [hans (by omega)];obtain ⟨x,rfl,hx⟩:=yZB a0 a1;obtain ⟨y,rfl,hy⟩:=yZB b0 b1;have hp:=xK (jJ (jQ k)).2;rw [jJZ (Nat.lt_trans hx hp) (Nat.lt_trans hy hp)];have:=xXY (op:=op) hx hy;refine yZA (by omega) ?_;rw [qQY]; omega
     ·split
      ·rw [hans (by omega)];unfold oQ;split
       ·exact zT (jJ (jQ k)).1 (jJ (jQ k)).2
       ·exact hm _
      ·have:nN 1 (qHK op k)=true/\nN 0 (qHK op k)=true:=by
        unfold qHK;split
        ·decide
        ·have:=kinds hk;exact ⟨yZA (by omega) (by omega),yZA (by omega) (by omega)⟩
       split
       ·split
        ·exact this.1
        ·exact this.2
       ·split
        ·exact this.1
        ·exact this.2
omit hk a0 a1 b0 b1
theorem xXB:(rO op k a b).2=0\/wGQ op k (rO op k a b).2=true:=by
 unfold rO;split
 ·rename_i h;rcases wGW k (yX k a+yX k b) with h1 | ⟨h1,h2⟩
  ·exact .inl h1
  ·right; unfold wGQ; rw [if_pos (by omega),h2,h1]; rfl
 ·split
  ·rcases wGW k (yX k a - yX k b) with h1 | ⟨h1,h2⟩
   ·exact .inl h1
   ·right; unfold wGQ; rw [if_pos (by omega),h2,h1]; rfl
  ·split
   ·rcases wGW k (yX k a * yX k b) with h1 | ⟨h1,h2⟩
    ·exact .inl h1
    ·right; unfold wGQ; rw [if_pos (by omega),h2,h1]; rfl
   ·split
    ·rcases xXA op k (yX k a) (yX k b) with h1 | h1 | ⟨h1,h2⟩
     ·exact .inl h1
     ·right; unfold wGQ; rw [if_neg (by omega),if_pos (by omega),h1]; rfl
     ·right; unfold wGQ; rw [if_neg (by omega),if_pos (by omega),h1,h2]; rfl
    ·split
     ·exact .inl rfl
     ·split
      ·rcases yYC op k a (yX k a) (yX k b) with h1 | h1
       ·exact .inl h1
       ·right; unfold wGQ; rw [if_neg (by omega),if_neg (by omega),if_pos (by omega),h1]; rfl
      ·split <;> exact .inl rfl
end
end Go.Ax
namespace Go.Ax
open Go
theorem yGC {a b c d u v m:Int}(h1:a<=u)(h2:u<=b)(h3:c<=v)(h4:v<=d)(m1:m<=a * c)(m2:m<=a * d)(m3:m<=b * c)(m4:m<=b * d):m<=u * v:=by
 by_cases hv:0<=v
 ·have e1:a * v<=u * v:=Int.mul_le_mul_of_nonneg_right h1 hv;by_cases ha:0<=a
  ·have:a * c<=a * v:=Int.mul_le_mul_of_nonneg_left h3 ha;omega
  ·have:a * d<=a * v:=Int.mul_le_mul_of_nonpos_left (by omega) h4;omega
 ·have e1:b * v<=u * v:=Int.mul_le_mul_of_nonpos_right h2 (by omega);by_cases hb:0<=b
  ·have:b * c<=b * v:=Int.mul_le_mul_of_nonneg_left h3 hb;omega
  ·have:b * d<=b * v:=Int.mul_le_mul_of_nonpos_left (by omega) h4;omega
theorem jJK {a b c d u v m:Int}(h1:a<=u)(h2:u<=b)(h3:c<=v)(h4:v<=d)(m1:a * c<=m)(m2:a * d<=m)(m3:b * c<=m)(m4:b * d<=m):u * v<=m:=by
 have:=yGC (a:=-b) (b:=-a) (c:=c) (d:=d) (u:=-u) (v:=v) (m:=-m) (by omega) (by omega) h3 h4 (by rw [Int.neg_mul]; omega) (by rw [Int.neg_mul]; omega) (by rw [Int.neg_mul]; omega) (by rw [Int.neg_mul]; omega);rw [Int.neg_mul] at this;omega
theorem wDY (k:Int):8<=iF k/\iF k<=32/\iF k - 1<=wD (iF k)/\iF k<=wD (iF k):=by
 rcases zJ (jQ k) with ⟨h,_,m,_⟩ | ⟨h,_,m,_⟩ | ⟨h,_,m,_⟩ <;> rw [m] <;> omega
theorem wZD {op k x y:Int}(hop:op=16\/op=17):rO op k x y=oQ op k x (yX k x) (yX k y):=by
 unfold rO;rcases hop with rfl | rfl <;> rfl
theorem jJJ {a v:Int}(a0:0<=a)(a1:a<=4294967295)(v0:0<=v)(v1:v < 32):qF .i64 a v=a * 2 ^ v.toNat:=by
 unfold qF;have e:min v.toNat i64.bits=v.toNat:=by
  have:i64.bits=64:=rfl;omega
 rw [e];have p:(2:Int) ^ v.toNat<=2147483648:=by
  have e1:(2:Int) ^ 31=2 ^ v.toNat * 2 ^ (31 - v.toNat):=by rw [<-Int.pow_add]; congr 1; omega
  have p1:(0:Int) < 2 ^ (31 - v.toNat):=Int.pow_pos (by decide);have p2:(0:Int) < 2 ^ v.toNat:=Int.pow_pos (by decide);have:=Int.mul_le_mul_of_nonneg_left (show 1<=(2:Int) ^ (31 - v.toNat) by omega) (show 0<=(2:Int) ^ v.toNat by omega);omega
 have p2:(0:Int) < 2 ^ v.toNat:=Int.pow_pos (by decide);have h1:a * 2 ^ v.toNat<=4294967295 * 2147483648:=Int.mul_le_mul a1 p (by omega) (by omega);have h0:0<=a * 2 ^ v.toNat:=Int.mul_nonneg a0 (by omega);exact dQ (by omega) (by omega)
theorem yGE {u v:Int}(v0:0<=v)(v1:v < 64):sW .i64 u v=u / 2 ^ v.toNat:=by
 unfold sW;have e:min v.toNat i64.bits=v.toNat:=by
  have:i64.bits=64:=rfl;omega
 rw [e];exact Int.fdiv_eq_ediv_of_nonneg _ (Int.le_of_lt (Int.pow_pos (by decide)))
theorem wZY {k u v:Int}(hk:isK k=true)(hs:wP k=true)(u0:jH k<=u)(u1:u<=gH k)(v0:jH k<=v)(v1:v<=gH k):-4611686018427387904<=u * v/\u * v<=4611686018427387904:=by
 have h:gH k<=2147483647/\-2147483648<=jH k:=by
  rcases vH hk with rfl | rfl | rfl | rfl | rfl | rfl <;> first | (revert hs; decide +kernel) | decide +kernel
 constructor
 ·exact yGC (a:=-2147483648) (b:=2147483647) (c:=-2147483648) (d:=2147483647) (by omega) (by omega) (by omega) (by omega) (by decide) (by decide) (by decide) (by decide)
 ·exact jJK (a:=-2147483648) (b:=2147483647) (c:=-2147483648) (d:=2147483647) (by omega) (by omega) (by omega) (by omega) (by decide) (by decide) (by decide) (by decide)
theorem wGZ {k n:Int}(hs:wP k=false):rM k n=(n % 2 ^ (iF k).toNat,0):=by simp [rM,hs]
theorem jJG {k n:Int}(h:wP k=false\/yZW n):rM k (i64.wrap n)=rM k n:=by
 rcases h with h | h
 ·rw [wGZ h,wGZ h,jJW n (jQ k)]
 ·rw [dQ h.1 h.2]
theorem u64_in {n:Int}(h0:0<=n)(h1:n < 18446744073709551616):IntKind.u64.wrap n=n:=by
 have:IntKind.u64.wrap n=n % 18446744073709551616:=by simp [IntKind.wrap,IntKind.signed,IntKind.bits]
 rw [this]; omega
theorem xXC {w:Int}(hw:zS w=true):qF .u64 1 w=2 ^ w.toNat:=by
 rcases zJ hw with ⟨rfl,_⟩ | ⟨rfl,_⟩ | ⟨rfl,_⟩ <;> decide +kernel
theorem u64_and {n:Nat}{w:Int}(hw:zS w=true)(hn:n < 18446744073709551616):band .u64 (n:Int) (wD w)=(n:Int) % 2 ^ w.toNat:=by
 have hl:=jJ hw;have hm:(BitVec.ofInt 64 (wD w)).toNat=2 ^ w.toNat - 1:=by
  rw [qQY,mD (by have:=xK hl.2; omega),mF (by have:=xK hl.2; omega)]
 have hnn:(BitVec.ofInt 64 (n:Int)).toNat=n:=by simp; omega
 unfold band;rw [show IntKind.u64.bits=64 from rfl,BitVec.toNat_and,hnn,hm,Nat.and_two_pow_sub_one_eq_mod,u64_in (by omega) (by have:=Nat.mod_le n (2 ^ w.toNat); omega)];simp
def qWW (op k x:Int):Int × Int:=if op=5 then rO 9 k 0 x else if op=6 then ((-x - 1) % 2 ^ (iF k).toNat,0) else (if x=0 then 1 else 0,0)
theorem wDA {w n:Int}(h:zS w=true)(hn:nN n w=true):(V.just w n).is1=true/\(V.just w n).wG 0=n:=by
 have h0:=yXC h hn;have h1:=yXE h hn;have:=jJX hn;refine ⟨?_,h0⟩;simp only [V.is1,h0,h1];simp [this.1]
structure Xp where
 op:Int
 kind:Int
 n:Int
 a:Int
 b:Int
structure Sm where
 op:Int
 to:Int
 kind:Int
 e:Int
 n:Int
 ba:Option Addr
 bc:Nat
 body:List Int
 ea:Option Addr
 ec:Nat
 els:List Int
def kL (st:List Sm)(m:Nat):List Int:=(st[m]?.map (·.body)).getD []
def lN (st:List Sm)(m:Nat):List Int:=(st[m]?.map (·.els)).getD []
def opAt (st:List Sm)(m:Nat):Int:=(st[m]?.map (·.op)).getD 0
def nAt (st:List Sm)(m:Nat):Int:=(st[m]?.map (·.n)).getD 0
def eY (st:List Sm):Nat->List Int->Nat->Option Nat
 | 0,l,m=>if l=[] then some m else none
 | k+1,l,m=>l.foldlM (fun m s=>if s=(m:Int)/\m < st.length then (eY st k (kL st m) (m+1)).bind (eY st k (lN st m)) else none) m
structure Sq where
 last:Int
 seen:Nat
 made:List Int
def qR (st:List Sm)(rec:List Int->Bool->Sq->Option Sq)(lp:Bool)(q:Sq)(s:Int):Option Sq:=
 if q.last < s/\s < st.length then
  if opAt st s.toNat=3/\(lp=true\/nAt st s.toNat∈q.made) then none
  else (rec (kL st s.toNat) (lp || decide (opAt st s.toNat=6)) ⟨s,q.seen+1,if opAt st s.toNat=3 then nAt st s.toNat :: q.made else q.made⟩).bind (rec (lN st s.toNat) lp)
 else none
def kW (st:List Sm):Nat->List Int->Bool->Sq->Option Sq
 | 0,l,_,q=>if l=[] then some q else none
 | k+1,l,lp,q=>l.foldlM (qR st (kW st k) lp) q
def oU (lo:List Bool)(i:Nat):Bool:=(lo[i]?).getD false
def tV (st:List Sm)(i:Nat)(lo:List Bool):List Bool:=(kL st i++lN st i).foldl (fun lo k=>lo.set k.toNat (oU lo i || decide (opAt st i=6))) lo
def lX (st:List Sm)(q:List Bool × List Int)(i:Nat):Option (List Bool × List Int):=
 if opAt st i=3 then
  if oU (tV st i q.1) i=true\/nAt st i∈q.2 then none else some (tV st i q.1,nAt st i :: q.2)
 else some (tV st i q.1,q.2)
def lH (st:List Sm):Nat->Nat->List Bool × List Int->Option (List Bool × List Int)
 | 0,_,q=>some q
 | c+1,a,q=>(lX st q a).bind (lH st c (a+1))
theorem yM (st:List Sm):∀(c d a:Nat) (q:List Bool × List Int),lH st (c+d) a q=(lH st c a q).bind (lH st d (a+c))
 | 0,d,a,q=>by simp [lH]
 | c+1,d,a,q=>by
  rw [Nat.succ_add];simp only [lH];cases h:lX st q a with
  | none=>rfl
  | some q'=>
   simp only [bY];rw [yM st c d (a+1) q',Nat.add_right_comm,Nat.add_assoc]
theorem yGF (i:Nat)(f:Bool):∀(l:List Int) (lo:List Bool),(∀k∈l,¬k.toNat=i)->l.foldl (fun lo k=>lo.set k.toNat (oU lo i || f)) lo=l.foldl (fun lo' k=>lo'.set k.toNat (oU lo i || f)) lo
 | [],lo,_=>rfl
 | k :: l,lo,h=>by
  simp only [List.foldl_cons];have hk:=h k (by simp);have e:∀v,oU (lo.set k.toNat v) i=oU lo i:=fun v=>by
   unfold oU;rw [List.getElem?_set_ne hk]
  rw [yGF i f l _ (fun x hx=>h x (by simp [hx])),e]
theorem yVQ (v:Bool):∀(l:List Int) (lo:List Bool),(l.foldl (fun lo' k=>lo'.set k.toNat v) lo).length=lo.length
 | [],lo=>rfl
 | k :: l,lo=>by rw [List.foldl_cons,yVQ v l,aZ]
theorem qJX (v:Bool){j:Nat}:∀(l:List Int) (lo:List Bool),(∀k∈l,¬k.toNat=j)->(l.foldl (fun lo' k=>lo'.set k.toNat v) lo)[j]? = lo[j]?
 | [],lo,_=>rfl
 | k :: l,lo,h=>by
  rw [List.foldl_cons,qJX v l _ (fun x hx=>h x (by simp [hx])),List.getElem?_set_ne (h k (by simp))]
theorem jJV (v:Bool){j:Nat}:∀(l:List Int) (lo:List Bool),j < lo.length->(∃k∈l,k.toNat=j)->(l.foldl (fun lo' k=>lo'.set k.toNat v) lo)[j]? = some v
 | [],lo,_,h=>by obtain ⟨k,h,_⟩:=h; cases h
 | k :: l,lo,hj,h=>by
  rw [List.foldl_cons];by_cases hl:∃k∈l,k.toNat=j
  ·exact jJV v l _ (by rw [aZ]; exact hj) hl
  ·have hk:k.toNat=j:=by
    obtain ⟨x,hx,he⟩:=h;rcases aQ.1 hx with rfl | hx
    ·exact he
    ·exact absurd ⟨x,hx,he⟩ hl
   rw [qJX v l _ (fun x hx he=>hl ⟨x,hx,he⟩),hk,List.getElem?_set_self hj]
theorem kX (st:List Sm):∀(k:Nat) (l:List Int) (m m':Nat),eY st k l m=some m'->m<=m'/\(∀s∈l,(m:Int)<=s/\s < m')/\(m<=st.length->m'<=st.length)
 | 0,l,m,m',h=>by
  simp only [eY] at h;split at h
  ·rename_i hl; cases h; subst hl; exact ⟨aN _,by simp,id⟩
  ·cases h
 | k+1,l,m,m',h=>by
  simp only [eY] at h
  induction l generalizing m with
  | nil=>simp at h; subst h; exact ⟨aN _,by simp,id⟩
  | cons s l ih=>
   rw [List.foldlM_cons] at h;by_cases hs:s=(m:Int)/\m < st.length
   ·rw [if_pos hs] at h;cases h1:eY st k (kL st m) (m+1) with
    | none=>rw [h1] at h; simp at h
    | some m1=>
     cases h2:eY st k (lN st m) m1 with
     | none=>rw [h1] at h; simp [h2] at h
     | some m2=>
      rw [h1] at h;simp only [bY,h2,Option.bind_eq_bind] at h;obtain ⟨a1,a2,a3⟩:=kX st k _ _ _ h1;obtain ⟨b1,b2,b3⟩:=kX st k _ _ _ h2;obtain ⟨c1,c2,c3⟩:=ih m2 h;refine ⟨by omega,fun x hx=>?_,fun hm=>c3 (b3 (a3 hs.2))⟩;rcases aQ.1 hx with rfl | hx
      ·omega
      ·have:=c2 x hx; omega
   ·rw [if_neg hs] at h; simp at h
theorem qXK (st:List Sm)(hels:∀m,lN st m≠[]->¬opAt st m=6):∀(k:Nat) (l:List Int) (m m':Nat) (lo:List Bool) (made:List Int) (lp:Bool),
  eY st k l m=some m'->m<=st.length->lo.length=st.length->(∀s∈l,lo[s.toNat]? = some lp)->
  match lH st (m' - m) m (lo,made) with
  | none=>kW st k l lp ⟨(m:Int) - 1,m,made⟩=none
  | some q=>kW st k l lp ⟨(m:Int) - 1,m,made⟩=some ⟨(m':Int) - 1,m',q.2⟩/\q.1.length=st.length/\∀j,m'<=j->q.1[j]? = lo[j]?
 | 0,l,m,m',lo,made,lp,h,hm,hlo,hl=>by
  simp only [eY] at h;split at h
  ·rename_i hl0;cases h;rw [fM];simp only [lH,kW,hl0,if_true];exact ⟨by trivial,hlo,fun j _=>by trivial⟩
  ·cases h
 | k+1,l,m,m',lo,made,lp,h,hm,hlo,hl=>by
  simp only [eY] at h
  induction l generalizing m lo made with
  | nil=>
   simp at h; subst h;rw [fM];simp only [lH,kW,List.foldlM_nil];exact ⟨by trivial,hlo,fun j _=>by trivial⟩
  | cons s l ih=>
   rw [List.foldlM_cons] at h;by_cases hs:s=(m:Int)/\m < st.length
   ·rw [if_pos hs] at h;obtain ⟨rfl,hmn⟩:=hs;cases h1:eY st k (kL st m) (m+1) with
    | none=>rw [h1] at h; simp at h
    | some m1=>
     cases h2:eY st k (lN st m) m1 with
     | none=>rw [h1] at h; simp [h2] at h
     | some m2=>
      rw [h1] at h;simp only [bY,h2,Option.bind_eq_bind] at h;obtain ⟨a1,a2,a3⟩:=kX st k _ _ _ h1;obtain ⟨b1,b2,b3⟩:=kX st k _ _ _ h2;have hc:=kX st (k+1) l m2 m' (by simpa only [eY] using h);have hchild:∀x∈kL st m++lN st m,(m:Int)+1<=x/\x < m2:=fun x hx=>by
       rcases aW.1 hx with hx | hx
       ·have:=a2 x hx; omega
       ·have:=b2 x hx; omega
      have hlm:lo[m]? = some lp:=by simpa using hl (m:Int) (by simp)
      have hset:tV st m lo=(kL st m++lN st m).foldl (fun lo' x=>lo'.set x.toNat (lp || decide (opAt st m=6))) lo:=by
       unfold tV;rw [yGF m _ _ _ (fun x hx=>by have:=hchild x hx; omega)];simp only [oU,hlm,Option.getD_some]
      have hlen1:(tV st m lo).length=st.length:=by rw [hset,yVQ]; exact hlo
      have hkeep:∀j,(j<=m\/m2<=j)->(tV st m lo)[j]? = lo[j]?:=fun j hj=>by
       rw [hset];exact qJX _ _ _ (fun x hx he=>by have:=hchild x hx; omega)
      have hm1:=a3 (by omega);have hm2:=b3 hm1;have hget:∀x∈kL st m++lN st m,(tV st m lo)[x.toNat]? = some (lp || decide (opAt st m=6)):=fun x hx=>by
       rw [hset];have:=hchild x hx;exact jJV _ _ _ (by omega) ⟨x,hx,rfl⟩
      have kHX:oU (tV st m lo) m=lp:=by unfold oU; rw [hkeep m (.inl (aN _)),hlm]; rfl
      have e1:m' - m=1+((m1 - (m+1))+((m2 - m1)+(m' - m2))):=by omega
      have zGG:lH st 1 m (lo,made)=lX st (lo,made) m:=by
       simp only [lH];cases lX st (lo,made) m <;> rfl
      rw [e1,yM,zGG];simp only [kW,List.foldlM_cons,qR];have htn:((m:Int)).toNat=m:=by omega
      rw [if_pos (by omega:(m:Int) - 1 < m/\(m:Int) < st.length),htn];unfold lX;rw [kHX];by_cases hno:opAt st m=3/\(lp=true\/nAt st m∈made)
      ·rw [if_pos hno,if_pos hno.1,if_pos hno.2];rfl
      ·rw [if_neg hno];have efs:(if opAt st m=3 then if lp=true\/nAt st m∈(lo,made).2 then none else some (tV st m (lo,made).1,nAt st m :: (lo,made).2) else some (tV st m (lo,made).1,(lo,made).2)) =
         some (tV st m lo,if opAt st m=3 then nAt st m :: made else made):=by
        by_cases h3:opAt st m=3
        ·rw [if_pos h3,if_pos h3,if_neg (fun h=>hno ⟨h3,h⟩)]
        ·rw [if_neg h3,if_neg h3]
       rw [efs];simp only [bY];generalize (if opAt st m=3 then nAt st m :: made else made)=made1;rw [yM];have i1:=qXK st hels k (kL st m) (m+1) m1 (tV st m lo) made1 (lp || decide (opAt st m=6)) h1 (by omega) hlen1 (fun x hx=>hget x (aW.2 (.inl hx)));have ec:(((m+1:Nat):Int)) - 1=m:=by omega
       rw [ec] at i1;cases q1:lH st (m1 - (m+1)) (m+1) (tV st m lo,made1) with
       | none=>
        rw [q1] at i1;simp only [] at i1;rw [i1];rfl
       | some q=>
        rw [q1] at i1;simp only [] at i1;obtain ⟨j1,j2,j3⟩:=i1;rw [j1];simp only [bY];have ea1:m+1+(m1 - (m+1))=m1:=by omega
        rw [ea1,yM];have i2:=qXK st hels k (lN st m) m1 m2 q.1 q.2 lp h2 hm1 j2 (fun x hx=>by
         have hb:=b2 x hx;rw [j3 x.toNat (by omega),hget x (aW.2 (.inr hx))];have:¬opAt st m=6:=hels m (by intro h; rw [h] at hx; cases hx);simp [this])
        cases q2:lH st (m2 - m1) m1 q with
        | none=>
         have q2':lH st (m2 - m1) m1 (q.1,q.2)=none:=q2;rw [q2'] at i2;simp only [] at i2;rw [i2];rfl
        | some p=>
         have q2':lH st (m2 - m1) m1 (q.1,q.2)=some p:=q2;rw [q2'] at i2;simp only [] at i2;obtain ⟨k1,k2,k3⟩:=i2;rw [k1];simp only [bY,Option.bind_eq_bind];have ea2:m1+(m2 - m1)=m2:=by omega
         rw [ea2];have hl2:∀x∈l,p.1[x.toNat]? = some lp:=fun x hx=>by
          have hb:=hc.2.1 x hx;rw [k3 x.toNat (by omega),j3 x.toNat (by omega),hkeep x.toNat (by omega)];exact hl x (by simp [hx])
         have i3:=ih m2 p.1 p.2 h hm2 k2 hl2;simp only [kW] at i3;have ep:(p.1,p.2)=p:=rfl;rw [ep] at i3;cases q3:lH st (m' - m2) m2 p with
         | none=>rw [q3] at i3; exact i3
         | some r=>
          rw [q3] at i3;obtain ⟨l1,l2,l3⟩:=i3;refine ⟨l1,l2,fun j hj=>?_⟩;rw [l3 j hj,k3 j (by omega),j3 j (by omega),hkeep j (by omega)]
   ·rw [if_neg hs] at h; simp at h
theorem tX (st:List Sm):∀(k:Nat) (l:List Int) (lp:Bool) (q q':Sq),kW st k l lp q=some q'->
  q.last<=q'.last/\((q'.seen:Int) - q.seen<=q'.last - q.last)/\q.seen<=q'.seen/\(q.last < st.length->q'.last < st.length)/\
  ∀m:Nat,q.last=(m:Int) - 1->(q'.seen:Int) - q.seen=q'.last - q.last->∃m':Nat,q'.last=(m':Int) - 1/\eY st k l m=some m'
 | 0,l,lp,q,q',h=>by
  simp only [kW] at h;split at h
  ·rename_i hl;cases h;refine ⟨Int.le_refl _,by omega,aN _,id,fun m hm _=>⟨m,hm,?_⟩⟩;simp only [eY,hl,if_true]
  ·cases h
 | k+1,l,lp,q,q',h=>by
  simp only [kW] at h
  induction l generalizing q with
  | nil=>
   simp at h; subst h;exact ⟨Int.le_refl _,by omega,aN _,id,fun m hm _=>⟨m,hm,by simp [eY]⟩⟩
  | cons s l ih=>
   rw [List.foldlM_cons] at h;simp only [qR] at h;by_cases hs:q.last < s/\s < st.length
   ·rw [if_pos hs] at h;by_cases hno:opAt st s.toNat=3/\(lp=true\/nAt st s.toNat∈q.made)
    ·rw [if_pos hno] at h; simp at h
    ·rw [if_neg hno] at h;cases h1:kW st k (kL st s.toNat) (lp || decide (opAt st s.toNat=6)) ⟨s,q.seen+1,if opAt st s.toNat=3 then nAt st s.toNat :: q.made else q.made⟩ with
     | none=>rw [h1] at h; simp at h
     | some q1=>
      cases h2:kW st k (lN st s.toNat) lp q1 with
      | none=>rw [h1] at h; simp [h2] at h
      | some q2=>
       rw [h1] at h;simp only [bY,h2,Option.bind_eq_bind] at h;obtain ⟨a1,a2,a3,a4,a5⟩:=tX st k _ _ _ _ h1;obtain ⟨b1,b2,b3,b4,b5⟩:=tX st k _ _ _ _ h2;obtain ⟨c1,c2,c3,c4,c5⟩:=ih q2 h;simp only [] at a1 a2 a3 a4 a5;have vXX:=a4 hs.2;have vXZ:=b4 vXX;refine ⟨by omega,by omega,by omega,fun _=>c4 vXZ,fun m hm heq=>?_⟩;have es:s=(m:Int):=by omega
       subst es;have htn:((m:Int)).toNat=m:=by omega
       rw [htn] at a5 b5;obtain ⟨m1,e1,s1⟩:=a5 (m+1) (by omega) (by omega);obtain ⟨m2,e2,s2⟩:=b5 m1 e1 (by omega);obtain ⟨m3,e3,s3⟩:=c5 m2 e2 (by omega);refine ⟨m3,e3,?_⟩;simp only [eY] at s3 ⊢;rw [List.foldlM_cons,if_pos ⟨rfl,by omega⟩,s1];simp only [bY,s2,Option.bind_eq_bind];exact s3
   ·rw [if_neg hs] at h; simp at h
def qXJ (st:List Sm)(main:List Int):Bool:=decide (eY st 6 main 0=some st.length) && (lH st st.length 0 (List.replicate st.length false,[])).isSome
def zW (st:List Sm)(main:List Int):Bool:=match kW st 6 main false ⟨-1,0,[]⟩ with
 | some q=>decide (q.seen=st.length)
 | none=>false
theorem jJH (st:List Sm)(main:List Int)(hels:∀m,lN st m≠[]->¬opAt st m=6):zW st main=qXJ st main:=by
 have key:eY st 6 main 0=some st.length->zW st main=(lH st st.length 0 (List.replicate st.length false,[])).isSome:=by
  intro h;have hg:=kX st 6 main 0 _ h;have:=qXK st hels 6 main 0 st.length (List.replicate st.length false) [] false h (Nat.zero_le _) (by simp) (fun s hs=>by
   have:=hg.2.1 s hs;rw [List.getElem?_replicate,if_pos (by omega)])
  have e0:((0:Nat):Int) - 1 = -1:=rfl;rw [e0,Nat.sub_zero] at this;unfold zW;cases hf:lH st st.length 0 (List.replicate st.length false,[]) with
  | none=>rw [hf] at this; simp only [] at this; rw [this]; rfl
  | some q=>rw [hf] at this; simp only [] at this; rw [this.1]; simp
 unfold qXJ;by_cases h:eY st 6 main 0=some st.length
 ·rw [key h]; simp [h]
 ·rw [decide_eq_false h,Bool.false_and];unfold zW;cases hr:kW st 6 main false ⟨-1,0,[]⟩ with
  | none=>rfl
  | some q=>
   obtain ⟨a1,a2,a3,a4,a5⟩:=tX st 6 main false _ _ hr;simp only [] at a1 a2 a3 a4 a5;simp only [decide_eq_false_iff_not];intro hq;have hl:q.last < st.length:=a4 (by omega);obtain ⟨m',e1,e2⟩:=a5 0 (by omega) (by omega);apply h;rw [e2]
   congr 1
   omega
end Go.Ax
