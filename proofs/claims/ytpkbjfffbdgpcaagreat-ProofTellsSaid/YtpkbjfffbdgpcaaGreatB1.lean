/- Parts B1: the machine's runs of small codes, contracts of functions, plain facts. -/
import Derived.SizedLaws
import Derived.ChangeArms
import Derived.DataReads
import Derived.WideReads
import Derived.RowKit
import Derived.Test.YtpkbjfffbdgpcaaGreatS4
open Nat renaming eq_of_testBit_eq->fJ,le_of_ble_eq_true->aA,le_refl->aN,lt_of_le_of_lt->dI,testBit_succ->gB,testBit_two_pow->iT,zero_add->aY
open Int renaming toNat_natCast->aB
open Bool renaming and_eq_true->aC,eq_iff_iff->dG,true_and->bQ
open List renaming append_assoc->fG,append_nil->fA,length_append->aO,length_cons->fF,map_append->bP,mem_append->aW,mem_cons->aQ,mem_map_of_mem->eF,not_mem_nil->aV
open Option renaming bind_eq_some_iff->bU,map_some->cZ
open Go.Proofs.Tryz
open Go.IntKind (i64)
set_option linter.unusedVariables false
set_option maxRecDepth 100000
set_option linter.unusedSimpArgs false
set_option maxHeartbeats 8000000
namespace Go.Ax
open Go
abbrev Bk:=Nat->Option (List Value)
def Sl (B:Bk)(sz:Nat)(v:Value)(l:List (List Value)):Prop:=
 ∃a cap,v=.slice a l.length cap/\l.length<=cap/\cap<=maxLen/\(a=none->cap=0)/\(∀x∈l,x.length=sz)/\
  (l=[]\/∃b o cs,a=some ⟨b,o,none⟩/\B b=some cs/\∀i x,l[i]? = some x->(cs.drop (o+i * sz)).take sz=x)
inductive Sh where
 | int (k:IntKind)
 | bool
 | str
 | slice (sz bytes:Nat) (e:Sh)
 | nil
 | cons (n:Nat) (a r:Sh)
def Rd (B:Bk):Sh->List Value->Prop
 | .int k,cs=>∃n,cs=[.int k n]/\(Lit.int k n).wf=true
 | .bool,cs=>∃b,cs=[.bool b]
 | .str,cs=>∃z:ByteArray,cs=[.string z]/\z.size<=reachBytes
 | .slice sz bytes e,cs=>∃v l,cs=[v]/\Sl B sz v l/\l.length * bytes<=reachBytes/\∀x∈l,Rd B e x
 | .nil,cs=>cs=[]
 | .cons n a r,cs=>(cs.take n).length=n/\Rd B a (cs.take n)/\Rd B r (cs.drop n)
def zQ (sh:TypeId->Option Sh)(P:Program):List Field->(pos len:Nat)->Option Sh
 | [],pos,len=>if pos=len then some .nil else none
 | f :: fs,pos,len=>if f.offset=pos/\pos+P.cellsOf f.type<=len then
   match sh f.type,zQ sh P fs (pos+P.cellsOf f.type) len with
   | some a,some r=>some (.cons (P.cellsOf f.type) a r)
   | _,_=>none
  else none
def yYZ (P:Program):Nat->TypeId->Option Sh
 | 0,_=>none
 | d+1,t=>match P.underlying t with
  | some (.int k)=>some (.int k)
  | some .bool=>some .bool
  | some .string=>some .str
  | some (.slice e)=>if 0 < P.cellsOf e then (yYZ P d e).map (.slice (P.cellsOf e) (P.bytesOf e)) else none
  | some (.struct fs)=>zQ (yYZ P d) P fs.toList 0 (P.cellsOf t)
  | _=>none
def qDF (w:World):Fz:=⟨fun b=>match w.heap[b]? with | some (.cells c _ _)=>some c.toList | _=>none,fun _=>none⟩
def qKB:Hp:=fun _=>none
theorem yYK (w:World):Rel (qDF w) qKB w where
 mp:=fun b l h=>by cases h
 fz:=by
  intro b c h;unfold qDF at h;simp only [] at h;split at h
  ·rename_i c0 e fr hw; cases h; exact ⟨c0,e,fr,hw,List.prefix_refl _⟩
  ·cases h
 mu:=by intro b n h; simp [qKB] at h
 ap:=by intro b h; exact absurd rfl h
theorem qGF {H:Type}{P:Program}{e:TypeId}:∀{l:List (DataW H)} {d:DataW H},d∈l->∀n∈d.weights P e,n∈DataW.weightsAll P e l
 | x :: l,d,h,n,hn=>by
  simp only [DataW.weightsAll,aW];rcases aQ.1 h with rfl | h
  ·exact .inl hn
  ·exact .inr (qGF h n hn)
section
variable {H:Type} {enc:TypeId × Value->H} {P:Program} {w:World} {sp:Nat->Bool} {held:Bool}
theorem wHA {b o n:Nat}{x:List Value}(h:w.cells? 0 ⟨b,o,none⟩ n=some x)(hn:0 < n) :
  ∃c,qDF w b=some c/\(c.drop o).take n=x:=by
 obtain ⟨_,hl,hc⟩:=World.cells?_some h;have h0:=hc 0 hn;rw [List.getElem?_eq_getElem (by omega),Addr.add_lit] at h0;unfold World.cell? at h0;split at h0
 ·rename_i c e fr hw;simp only at hw;refine ⟨c.toList,by simp [qDF,hw],?_⟩;apply List.ext_getElem?;intro i;by_cases hi:i < n
  ·rw [List.getElem?_take_of_lt hi,List.getElem?_drop,<-hc i hi,Addr.add_lit];simp [World.cell?,hw]
  ·rw [List.getElem?_eq_none (by simp; omega),List.getElem?_eq_none (by omega)]
 ·cases h0
theorem yXD {a:Addr}{n:Nat}{x:List Value}(h:w.cells? 0 a n=some x)(hn:0 < n):a.spot=none:=by
 obtain ⟨_,hl,hc⟩:=World.cells?_some h;have h0:=hc 0 hn;rw [List.getElem?_eq_getElem (by omega)] at h0;have:=World.cell?_spot h0
 simpa [Addr.add] using this
theorem wZW {sh:TypeId->Option Sh}{d:Nat}(ih:∀t s (cs:List Value) y,sh t=some s->DataW.trod enc P w 0 sp held d t cs=some y->(∀n∈y.1.weights P t,n<=reachBytes)->Rd (qDF w) s cs) :
  ∀(fs:List Field) (pos:Nat) (s:Sh) (cs:List Value) (ys:List (DataW H × List MemPlace)),zQ sh P fs pos cs.length=some s->ys.length=fs.length->
   (∀(i:Nat) (f:Field),fs[i]? = some f->DataW.trod enc P w 0 sp held d f.type ((cs.drop f.offset).take (P.cellsOf f.type))=ys[i]?)->
   (∀n∈DataW.weightsEach P (fs.map (·.type)) (ys.map (·.1)),n<=reachBytes)->pos<=cs.length->Rd (qDF w) s (cs.drop pos)
 | [],pos,s,cs,ys,hs,_,_,_,hp=>by
  simp only [zQ] at hs;split at hs
  ·cases hs; subst pos; simp [Rd]
  ·cases hs
 | f :: fs,pos,s,cs,ys,hs,hl,hf,hw,hp=>by
  simp only [zQ] at hs;split at hs
  ·rename_i ho;split at hs
   ·rename_i a r ha hr;cases hs;cases ys with
    | nil=>simp at hl
    | cons y ys=>
     have h0:=hf 0 f rfl;rw [ho.1] at h0;refine ⟨by simp; omega,?_,?_⟩
     ·exact ih _ _ _ y ha h0 (fun n hn=>hw n (by simp [DataW.weightsEach,hn]))
     ·rw [List.drop_drop];exact wZW ih fs _ r cs ys hr (by simpa using hl) (fun i g hg=>by have:=hf (i+1) g (by simpa using hg); simpa using this) (fun n hn=>hw n (by simp [DataW.weightsEach,hn])) ho.2
   ·cases hs
  ·cases hs
theorem qXX:∀(d0 d:Nat) (t:TypeId) (s:Sh) (cs:List Value) (y:DataW H × List MemPlace),yYZ P d0 t=some s->DataW.trod enc P w 0 sp held d t cs=some y->
  (∀n∈y.1.weights P t,n<=reachBytes)->Rd (qDF w) s cs
 | 0,_,_,_,_,_,hs,_,_=>by cases hs
 | d0+1,d,t,s,cs,y,hs,ht,hw=>by
  simp only [yYZ] at hs;split at hs
  ·rename_i k hu; cases hs;obtain ⟨n,h1,_,h2⟩:=DataW.trod_int hu ht;exact ⟨n,h1,h2⟩
  ·rename_i hu; cases hs;obtain ⟨b,h1,_⟩:=DataW.trod_bool hu ht;exact ⟨b,h1⟩
  ·rename_i hu; cases hs;obtain ⟨z,h1,h2,_⟩:=DataW.trod_string hu ht;refine ⟨z,h1,?_⟩;have:=hw z.data.toList.length (by rw [h2]; simp only [DataW.weights,aQ,true_or]);rw [Array.length_toList] at this;exact this
  ·rename_i e hu;split at hs
   ·rename_i hpos;cases he:yYZ P d0 e with
    | none=>rw [he] at hs; simp at hs
    | some s'=>
     rw [he] at hs;simp only [cZ,Option.some.injEq] at hs;subst hs;rcases DataW.trod_slice hu ht with ⟨rfl,_⟩ | ⟨a,len,cap,elems,rest,n,_,rfl,rfl,_,hl,hm,hel,hx,_,_⟩
     ·exact ⟨_,[],rfl,⟨none,0,rfl,aN _,Nat.zero_le _,fun _=>rfl,by simp,.inl rfl⟩,by simp,by simp⟩
     ·have key:∀i,i < len->∃x y,w.cells? 0 (a.add (i * P.cellsOf e)) (P.cellsOf e)=some x/\elems[i]? = some y/\DataW.trod enc P w 0 sp held n e x=some y:=by
       intro i hi;have h1:=hx i hi;rw [List.getElem?_eq_getElem (by omega)] at h1;obtain ⟨x,h2,h3⟩:=bU.1 h1;exact ⟨x,elems[i],h2,List.getElem?_eq_getElem (by omega),h3⟩
      let l:List (List Value):=(List.range len).map fun i=>(w.cells? 0 (a.add (i * P.cellsOf e)) (P.cellsOf e)).getD []
      have hll:l.length=len:=by simp [l]
      have hget:∀i x,l[i]? = some x->i < len/\w.cells? 0 (a.add (i * P.cellsOf e)) (P.cellsOf e)=some x:=by
       intro i x h;have hi:i < len:=by
        have:=(List.getElem?_eq_some_iff.1 h).1;omega
       obtain ⟨x',_,h2,_⟩:=key i hi;simp only [l,List.getElem?_map,List.getElem?_range hi,cZ,h2,Option.getD_some,Option.some.injEq] at h;subst h;exact ⟨hi,h2⟩
      refine ⟨_,l,rfl,⟨some a,cap,by rw [hll],by rw [hll]; exact hl,hm,by simp,?_,?_⟩,?_,?_⟩
      ·intro x hx';obtain ⟨i,hi⟩:=List.getElem?_of_mem hx';exact (World.cells?_some (hget i x hi).2).2.1
      ·by_cases h0:len=0
       ·exact .inl (List.eq_nil_of_length_eq_zero (by omega))
       ·refine .inr ?_;obtain ⟨x0,_,h2,_⟩:=key 0 (by omega);obtain ⟨b,o,spt⟩:=a;have hsp:spt=none:=by have:=yXD h2 hpos; simpa [Addr.add] using this
        subst hsp;rw [Addr.add_lit] at h2;obtain ⟨c,hc,_⟩:=wHA h2 hpos;refine ⟨b,o,c,rfl,hc,fun i x hi=>?_⟩;obtain ⟨_,h3⟩:=hget i x hi;rw [Addr.add_lit] at h3;obtain ⟨c',hc',h4⟩:=wHA h3 hpos;rw [hc] at hc';cases hc';exact h4
      ·have:=hw ((elems.length+rest.length) * P.bytesOf e) (by simp [DataW.weights,hu]);refine Nat.le_trans (Nat.mul_le_mul_right _ ?_) this;omega
      ·intro x hx';obtain ⟨i,hi⟩:=List.getElem?_of_mem hx';obtain ⟨h3,h4⟩:=hget i x hi;obtain ⟨x',y',h5,h6,h7⟩:=key i h3;rw [h4] at h5;cases h5;refine qXX d0 n e s' x y' he h7 fun q hq=>hw q ?_
       have hy:y'.1∈elems.map (·.1):=eF (List.mem_of_getElem? h6);simp [DataW.weights,hu];exact .inr (.inl (by simpa using qGF hy q hq))
   ·cases hs
  ·rename_i fs hu;obtain ⟨xs,n,rfl,rfl,hlen,hxl,hf⟩:=DataW.trod_struct hu ht;rw [<-hlen] at hs;have:=wZW (fun t s cs y h1 h2 h3=>qXX d0 n t s cs y h1 h2 h3) fs.toList 0 s cs xs hs (by simpa using hxl) (fun i f h=>hf i f (by simpa using h)) (fun q hq=>hw q (by simpa [DataW.weights,hu] using hq)) (Nat.zero_le _)
   simpa using this
  ·cases hs
end
end Go.Ax
namespace Go.Ax
open Go
@[go_sem] theorem zZA {P:Program} {s:Bool} {d:Option Nat} {l:List SO} {K:Env->Fz->Hp->Prop} {σ:Env} {F:Fz} {M:Hp} {w:Bool} {k:SK} :
  gK P s d l K σ F M w k (some undef)=iD P s l K (put σ d undef) F M:=by simp [gK,undef]
structure V where
 w:Int
 no:Bool
 low:Int
 high:Int
 free:Int
 bits:Int
instance V.dec:DecidableEq V:=fun a b=>decidable_of_iff (a.w=b.w/\a.no=b.no/\a.low=b.low/\a.high=b.high/\a.free=b.free/\a.bits=b.bits) (by
 cases a; cases b; simp)
def V.cs (v:V):List Value:=[.int .i64 v.w,.bool v.no,.int .i64 v.low,.int .i64 v.high,.int .i64 v.free,.int .i64 v.bits]
def V.val (v:V):Value:=.agg v.cs.toArray
def V.zero:V:=⟨0,false,0,0,0,0⟩
theorem xXQ (a b:V):decide (a=b)=(decide (a.w=b.w) && ((a.no == b.no) && (decide (a.low=b.low) && (decide (a.high=b.high) && (decide (a.free=b.free) && (decide (a.bits=b.bits) && true)))))):=by
 apply dG.2;cases a; cases b;simp
@[go_sem] theorem V.fold {a c d e f:Int} {b:Bool}:Value.agg [.int .i64 a,.bool b,.int .i64 c,.int .i64 d,.int .i64 e,.int .i64 f].toArray=V.val ⟨a,b,c,d,e,f⟩:=rfl
@[go_sem] theorem vVK {k:IntKind} {n:Int}:(Value.int k n).cells = #[.int k n]:=rfl
@[go_sem] theorem vQF {b:Bool}:(Value.bool b).cells = #[.bool b]:=rfl
@[go_sem] theorem xGF {a:Option Addr} {n c:Nat}:(Value.slice a n c).cells = #[.slice a n c]:=rfl
@[go_sem] theorem vVJ {a:Option Addr}:(Value.pointer a).cells = #[.pointer a]:=rfl
@[go_sem] theorem vVG {z:ByteArray}:(Value.string z).cells = #[.string z]:=rfl
@[go_sem] theorem vVV {cs:Array Value}:(Value.agg cs).cells=cs:=rfl
@[go_sem] theorem zZB {l:List Value}:l.toArray.toList=l:=rfl
@[go_sem] theorem V.jM {v:V}:Value.cells.match_1 (fun _=>Array Value) v.val (fun cs=>cs) (fun u=>#[u])=v.cs.toArray:=rfl
@[go_sem] theorem V.gI {v:V}:v.val.cells=v.cs.toArray:=rfl
@[go_sem] theorem V.iY {v:V}:v.cs.toArray.size=6:=rfl
@[go_sem] theorem V.lU {v:V}:v.cs.length=6:=rfl
@[go_sem] theorem vVH:wQ []=True:=by simp [wQ]
@[go_sem] theorem vVD {k:IntKind} {n:Int} {l:List Value}:wQ (.int k n :: l)=wQ l:=by simp [wQ,Value.oneCell']
@[go_sem] theorem vWQ {b:Bool} {l:List Value}:wQ (.bool b :: l)=wQ l:=by simp [wQ,Value.oneCell']
@[go_sem] theorem xVQ {a:Option Addr} {n c:Nat} {l:List Value}:wQ (.slice a n c :: l)=wQ l:=by simp [wQ,Value.oneCell']
@[go_sem] theorem vVY {a:Option Addr} {l:List Value}:wQ (.pointer a :: l)=wQ l:=by simp [wQ,Value.oneCell']
@[go_sem] theorem vVA {z:ByteArray} {l:List Value}:wQ (.string z :: l)=wQ l:=by simp [wQ,Value.oneCell']
@[go_sem] theorem V.yD {v:V}:wQ v.cs=True:=by
 apply eq_true;intro u hu;simp only [V.cs,aQ,aV,or_false] at hu;rcases hu with rfl | rfl | rfl | rfl | rfl | rfl <;> rfl
@[go_sem] theorem V.zZC {v:V}:v.cs.take 6=v.cs:=rfl
@[go_sem] theorem V.oW {v:V}:Value.agg v.cs.toArray=v.val:=rfl
@[go_sem] theorem V.take0 {v:V}:v.cs.take 0=[]:=rfl
@[go_sem] theorem V.drop6 {v:V}:v.cs.drop 6=[]:=rfl
@[go_sem] theorem zZE {a b c d e f:Value}:[a,b,c,d,e,f].drop 6=[]:=rfl
@[go_sem] theorem zZF {a b:Value}:[a,b].drop 2=[]:=rfl
@[go_sem] theorem zKQ {p:Nat->Prop}:(∀t∈([]:List Nat),p t)=True:=by simp
@[go_sem] theorem V.xG {v:V}:v.cs[0]? = some (.int .i64 v.w):=rfl
@[go_sem] theorem V.xH {v:V}:v.cs[1]? = some (.bool v.no):=rfl
@[go_sem] theorem V.qWQ {v:V}:v.cs[2]? = some (.int .i64 v.low):=rfl
@[go_sem] theorem V.qZV {v:V}:v.cs[3]? = some (.int .i64 v.high):=rfl
@[go_sem] theorem V.get4 {v:V}:v.cs[4]? = some (.int .i64 v.free):=rfl
@[go_sem] theorem V.yXY {v:V}:v.cs[5]? = some (.int .i64 v.bits):=rfl
@[go_sem] theorem V.ld {v:V}:rd true 6 v.cs 0=some v.val:=rfl
@[go_sem] theorem V.ld0 {v:V}:rd false 1 v.cs 0=some (.int .i64 v.w):=rfl
@[go_sem] theorem V.ld1 {v:V}:rd false 1 v.cs 1=some (.bool v.no):=rfl
@[go_sem] theorem V.ld2 {v:V}:rd false 1 v.cs 2=some (.int .i64 v.low):=rfl
@[go_sem] theorem V.ld3 {v:V}:rd false 1 v.cs 3=some (.int .i64 v.high):=rfl
@[go_sem] theorem V.ld4 {v:V}:rd false 1 v.cs 4=some (.int .i64 v.free):=rfl
@[go_sem] theorem V.ld5 {v:V}:rd false 1 v.cs 5=some (.int .i64 v.bits):=rfl
attribute [go_sem] List.getElem?_toArray List.getElem?_cons_zero List.getElem?_cons_succ List.size_toArray List.drop_succ_cons List.drop_zero List.take_succ_cons List.cons_append List.nil_append fA List.take_zero and_self aN fF List.length_nil
@[go_sem] theorem zKW (a b:V):eqV (.st [(false,0,1,.i),(false,1,1,.b),(false,2,1,.i),(false,3,1,.i),(false,4,1,.i),(false,5,1,.i)]) a.val b.val=some (decide (a=b)):=by
 rw [xXQ];simp [eqV,wHZ,V.val,V.cs,rd]
theorem yZ {M:Hp}{r b:Nat}{e:nH}(h:(M.upd b e) r=none):¬r=b/\¬b=r/\M r=none:=by
 rw [nX] at h;exact ⟨h.1,fun e=>h.1 e.symm,h.2⟩
theorem dQ {n:Int}(h1:-9223372036854775808<=n)(h2:n<=9223372036854775807):i64.wrap n=n:=by rw [IntKind.wrap_i64]; omega
attribute [go_sem] dQ aY Bool.not_false Bool.not_true decide_true decide_false and_true true_and or_true true_or or_false false_or and_false false_and Int.cast_ofNat_Int Bool.false_and bQ Bool.and_true Bool.and_false Bool.false_or Bool.true_or Bool.or_false Bool.or_true Bool.xor_self Bool.false_xor Bool.true_xor Bool.xor_true Bool.xor_false
theorem qXZ {j:Int}(h1:0<=j)(h2:j<=62):qF .i64 1 j=2 ^ j.toNat:=by
 unfold qF;have e:min j.toNat i64.bits=j.toNat:=by simp [IntKind.bits]; omega
 rw [e,Int.one_mul];have h3:(2:Nat) ^ j.toNat<=2 ^ 62:=Nat.pow_le_pow_right (by decide) (by omega);have h4:((2 ^ j.toNat:Nat):Int)<=((2 ^ 62:Nat):Int):=Int.ofNat_le.2 h3;have h5:((2 ^ j.toNat:Nat):Int)=(2:Int) ^ j.toNat:=by simp
 rw [h5] at h4;have h6:(0:Int)<=2 ^ j.toNat:=by rw [<-h5]; exact Int.natCast_nonneg _
 exact dQ (by omega) (Int.le_trans h4 (by decide))
def wD (w:Int):Int:=2 ^ w.toNat - 1
theorem qZH {w:Int}(h1:w<=62):(2:Int) ^ w.toNat<=4611686018427387904/\1<=(2:Int) ^ w.toNat:=by
 have h3:(2:Nat) ^ w.toNat<=2 ^ 62:=Nat.pow_le_pow_right (by decide) (by omega);have h4:((2 ^ w.toNat:Nat):Int)<=((2 ^ 62:Nat):Int):=Int.ofNat_le.2 h3;have h5:((2 ^ w.toNat:Nat):Int)=(2:Int) ^ w.toNat:=by simp
 have h6:1<=2 ^ w.toNat:=Nat.one_le_two_pow;have h7:((1:Nat):Int)<=((2 ^ w.toNat:Nat):Int):=Int.ofNat_le.2 h6;rw [h5] at h4 h7;exact ⟨Int.le_trans h4 (by decide),h7⟩
theorem vF {w:Int}(h0:0<=w)(h1:w<=62):i64.wrap (2 ^ w.toNat - 1)=wD w:=by
 have:=qZH h1;exact dQ (by omega) (by omega)
def zS (w:Int):Bool:=decide (w=8) || decide (w=16) || decide (w=32)
def nN (n w:Int):Bool:=decide (0<=n) && decide (n<=wD w)
def V.ok (v:V):Bool:=zS v.w && (if v.no then decide (v=⟨v.w,true,0,0,0,0⟩) else nN v.low v.w && nN v.high v.w && nN v.free v.w && nN v.bits v.w && decide (band .i64 v.bits v.free=0))
def V.within (v:V)(n:Int):Bool:=if v.low<=v.high then decide (v.low<=n) && decide (n<=v.high) else decide (v.low<=n) || decide (n<=v.high)
def V.has (v:V)(n:Int):Bool:=!v.no && decide (uI .i64 n v.free=v.bits) && v.within n
def V.nothing (w:Int):V:=⟨w,true,0,0,0,0⟩
def V.whole (w:Int):V:=⟨w,false,0,wD w,wD w,0⟩
def V.just (w n:Int):V:=⟨w,false,n,n,0,n⟩
def V.pY (v:V)(n:Int)(j:Nat):Option Int:=
 if sW .i64 (qVE .i64 (uI .i64 n v.free) v.bits) (j+1)=0/\band .i64 (sW .i64 n j) 1=0/\(band .i64 (sW .i64 v.free j) 1=1\/band .i64 (sW .i64 v.bits j) 1=1) then
  some (bor .i64 (bor .i64 (qF .i64 (sW .i64 n (j+1)) (j+1)) (2 ^ j)) (band .i64 v.bits (2 ^ j - 1)))
 else none
def V.uV (v:V)(n:Int):Nat->Nat->Int
 | 0,_=>-1
 | f+1,j=>match v.pY n j with | some x=>x | none=>V.uV v n f (j+1)
def V.jG (v:V)(n:Int):Int:=if uI .i64 n v.free=v.bits then n else v.uV n v.w.toNat 0
def V.xI (v:V)(n:Int)(j:Nat):Option Int:=
 if band .i64 n (2 ^ j)=0/\uI .i64 (uI .i64 (bor .i64 (uI .i64 n (2 ^ j - 1)) (2 ^ j)) v.free) (2 ^ j - 1)=uI .i64 v.bits (2 ^ j - 1) then
  some (bor .i64 (bor .i64 (uI .i64 n (2 ^ j - 1)) (2 ^ j)) (band .i64 v.bits (2 ^ j - 1)))
 else none
def V.qKC (v:V)(n:Int):Nat->Nat->Int
 | 0,_=>-1
 | f+1,j=>match v.xI n j with | some x=>x | none=>V.qKC v n f (j+1)
def V.wZZ (v:V)(n:Int):Int:=if uI .i64 n v.free=v.bits then n else v.qKC n v.w.toNat 0
def mx (a b:Int):Int:=if b > a then b else a
def V.p0 (v:V):Int × Int:=if v.low<=v.high then (v.low,v.high) else (0,v.high)
def V.p1 (v:V):Int × Int:=if v.low<=v.high then (0,-1) else (v.low,wD v.w)
def V.fU (v:V)(n:Int)(p:Int × Int):Option Int:=
 if p.2 < mx n p.1 then none else if 0<=v.jG (mx n p.1)/\v.jG (mx n p.1)<=p.2 then some (v.jG (mx n p.1)) else none
def V.wG (v:V)(n:Int):Int:=if v.no=true\/2 ^ v.w.toNat<=n then -1 else (v.fU n v.p0).getD ((v.fU n v.p1).getD (-1))
theorem jKQ {a b:Int}:wJQ a [.int .i64 b]=some (mx a b):=rfl
attribute [go_sem] jKQ
theorem xJ {n:Nat}(h:n < 2 ^ 63):i64.wrap (n:Int)=n:=dQ (by omega) (by omega)
theorem mD {n:Nat}(h:n < 2 ^ 63):(BitVec.ofInt 64 (n:Int))=BitVec.ofNat 64 n:=by
 simp
theorem mF {n:Nat}(h:n < 2 ^ 63):(BitVec.ofNat 64 n).toNat=n:=by
 rw [BitVec.toNat_ofNat,Nat.mod_eq_of_lt (by omega)]
theorem qM {a b:Nat}(ha:a < 2 ^ 63)(hb:b < 2 ^ 63):band .i64 a b=((a &&& b:Nat):Int):=by
 unfold band;rw [show i64.bits=64 from rfl,mD ha,mD hb,BitVec.toNat_and,mF ha,mF hb];exact xJ (dI Nat.and_le_left ha)
theorem qQD {a b:Nat}(ha:a < 2 ^ 63)(hb:b < 2 ^ 63):bor .i64 a b=((a ||| b:Nat):Int):=by
 unfold bor;rw [show i64.bits=64 from rfl,mD ha,mD hb,BitVec.toNat_or,mF ha,mF hb];exact xJ (Nat.or_lt_two_pow ha hb)
theorem wHB {a b:Nat}(ha:a < 2 ^ 63)(hb:b < 2 ^ 63):qVE .i64 a b=((a ^^^ b:Nat):Int):=by
 unfold qVE;rw [show i64.bits=64 from rfl,mD ha,mD hb,BitVec.toNat_xor,mF ha,mF hb];exact xJ (Nat.xor_lt_two_pow ha hb)
def clr (a b:Nat):Nat:=a ^^^ (a &&& b)
theorem qN (a b i:Nat):(clr a b).testBit i=(a.testBit i && !b.testBit i):=by
 simp only [clr,Nat.testBit_xor,Nat.testBit_and];cases a.testBit i <;> cases b.testBit i <;> rfl
theorem yXA (a b:Nat):clr a b<=a:=by
 have h:a &&& clr a b=clr a b:=by
  apply fJ;intro i;rw [Nat.testBit_and,qN];cases a.testBit i <;> cases b.testBit i <;> rfl
 rw [<-h];exact Nat.and_le_left
theorem qO {a b:Nat}(ha:a < 2 ^ 63)(hb:b < 2 ^ 63):uI .i64 a b=((clr a b:Nat):Int):=by
 unfold uI;have e:(BitVec.ofNat 64 a &&& ~~~ BitVec.ofNat 64 b).toNat=clr a b:=by
  apply fJ;intro i;rw [BitVec.toNat_and,Nat.testBit_and,mF ha,qN,<-BitVec.getLsbD,BitVec.getLsbD_not];by_cases hi:i < 64
  ·simp [hi,BitVec.getElem_eq_testBit_toNat,Nat.mod_eq_of_lt (show b < 18446744073709551616 by omega)]
  ·have:a.testBit i=false:=Nat.testBit_lt_two_pow (Nat.lt_of_lt_of_le ha (Nat.pow_le_pow_right (by decide) (by omega)));simp [this]
 rw [show i64.bits=64 from rfl,mD ha,mD hb,e];refine xJ ?_;exact Nat.xor_lt_two_pow ha (dI Nat.and_le_left ha)
theorem wHC (a:Nat):clr a 0=a:=by simp [clr]
theorem yE {n w:Int}(h0:0<=w)(h:nN n w=true):∃k:Nat,n=k/\k < 2 ^ w.toNat:=by
 have h5:((2 ^ w.toNat:Nat):Int)=(2:Int) ^ w.toNat:=by simp
 simp only [nN,wD,<-h5,aC,decide_eq_true_eq] at h;generalize 2 ^ w.toNat=q at *;exact ⟨n.toNat,by omega,by omega⟩
theorem qQY {w:Int}:wD w=((2 ^ w.toNat - 1:Nat):Int):=by
 have h6:1<=2 ^ w.toNat:=Nat.one_le_two_pow;have h5:((2 ^ w.toNat:Nat):Int)=(2:Int) ^ w.toNat:=by simp
 unfold wD;rw [<-h5];generalize 2 ^ w.toNat=q at *;omega
theorem xK {w:Int}(h:w<=62):2 ^ w.toNat < 2 ^ 63:=Nat.pow_lt_pow_right (by decide) (by omega)
theorem qA {w:Int}(h1:w<=62):0<=wD w/\wD w<=4611686018427387903:=by
 have:=qZH h1;unfold wD;omega
theorem zT {w:Int}(h0:0<=w)(h1:w<=62):nN 0 w=true:=by
 have:=qA h1;simp [nN,this]
theorem jKW {w:Int}(h0:0<=w)(h1:w<=62):nN (wD w) w=true:=by
 have:=qA h1;simp [nN,this]
theorem jJ {w:Int}(h:zS w=true):0<=w/\w<=62:=by
 simp [zS] at h;omega
theorem gY {w:Int}(h:zS w=true):(V.nothing w).ok=true:=by
 simp [V.ok,V.nothing,h]
theorem vQ {w n:Int}(h:zS w=true)(hn:nN n w=true):(V.just w n).ok=true:=by
 have hl:=jJ h;obtain ⟨k,rfl,hk⟩:=yE hl.1 hn;have hb:band .i64 (k:Int) 0=0:=by
  have:=xK hl.2;exact (qM (a:=k) (b:=0) (by omega) (by decide)).trans (by simp)
 simp [V.ok,V.just,h,zT hl.1 hl.2,hn,hb]
theorem yXB {w n:Int}(h:zS w=true)(hn:nN n w=true):(V.just w n).jG n=n:=by
 have hl:=jJ h;obtain ⟨k,rfl,hk⟩:=yE hl.1 hn;have hp:=xK hl.2;have hb:uI .i64 (k:Int) 0=k:=by
  have:=qO (a:=k) (b:=0) (by omega) (by decide);rw [wHC] at this;exact this
 simp [V.jG,V.just,hb]
theorem yXC {w n:Int}(h:zS w=true)(hn:nN n w=true):(V.just w n).wG 0=n:=by
 have hl:=jJ h;have hm:=yXB h hn;have:=qZH hl.2;simp [nN] at hn;have e:mx 0 n=n:=by unfold mx; split <;> omega
 have hw:(V.just w n).w=w:=rfl;have hp0:(V.just w n).p0=(n,n):=by simp [V.p0,V.just]
 have ht:(V.just w n).fU 0 (n,n)=some n:=by
  simp [V.fU,e,hm,hn]
 rw [V.wG,if_neg (by simp [V.just]; omega),hp0,ht];rfl
theorem yXE {w n:Int}(h:zS w=true)(hn:nN n w=true):(V.just w n).wG (n+1) = -1:=by
 have hl:=jJ h;simp [nN] at hn;have e:mx (n+1) n=n+1:=by unfold mx; split <;> omega
 have e0:mx (n+1) 0=n+1:=by unfold mx; split <;> omega
 unfold V.wG;split
 ·rfl
 ·have hp0:(V.just w n).p0=(n,n):=by simp [V.p0,V.just]
  have hp1:(V.just w n).p1=(0,-1):=by simp [V.p1,V.just]
  rw [hp0,hp1];have t0:(V.just w n).fU (n+1) (n,n)=none:=by simp [V.fU,e]; omega
  have t1:(V.just w n).fU (n+1) (0,-1)=none:=by simp [V.fU,e0]; omega
  rw [t0,t1]; rfl
theorem yGJ {v:V}{n x:Int}{p:Int × Int}(h:v.fU n p=some x):0<=x/\x<=p.2:=by
 unfold V.fU at h;split at h
 ·cases h
 ·split at h
  ·rename_i h2; cases h; exact h2
  ·cases h
theorem qYW {v:V}(hv:v.ok=true)(n:Int):-1<=v.wG n/\v.wG n<=wD v.w:=by
 have hw:zS v.w=true:=by simp [V.ok] at hv; exact hv.1
 have hl:=jJ hw;have hm:=jKW hl.1 hl.2;simp [nN] at hm;unfold V.wG;split
 ·omega
 ·rename_i hc;have hno:v.no=false:=by cases h:v.no <;> simp_all
  simp [V.ok,hw,hno,nN] at hv;cases h0:v.fU n v.p0 with
  | some x=>
   have:=yGJ h0;have e:v.p0.2=v.high:=by unfold V.p0; split <;> rfl
   simp; omega
  | none=>
   cases h1:v.fU n v.p1 with
   | some x=>
    have:=yGJ h1;have e:v.p1.2 = -1\/v.p1.2=wD v.w:=by unfold V.p1; split <;> simp
    simp; omega
   | none=>simp; omega
end Go.Ax
namespace Go.Proofs.Tryz.K
open Go Go.Ax Go.Proofs.Tryz.S
set_option maxRecDepth 100000
set_option linter.unusedSimpArgs false
set_option linter.unusedVariables false
abbrev Same (F:Fz) (M:Hp) (r:Value):Value->Fz->Hp->Prop:=fun v F' M'=>v=r/\F'=F/\M'=M
theorem hm:prog.follows .mixedOrders=true:=by kernel_rfl
variable (F:Fz) (M:Hp)
theorem kJB (w:Int):aI prog 195 [.int .i64 w] F M (Same F M (.bool (zS w))):=by
 refine qZ hm func195 e195 (aA rfl) ?_;simp only [zXV,go_sem]
 repeat' (refine qZJ (fun h=>?_) (fun h=>?_) <;> simp only [go_sem,h])
 all_goals exact qW ⟨by simp_all [zS],rfl,rfl⟩
theorem kJC (w:Int):aI prog 156 [.int .i64 w] F M (Same F M (.bool (zS w))):=by
 refine qZ hm func156 kZB (aA rfl) ?_;simp only [c156,go_sem]
 repeat' (refine qZJ (fun h=>?_) (fun h=>?_) <;> simp only [go_sem,h])
 all_goals exact qW ⟨by simp_all [zS],rfl,rfl⟩
theorem k49 (n m:Int):aI prog 49 [.int .i64 n,.int .i64 m] F M (Same F M (.bool (decide (0<=n) && decide (n<=m)))):=by
 refine qZ hm func49 e49 (aA rfl) ?_;simp only [c49,go_sem]
 repeat' (refine qZJ (fun h=>?_) (fun h=>?_) <;> simp only [go_sem,h])
 all_goals exact qW ⟨by simp_all,rfl,rfl⟩
theorem k47 (n l m:Int):aI prog 47 [.int .i64 n,.int .i64 l,.int .i64 m] F M (Same F M (.bool (decide (l<=n) && decide (n<=m)))):=by
 refine qZ hm func47 e47 (aA rfl) ?_;simp only [c47,go_sem]
 repeat' (refine qZJ (fun h=>?_) (fun h=>?_) <;> simp only [go_sem,h])
 all_goals exact qW ⟨by simp_all,rfl,rfl⟩
theorem jKX (w:Int)(h0:0<=w)(h1:w<=62):aI prog 169 [.int .i64 w] F M (Same F M (.int .i64 (wD w))):=by
 refine qZ hm func169 e169 (aA rfl) ?_;have:¬w < 0:=by omega
 simp only [zWH,go_sem,this,qXZ h0 h1,vF h0 h1];exact qW ⟨rfl,rfl,rfl⟩
theorem yYG (n w:Int)(h0:0<=w)(h1:w<=62):aI prog 135 [.int .i64 n,.int .i64 w] F M (Same F M (.bool (nN n w))):=by
 refine qZ hm func135 kXC (aA rfl) ?_;simp only [zQH,go_sem];refine qZJ (fun h=>?_) (fun h=>?_) <;> simp only [go_sem,h]
 ·refine qQ (jKX F M w h0 h1) ?_;simp only [go_sem];exact qW ⟨by simp_all [nN],rfl,rfl⟩
 ·exact qW ⟨by simp_all [nN]; omega,rfl,rfl⟩
theorem k51 (n w:Int)(h0:0<=w)(h1:w<=62):aI prog 51 [.int .i64 n,.int .i64 w] F M (Same F M (.bool (nN n w))):=by
 refine qZ hm func51 e51 (aA rfl) ?_;have:¬w < 0:=by omega
 simp only [c51,go_sem,this,qXZ h0 h1,vF h0 h1];refine qQ (k49 F M n (wD w)) ?_;simp only [go_sem];exact qW ⟨rfl,rfl,rfl⟩
theorem kJE (w:Int):aI prog 196 [.int .i64 w] F M (Same F M (V.nothing w).val):=by
 refine qZ hm func196 kJK (aA rfl) ?_;simp only [c196,go_sem];intro r hF hM;simp only [go_sem];exact qH hM (qW ⟨rfl,rfl,rfl⟩)
end Go.Proofs.Tryz.K
namespace Go.Proofs.Tryz.K
open Go Go.Ax Go.Proofs.Tryz.S
variable (F:Fz) (M:Hp)
theorem xXW (v:V):aI prog 118 [v.val] F M (Same F M (.bool v.ok)):=by
 refine qZ hm func118 e118 (aA rfl) ?_;simp only [vYF,go_sem];intro r hF hM;simp only [go_sem];refine qQ (kJC F _ v.w) ?_;cases hw:zS v.w
 ·simp only [go_sem];exact qH hM (qW ⟨by simp [V.ok,hw],rfl,rfl⟩)
 have hl:=jJ hw;cases hno:v.no
 ·simp only [go_sem,hno];refine qQ (k51 F _ v.low v.w hl.1 hl.2) ?_;cases h1:nN v.low v.w
  ·simp only [go_sem];exact qH hM (qW ⟨by simp [V.ok,hw,hno,h1],rfl,rfl⟩)
  simp only [go_sem];refine qQ (k51 F _ v.high v.w hl.1 hl.2) ?_;cases h2:nN v.high v.w
  ·simp only [go_sem];exact qH hM (qW ⟨by simp [V.ok,hw,hno,h1,h2],rfl,rfl⟩)
  simp only [go_sem];refine qQ (k51 F _ v.free v.w hl.1 hl.2) ?_;cases h3:nN v.free v.w
  ·simp only [go_sem];exact qH hM (qW ⟨by simp [V.ok,hw,hno,h1,h2,h3],rfl,rfl⟩)
  simp only [go_sem];refine qQ (k51 F _ v.bits v.w hl.1 hl.2) ?_;cases h4:nN v.bits v.w
  ·simp only [go_sem];exact qH hM (qW ⟨by simp [V.ok,hw,hno,h1,h2,h3,h4],rfl,rfl⟩)
  simp only [go_sem];exact qH hM (qW ⟨by simp [V.ok,hw,hno,h1,h2,h3,h4],rfl,rfl⟩)
 ·simp only [go_sem,hno];exact qH hM (qW ⟨by simp [V.ok,hw,hno],rfl,rfl⟩)
theorem vWX (v:V)(n:Int):aI prog 122 [v.val,.int .i64 n] F M (Same F M (.bool (v.has n))):=by
 refine qZ hm func122 kXJ (aA rfl) ?_;simp only [zQW,go_sem];intro r hF hM;simp only [go_sem];cases hno:v.no
 ·simp only [go_sem];by_cases hb:uI .i64 n v.free=v.bits
  ·simp only [go_sem,hb,decide_true];by_cases hlh:v.low<=v.high
   ·simp only [go_sem,hlh,decide_true];refine qQ (k47 F _ n v.low v.high) ?_;simp only [go_sem];exact qH hM (qW ⟨by simp [V.has,hno,hb,V.within,hlh],rfl,rfl⟩)
   ·simp only [go_sem,hlh,decide_false];refine qZJ (fun h=>?_) (fun h=>?_) <;> simp only [go_sem,h]
    all_goals exact qH hM (qW ⟨by simp only [V.has,V.within,hno,hb,hlh,if_false,h]; simp,rfl,rfl⟩)
  ·simp only [go_sem,hb,decide_false];exact qH hM (qW ⟨by simp [V.has,hno,hb],rfl,rfl⟩)
 ·simp only [go_sem];exact qH hM (qW ⟨by simp [V.has,hno],rfl,rfl⟩)
theorem kJF (v:V)(n:Int):aI prog 183 [v.val,.int .i64 n] F M (Same F M (.bool (v.within n))):=by
 refine qZ hm func183 kKB (aA rfl) ?_;simp only [c183,go_sem];intro r hF hM;simp only [go_sem];by_cases hlh:v.low<=v.high <;> simp only [go_sem,hlh,decide_true,decide_false]
 all_goals refine qZJ (fun h=>?_) (fun h=>?_) <;> simp only [go_sem,h]
 all_goals exact qH hM (qW ⟨by simp only [V.within,hlh,if_true,if_false,h]; simp,rfl,rfl⟩)
theorem vWZ (v:V)(n:Int):aI prog 150 [v.val,.int .i64 n] F M (Same F M (.bool (v.has n))):=by
 refine qZ hm func150 kZD (aA rfl) ?_;simp only [zWQ,go_sem];intro r hF hM;simp only [go_sem];cases hno:v.no <;> simp only [go_sem]
 ·by_cases hb:uI .i64 n v.free=v.bits <;> simp only [go_sem,hb,decide_true,decide_false]
  ·refine qQ (kJF F _ v n) ?_;simp only [go_sem];exact qH hM (qW ⟨by simp [V.has,hno,hb],rfl,rfl⟩)
  ·exact qH hM (qW ⟨by simp [V.has,hno,hb],rfl,rfl⟩)
 ·exact qH hM (qW ⟨by simp [V.has,hno],rfl,rfl⟩)
def zKX (v:V)(F:Fz)(M:Hp)(r r1:Nat)(m:Nat)(σ:Env)(F':Fz)(M':Hp):Prop:=
 F'=F/\M'=(M.upd r ⟨v.cs,94,6⟩).upd r1 ⟨[.int .i64 v.low,.int .i64 v.high,.int .i64 v.free,.int .i64 v.bits],3,4⟩/\
   Ax.look σ 1=some (.pointer (some ⟨r,0,none⟩))/\Ax.look σ 24=some (.slice (some ⟨r1,0,none⟩) 4 4)/\Ax.look σ 25=some (.int .i64 4)/\
   (m=4/\Ax.look σ 26=some (.int .i64 0)\/m=3/\Ax.look σ 26=some (.int .i64 1)/\nN v.low v.w=true\/m=2/\Ax.look σ 26=some (.int .i64 2)/\nN v.low v.w=true/\nN v.high v.w=true\/
    m=1/\Ax.look σ 26=some (.int .i64 3)/\nN v.low v.w=true/\nN v.high v.w=true/\nN v.free v.w=true\/
    m=0/\Ax.look σ 26=some (.int .i64 4)/\nN v.low v.w=true/\nN v.high v.w=true/\nN v.free v.w=true/\nN v.bits v.w=true)
theorem vWK (v:V):aI prog 170 [v.val] F M (Same F M (.bool v.ok)):=by
 refine qZ hm func170 e170 (aA rfl) ?_;simp only [zWD,go_sem];intro r hF hM;simp only [go_sem];refine qQ (kJB F _ v.w) ?_;cases hw:zS v.w
 ·simp only [go_sem];exact qH hM (qW ⟨by simp [V.ok,hw],rfl,rfl⟩)
 have hl:=jJ hw;cases hno:v.no
 ·simp only [go_sem,hno];intro r1 hF1 hM1;have hr:=yZ hM1;simp only [go_sem];refine iQ (zKX v F M r r1) 4 ?_ ?_
  ·simp only [zKX,go_sem]
  ·rintro m σ F' M' ⟨rfl,rfl,h1,h24,h25,h26⟩;rcases h26 with ⟨rfl,h26⟩ | ⟨rfl,h26,g1⟩ | ⟨rfl,h26,g1,g2⟩ | ⟨rfl,h26,g1,g2,g3⟩ | ⟨rfl,h26,g1,g2,g3,g4⟩
   ·simp only [go_sem,h1,h24,h25,h26,hr];refine qQ (yYG F' _ v.low v.w hl.1 hl.2) ?_;cases g:nN v.low v.w
    ·simp only [go_sem];exact qH hM1 (qH hM (qW ⟨by simp [V.ok,hw,hno,g],rfl,rfl⟩))
    ·simp only [go_sem,h26];exact ⟨3,by omega,rfl,rfl,h1,h24,h25,by simp [go_sem,go_sem,g]⟩
   ·simp only [go_sem,h1,h24,h25,h26,hr];refine qQ (yYG F' _ v.high v.w hl.1 hl.2) ?_;cases g:nN v.high v.w
    ·simp only [go_sem];exact qH hM1 (qH hM (qW ⟨by simp [V.ok,hw,hno,g],rfl,rfl⟩))
    ·simp only [go_sem,h26];exact ⟨2,by omega,rfl,rfl,h1,h24,h25,by simp [go_sem,go_sem,g,g1]⟩
   ·simp only [go_sem,h1,h24,h25,h26,hr];refine qQ (yYG F' _ v.free v.w hl.1 hl.2) ?_;cases g:nN v.free v.w
    ·simp only [go_sem];exact qH hM1 (qH hM (qW ⟨by simp [V.ok,hw,hno,g],rfl,rfl⟩))
    ·simp only [go_sem,h26];exact ⟨1,by omega,rfl,rfl,h1,h24,h25,by simp [go_sem,go_sem,g,g1,g2]⟩
   ·simp only [go_sem,h1,h24,h25,h26,hr];refine qQ (yYG F' _ v.bits v.w hl.1 hl.2) ?_;cases g:nN v.bits v.w
    ·simp only [go_sem];exact qH hM1 (qH hM (qW ⟨by simp [V.ok,hw,hno,g],rfl,rfl⟩))
    ·simp only [go_sem,h26];exact ⟨0,by omega,rfl,rfl,h1,h24,h25,by simp [go_sem,go_sem,g,g1,g2,g3]⟩
   ·simp only [go_sem,h1,h25,h26,hr];exact qH hM1 (qH hM (qW ⟨by simp [V.ok,hw,hno,g1,g2,g3,g4],rfl,rfl⟩))
 ·simp only [go_sem,hno];refine qQ (kJE F _ v.w) ?_;simp only [go_sem];exact qH hM (qW ⟨by simp only [V.ok,hw,hno,bQ,if_true]; rfl,rfl,rfl⟩)
theorem yZQ {v:V}(h:v.ok=true):zS v.w=true:=by
 simp [V.ok] at h; exact h.1
end Go.Proofs.Tryz.K
namespace Go.Ax
open Go
abbrev uJ:Sh:=.slice 1 8 (.int .i64)
abbrev shV:Sh:=.cons 1 (.int .i64) (.cons 1 .bool (.cons 1 (.int .i64) (.cons 1 (.int .i64) (.cons 1 (.int .i64) (.cons 1 (.int .i64) .nil)))))
def oZ (n:Int):Value:=.int .i64 n
def yZW (n:Int):Prop:=-9223372036854775808<=n/\n<=9223372036854775807
theorem qYX (l:List Int):wQ (l.map oZ):=by
 intro u hu;obtain ⟨n,_,rfl⟩:=List.mem_map.1 hu;rfl
theorem qJ {M:Hp}{r b:Nat}{e:nH}(h:M r=none)(hb:M b=some e):¬b=r/\¬r=b:=by
 constructor
 ·rintro rfl; rw [h] at hb; cases hb
 ·rintro rfl; rw [h] at hb; cases hb
@[go_sem] theorem vVB:V.mk 0 false 0 0 0 0=V.zero:=rfl
@[go_sem] theorem V.gGB {w:Int}:(V.whole w).w=w:=rfl
@[go_sem] theorem V.zKZ {w:Int}:(V.whole w).no=false:=rfl
@[go_sem] theorem V.vWJ {w:Int}:(V.whole w).free=wD w:=rfl
@[go_sem] theorem V.vVC {w:Int}:(V.nothing w).w=w:=rfl
@[go_sem] theorem V.kGW {w n:Int}:(V.just w n).w=w:=rfl
theorem wJA {w n:Int}:(V.nothing w).wG n = -1:=by simp [V.wG,V.nothing]
attribute [go_sem] wJA
def Keep (M M':Hp):Prop:=∀b e,M b=some e->M' b=some e
theorem Keep.refl (M:Hp):Keep M M:=fun _ _ h=>h
theorem Keep.trans {A B C:Hp}(h:Keep A B)(k:Keep B C):Keep A C:=fun b e hb=>k b e (h b e hb)
theorem Keep.free {M M':Hp}(h:Keep M M'){r:Nat}(hr:M' r=none):M r=none:=by
 cases hm:M r with
 | none=>rfl
 | some e=>rw [h r e hm] at hr; cases hr
theorem Keep.new {M M':Hp}(h:Keep M M'){r:Nat}{e:nH}(hr:M r=none):Keep M (M'.upd r e):=fun b x hb=>by
 rw [Hp.upd_ne]
 ·exact h b x hb
 ·rintro rfl; rw [hr] at hb; cases hb
theorem Keep.both {M M':Hp}(h:Keep M M'){r:Nat}{e:nH}:Keep (M.upd r e) (M'.upd r e):=fun b x hb=>by
 by_cases hbr:b=r
 ·subst hbr; rw [Hp.qV] at hb ⊢; exact hb
 ·rw [Hp.upd_ne hbr] at hb ⊢; exact h b x hb
theorem Keep.one {M M':Hp}(h:Keep M M'){r:Nat}{e:nH}(he:M' r=some e):Keep (M.upd r e) M':=fun b x hb=>by
 by_cases hbr:b=r
 ·subst hbr; rw [Hp.qV] at hb; rw [he]; exact hb
 ·rw [Hp.upd_ne hbr] at hb; exact h b x hb
theorem Keep.wk {M M':Hp}(h:Keep M M')(F:Fz):Wk F M' F M:=
 ⟨fun w hw=>⟨hw.fz,fun b e hb=>hw.mu b e (h b e hb),fun b hb=>hw.ap b (fun e=>hb (h.free e)),hw.mp⟩,fun _ hf _=>hf,fun b hb=>h.free hb,fun _ h=>h⟩
theorem qX {F:Fz}{M M':Hp}{R:Value->Fz->Hp->Prop}{v:Value}(h:Keep M M')(hr:R v F M):lK F M' R v:=⟨F,M,h.wk F,hr⟩
def V.mem (v:V):Nat->Int->List Int
 | 0,_=>[]
 | k+1,n=>if v.wG n < 0 then [] else v.wG n :: V.mem v k (v.wG n+1)
def V.members (v:V)(most:Nat):List Int:=v.mem (most+1) 0
def V.is1 (v:V):Bool:=decide (0<=v.wG 0) && decide (v.wG (v.wG 0+1) < 0)
theorem V.zU (v:V):v.members 1=if v.wG 0 < 0 then [] else v.wG 0 :: (if v.wG (v.wG 0+1) < 0 then [] else [v.wG (v.wG 0+1)]):=by
 simp [V.members,V.mem]
attribute [go_sem] beq_self_eq_true
def Old (F:Fz)(M:Hp):Prop:=∀b,F b≠none->M b=none
theorem Old.start (F:Fz):Old F qKB:=fun _ _=>rfl
theorem Old.upd {F:Fz}{M:Hp}(h:Old F M){r:Nat}{e:nH}(hr:F r=none):Old F (M.upd r e):=fun b hb=>by
 rw [Hp.upd_ne]
 ·exact h b hb
 ·rintro rfl; exact hb hr
theorem Old.blk {F:Fz}{M:Hp}(h:Old F M){b:Nat}{c:List Value}(hb:F b=some c):blk F M b=some c:=vDY hb (h b (by rw [hb]; simp))
theorem nw {F:Fz}{M M':Hp}{r:Nat}{e:nH}(h:M.upd r e=M')(o:Old F M)(hF:F r=none)(hM:M r=none):Keep M M'/\Old F M'/\M' r=some e:=by
 subst h;exact ⟨(Keep.refl _).new hM,o.upd hF,Hp.qV _ _ _⟩
theorem qKE (j:Nat):(2:Int) ^ j=((2 ^ j:Nat):Int):=by simp
theorem wJB (j:Nat):(2:Int) ^ j - 1=((2 ^ j - 1:Nat):Int):=by
 have:1<=2 ^ j:=Nat.one_le_two_pow;rw [qKE];generalize 2 ^ j=q at *;omega
theorem zKK {j:Nat}(hj:j<=62):2 ^ j < 2 ^ 63:=Nat.pow_lt_pow_right (by decide) (by omega)
theorem xM {n j:Nat}(hj:j<=62):sW .i64 (n:Int) (j:Int)=((n >>> j:Nat):Int):=by
 unfold sW;have e:min ((j:Int).toNat) i64.bits=j:=by simp [IntKind.bits]; omega
 rw [e,qKE,Nat.shiftRight_eq_div_pow,Int.fdiv_eq_ediv_of_nonneg _ (Int.natCast_nonneg _)];simp
theorem wHF {n j:Nat}(hj:j<=62)(h:n <<< j < 2 ^ 63):qF .i64 (n:Int) (j:Int)=((n <<< j:Nat):Int):=by
 unfold qF;have e:min ((j:Int).toNat) i64.bits=j:=by simp [IntKind.bits]; omega
 rw [e,qKE,<-xJ h,Nat.shiftLeft_eq];simp
theorem wDQ {n j:Nat}:(n >>> j) &&& 1=0↔n.testBit j=false:=by
 rw [Nat.testBit,Nat.and_comm]; simp
theorem wJC {n j:Nat}:(n >>> j) &&& 1=1↔n.testBit j=true:=by
 rw [Nat.and_one_is_mod,Nat.testBit,Nat.and_comm,Nat.and_one_is_mod]; simp
theorem wDW {n j:Nat}:n &&& 2 ^ j=0↔n.testBit j=false:=by
 constructor
 ·intro h;have:=congrArg (fun y=>y.testBit j) h
  simpa [iT] using this
 ·intro h;apply fJ;intro i;rw [Nat.testBit_and,iT,Nat.zero_testBit];by_cases e:j=i
  ·subst e; simp [h]
  ·simp [e]
def mS (f b n j:Nat):Option Nat:=
 if (clr n f ^^^ b) >>> (j+1)=0/\n.testBit j=false/\(f.testBit j=true\/b.testBit j=true) then
  some (((n >>> (j+1)) <<< (j+1) ||| 2 ^ j) ||| (b &&& (2 ^ j - 1)))
 else none
theorem qZD {x j:Nat}:x >>> j=0↔∀i,j<=i->x.testBit i=false:=by
 constructor
 ·intro h i hi;have:=congrArg (fun y=>y.testBit (i - j)) h;simp only [Nat.testBit_shiftRight,Nat.zero_testBit] at this;rw [show j+(i - j)=i by omega] at this;exact this
 ·intro h;apply fJ;intro i;rw [Nat.testBit_shiftRight,Nat.zero_testBit];exact h _ (by omega)
theorem qYZ (n j:Nat):(n >>> j) <<< j<=n:=by
 rw [Nat.shiftLeft_eq,Nat.shiftRight_eq_div_pow];exact Nat.div_mul_le_self _ _
theorem qWD {v:V}{f b n j:Nat}(hf:v.free=f)(hb:v.bits=b)(f1:f < 2 ^ 62)(b1:b < 2 ^ 62)(n1:n < 2 ^ 62)(hj:j < 62) :
  v.pY n j=(mS f b n j).map Int.ofNat:=by
 have c1:clr n f < 2 ^ 62:=dI (yXA _ _) n1;have p1:2 ^ j < 2 ^ 62:=Nat.pow_lt_pow_right (by decide) hj;have s1:=dI (qYZ n (j+1)) n1;have x1:clr n f ^^^ b < 2 ^ 62:=Nat.xor_lt_two_pow c1 b1;have r1:=Nat.or_lt_two_pow s1 p1;unfold V.pY mS;rw [hf,hb,show ((j:Int)+1)=((j+1:Nat):Int) by simp,qO (by omega) (by omega),wHB (by omega) (by omega),xM (by omega),xM (by omega),
  xM (by omega),xM (by omega),xM (by omega),wJB,qKE,
  show (1:Int)=((1:Nat):Int) from rfl,
  qM (dI (Nat.shiftRight_le _ _) (by omega)) (by decide),qM (dI (Nat.shiftRight_le _ _) (by omega)) (by decide),
  qM (dI (Nat.shiftRight_le _ _) (by omega)) (by decide),qM (by omega) (by omega),
  wHF (by omega) (by omega),qQD (by omega) (by omega),qQD (by omega) (dI Nat.and_le_left (by omega))]
 simp only [Int.natCast_eq_zero,Int.ofNat_inj,wDQ,wJC];split <;> rfl
theorem yGG {n j:Nat}(h:n.testBit j=false):clr n (2 ^ j - 1) ||| 2 ^ j=(n >>> (j+1)) <<< (j+1) ||| 2 ^ j:=by
 apply fJ;intro i;simp only [Nat.testBit_or,qN,Nat.testBit_two_pow_sub_one,iT,Nat.testBit_shiftLeft,Nat.testBit_shiftRight];by_cases h1:j=i
 ·simp [h1]
 ·by_cases h2:i < j
  ·simp [h1,h2]; omega
  ·have:j+1<=i:=by omega
   simp [h1,h2,this,show j+1+(i - (j+1))=i by omega]
theorem yYV {f b n j:Nat}(hbf:b &&& f=0)(h:n.testBit j=false) :
  clr (clr (clr n (2 ^ j - 1) ||| 2 ^ j) f) (2 ^ j - 1)=clr b (2 ^ j - 1)↔(clr n f ^^^ b) >>> (j+1)=0/\(f.testBit j=true\/b.testBit j=true):=by
 have zKJ:∀i,b.testBit i=true->f.testBit i=false:=by
  intro i hi;have:=congrArg (fun y=>y.testBit i) hbf;simp only [Nat.testBit_and,hi,bQ,Nat.zero_testBit] at this;exact this
 constructor
 ·intro he;have key:∀i,_:=fun i=>congrArg (fun y=>y.testBit i) he
  simp only [Nat.testBit_or,qN,Nat.testBit_two_pow_sub_one,iT] at key;refine ⟨qZD.2 fun i hi=>?_,?_⟩
  ·have:=key i;have h1:¬i < j:=by omega
   have h2:¬j=i:=by omega
   simp [h1,h2] at this;simp [Nat.testBit_xor,qN,this]
  ·have:=key j;simp at this;cases hf:f.testBit j
   ·right; rw [hf] at this; simpa using this.symm
   ·left; rfl
 ·rintro ⟨h1,h2⟩;rw [qZD] at h1;apply fJ;intro i;simp only [Nat.testBit_or,qN,Nat.testBit_two_pow_sub_one,iT];by_cases a:i < j
  ·simp [a]
  by_cases e:j=i
  ·subst e;simp;rcases h2 with h2 | h2
   ·rw [h2];cases hb:b.testBit j
    ·rfl
    ·rw [zKJ j hb] at h2; cases h2
   ·rw [h2,zKJ j h2]; rfl
  ·have:=h1 i (by omega);simp only [Nat.testBit_xor,qN] at this;simp [a,e];revert this;cases (n.testBit i && !f.testBit i) <;> cases b.testBit i <;> simp
theorem wJE {v:V}{f b n j:Nat}(hf:v.free=f)(hb:v.bits=b)(f1:f < 2 ^ 62)(b1:b < 2 ^ 62)(n1:n < 2 ^ 62)(hj:j < 62)(hbf:b &&& f=0) :
  v.xI n j=(mS f b n j).map Int.ofNat:=by
 have p1:2 ^ j < 2 ^ 62:=Nat.pow_lt_pow_right (by decide) hj;have c1:clr n (2 ^ j - 1) < 2 ^ 62:=dI (yXA _ _) n1;have r1:=Nat.or_lt_two_pow c1 p1;have r2:=yXA (clr n (2 ^ j - 1) ||| 2 ^ j) f;unfold V.xI mS;rw [hf,hb,wJB,qKE,qM (by omega) (by omega),qO (by omega) (by omega),qQD (by omega) (by omega),qO (by omega) (by omega),qO (by omega) (by omega),
  qO (by omega) (by omega),qM (by omega) (by omega),qQD (by omega) (dI Nat.and_le_left (by omega))]
 simp only [Int.natCast_eq_zero,Int.ofNat_inj,wDW];by_cases hn:n.testBit j=false
 ·rw [yGG hn];have:=yYV hbf hn;rw [yGG hn] at this;simp only [hn,this,true_and];split <;> rfl
 ·simp [hn]
theorem wZK {v:V}{f b n:Nat}(hf:v.free=f)(hb:v.bits=b)(f1:f < 2 ^ 62)(b1:b < 2 ^ 62)(n1:n < 2 ^ 62)(hbf:b &&& f=0) :
  ∀m j:Nat,m+j<=62->v.qKC n m j=v.uV n m j
 | 0,_,_=>rfl
 | m+1,j,h=>by
  simp only [V.qKC,V.uV];rw [wJE hf hb f1 b1 n1 (by omega) hbf,qWD hf hb f1 b1 n1 (by omega),wZK hf hb f1 b1 n1 hbf m (j+1) (by omega)]
theorem jKZ {v:V}(h:v.ok=true)(hno:v.no=false):∃l g f b:Nat,v.low=l/\v.high=g/\v.free=f/\v.bits=b/\l < 2 ^ v.w.toNat/\g < 2 ^ v.w.toNat/\f < 2 ^ v.w.toNat/\b < 2 ^ v.w.toNat/\b &&& f=0/\2 ^ v.w.toNat<=2 ^ 62:=by
 have hw:zS v.w=true:=by simp [V.ok] at h; exact h.1
 have hl:=jJ hw;simp [V.ok,hw,hno] at h;obtain ⟨⟨⟨⟨h1,h2⟩,h3⟩,h4⟩,h5⟩:=h;obtain ⟨l,e1,g1⟩:=yE hl.1 h1;obtain ⟨g,e2,g2⟩:=yE hl.1 h2;obtain ⟨f,e3,g3⟩:=yE hl.1 h3;obtain ⟨b,e4,g4⟩:=yE hl.1 h4;have hp:2 ^ v.w.toNat<=2 ^ 62:=Nat.pow_le_pow_right (by decide) (by omega);refine ⟨l,g,f,b,e1,e2,e3,e4,g1,g2,g3,g4,?_,hp⟩;rw [e3,e4,qM (by omega) (by omega)] at h5;omega
theorem qYK {v:V}(h:v.ok=true)(hno:v.no=false){n:Int}(h0:0<=n)(h1:n<=wD v.w):v.wZZ n=v.jG n:=by
 obtain ⟨l,g,f,b,e1,e2,e3,e4,g1,g2,g3,g4,hbf,hp⟩:=jKZ h hno;have hw:zS v.w=true:=by simp [V.ok] at h; exact h.1
 have hl:=jJ hw;obtain ⟨k,rfl,hk⟩:=yE (n:=n) hl.1 (by simp [nN,h0,h1]);unfold V.wZZ V.jG;rw [wZK e3 e4 (by omega) (by omega) (by omega) hbf _ _ (by omega)]
theorem qP {v:V}{n:Int}{p:Int × Int}(h:p.2 < n\/¬0<=v.jG (mx n p.1)\/¬v.jG (mx n p.1)<=p.2):v.fU n p=none:=by
 unfold V.fU;rcases h with h | h | h
 ·rw [if_pos (by unfold mx; split <;> omega)]
 ·rw [if_neg (c:=0<=_/\_) (by omega)]; simp
 ·rw [if_neg (c:=0<=_/\_) (by omega)]; simp
theorem qYJ {v:V}{n:Int}{p:Int × Int}(h:mx n p.1<=p.2)(h1:0<=v.jG (mx n p.1))(h2:v.jG (mx n p.1)<=p.2):v.fU n p=some (v.jG (mx n p.1)):=by
 rw [V.fU,if_neg (by omega),if_pos ⟨h1,h2⟩]
theorem yYH {v:V}{n:Int}:v.fU n (0,-1)=none:=by
 rw [V.fU,if_pos];unfold mx; simp only; split <;> omega
theorem jKK {n:Int}{p:Int × Int}(h:¬p.2 < n)(hp:p.1<=p.2):p.1<=mx n p.1/\mx n p.1<=p.2:=by
 unfold mx; split <;> omega
theorem wDX {v:V}(h:v.ok=true)(hno:v.no=false):(v.p0.1<=v.p0.2)/\(¬v.low<=v.high->v.p1.1<=v.p1.2)/\(0<=v.p0.1/\v.p0.2<=wD v.w)/\(0<=v.p1.1/\v.p1.2<=wD v.w):=by
 have hw:zS v.w=true:=by simp [V.ok] at h; exact h.1
 have hm:=qA (jJ hw).2;simp [V.ok,hw,hno,nN] at h;unfold V.p0 V.p1;split <;> simp <;> omega
end Go.Ax
namespace Go.Proofs.Tryz.K
open Go Go.Ax Go.Proofs.Tryz.S
variable (F:Fz) (M:Hp)
def zKG (v:V)(n:Int)(F:Fz)(M:Hp)(r:Nat)(m:Nat)(σ:Env)(F':Fz)(M':Hp):Prop:=
 F'=F/\M'=M.upd r ⟨v.cs,94,6⟩/\∃j:Nat,j+m=v.w.toNat/\Ax.look σ 1=some (.int .i64 n)/\Ax.look σ 2=some (.pointer (some ⟨r,0,none⟩))/\Ax.look σ 17=some (.int .i64 v.w)/\Ax.look σ 18=some (.int .i64 j)/\v.qKC n m j=v.wZZ n
theorem vWG (v:V)(n:Int)(hw:v.w<=62):aI prog 232 [v.val,.int .i64 n] F M (Same F M (.int .i64 (v.wZZ n))):=by
 refine qZ hm func232 e232 (aA rfl) ?_;simp only [c232,go_sem];intro r hF hM;simp only [go_sem];by_cases hb:uI .i64 n v.free=v.bits
 ·simp only [go_sem,hb];exact qH hM (qW ⟨by simp [V.wZZ,hb],rfl,rfl⟩)
 simp only [go_sem,hb];refine iQ (zKG v n F M r) v.w.toNat ?_ ?_
 ·exact ⟨rfl,rfl,0,by omega,by simp only [go_sem],by simp only [go_sem],by simp only [go_sem],by simp only [go_sem],by simp [V.wZZ,hb]⟩
 ·rintro m σ F' M' ⟨rfl,rfl,j,hj,h1,h2,h6,h5,hg⟩;by_cases hjw:(j:Int) < v.w
  ·obtain ⟨f,rfl⟩:∃f,m=f+1:=⟨m - 1,by omega⟩
   have e1:i64.wrap ((j:Int)+1)=j+1:=dQ (by omega) (by omega);have e2:¬((j:Int)+1 < 0):=by omega
   have e3:¬((j:Int) < 0):=by omega
   have e4:qF .i64 1 (j:Int)=2 ^ j:=by rw [qXZ (by omega) (by omega)]; simp
   have e5:i64.wrap ((2:Int) ^ j - 1)=2 ^ j - 1:=by
    have:=vF (w:=(j:Int)) (by omega) (by omega)
    simpa [wD] using this
   simp only [go_sem,e3,e4,h1,h5,h6,hjw];simp only [V.qKC] at hg;by_cases a1:band .i64 n (2 ^ j)=0
   ·simp only [go_sem,e5,h1,h2,a1];by_cases a2:uI .i64 (uI .i64 (bor .i64 (uI .i64 n (2 ^ j - 1)) (2 ^ j)) v.free) (2 ^ j - 1)=uI .i64 v.bits (2 ^ j - 1)
    ·simp only [go_sem,e5,h2,a2];exact qH hM (qW ⟨by rw [<-hg,V.xI,if_pos ⟨a1,a2⟩],rfl,rfl⟩)
    ·simp only [go_sem,e1,h5,a2];exact ⟨f,by omega,rfl,rfl,j+1,by omega,by simp only [go_sem,h1],by simp only [go_sem,h2],by simp only [go_sem,h6],by simp only [go_sem]; rfl,by rw [<-hg,V.xI,if_neg (by simp [a2])]⟩
   ·simp only [go_sem,e1,h5,a1];exact ⟨f,by omega,rfl,rfl,j+1,by omega,by simp only [go_sem,h1],by simp only [go_sem,h2],by simp only [go_sem,h6],by simp only [go_sem]; rfl,by rw [<-hg,V.xI,if_neg (by simp [a1])]⟩
  ·simp only [go_sem,h5,h6,hjw];obtain rfl:m=0:=by omega
   exact qH hM (qW ⟨by rw [<-hg]; rfl,rfl,rfl⟩)
theorem kGX (v:V)(h0:0<=v.w)(hw:v.w<=62):aI prog 231 [v.val] F M fun u F' M'=>F'=F/\∃r,F r=none/\M r=none/\
  ((v.low<=v.high/\u=.slice (some ⟨r,0,none⟩) 1 1/\M'=M.upd r ⟨[.int .i64 v.low,.int .i64 v.high],252,2⟩)\/
   (¬v.low<=v.high/\u=.slice (some ⟨r,0,none⟩) 2 2/\M'=M.upd r ⟨[.int .i64 0,.int .i64 v.high,.int .i64 v.low,.int .i64 (wD v.w)],252,4⟩)):=by
 refine qZ hm func231 e231 (aA rfl) ?_;simp only [zZY,go_sem];intro r hF hM;simp only [go_sem];by_cases hlh:v.low<=v.high
 ·simp only [go_sem,hlh];intro r1 hF1 hM1;have g:=yZ hM1;simp only [go_sem];refine wZQ g.2.1 (qH (by rw [nX]; exact ⟨g.2.1,hM⟩) (qW ⟨rfl,r1,hF1,g.2.2,.inl ⟨rfl,rfl⟩⟩))
 ·simp only [go_sem,hlh];refine qQ (jKX F _ v.w h0 hw) ?_;simp only [go_sem];intro r1 hF1 hM1;have g:=yZ hM1;simp only [go_sem];refine wZQ g.2.1 (qH (by rw [nX]; exact ⟨g.2.1,hM⟩) (qW ⟨rfl,r1,hF1,g.2.2,rfl,rfl⟩))
def xVW (v:V)(n:Int)(F:Fz)(M:Hp)(r r1 len:Nat)(cells:List Value)(m:Nat)(σ:Env)(F':Fz)(M':Hp):Prop:=
 F'=F/\M' r=some ⟨v.cs,94,6⟩/\M' r1=some ⟨cells,252,cells.length⟩/\Wk F M' F M/\Ax.look σ 1=some (.int .i64 n)/\Ax.look σ 2=some (.pointer (some ⟨r,0,none⟩))/\
  Ax.look σ 18=some (.slice (some ⟨r1,0,none⟩) len len)/\Ax.look σ 19=some (.int .i64 len)/\
  (m=len/\Ax.look σ 20=some (.int .i64 0)\/m+1=len/\Ax.look σ 20=some (.int .i64 1)/\v.fU n v.p0=none\/len=2/\m=0/\Ax.look σ 20=some (.int .i64 2)/\v.fU n v.p0=none/\v.fU n v.p1=none)
theorem vWV (v:V)(n:Int)(hv:v.ok=true):aI prog 227 [v.val,.int .i64 n] F M (Same F M (.int .i64 (v.wG n))):=by
 refine qZ hm func227 e227 (aA rfl) ?_;have hl:=jJ (yZQ hv);simp only [c227,go_sem];intro r hF hM;simp only [go_sem];cases hno:v.no;rotate_left
 ·simp only [go_sem];exact qH hM (qW ⟨by simp [V.wG,hno],rfl,rfl⟩)
 simp only [go_sem];refine qQ (jKX F _ v.w hl.1 hl.2) ?_;by_cases hbig:wD v.w < n
 ·simp only [go_sem,hbig];exact qH hM (qW ⟨by rw [V.wG,if_pos (.inr (by unfold wD at hbig; omega))],rfl,rfl⟩)
 have hc:¬(v.no=true\/2 ^ v.w.toNat<=n):=by unfold wD at hbig; simp [hno]; omega
 obtain ⟨hp0,hp1,hq0,hq1⟩:=wDX hv hno;simp only [go_sem,hbig];refine wW (kGX F _ v hl.1 hl.2) ?_;rintro u G' M' ⟨hG,r1,hF1,hM1,⟨hlh,rfl,rfl⟩ | ⟨hlh,rfl,rfl⟩⟩ <;> rw [hG]
 ·have g1:=yZ hM1;refine ⟨(fun h=>by cases h),?_⟩;simp only [go_sem];refine iQ (xVW v n F M r r1 1 [.int .i64 v.p0.1,.int .i64 v.p0.2]) 1 ?_ ?_
  ·exact ⟨rfl,by rw [Hp.qK g1.2.1]; exact Hp.qV _ _ _,(Hp.qV _ _ _).trans (by simp [V.p0,hlh]),(Wk.drop hM1).trans (Wk.drop hM),by simp only [go_sem],by simp only [go_sem],by simp only [go_sem],by simp only [go_sem],.inl ⟨rfl,by simp only [go_sem]⟩⟩
  rintro m σ F' M' ⟨rfl,f1,f2,hk,h1,h2,h18,h19,h20⟩;have b1:=qG (F:=F') f1;have b2:=qG (F:=F') f2;rcases h20 with ⟨rfl,h20⟩ | ⟨hm1,h20,t0⟩ | ⟨hcf,_⟩
  ·simp only [go_sem,h18,h19,b2,h20];intro rp hFp hMp;have g2:=qJ hMp f1;have g3:=qJ hMp f2;simp only [go_sem,h1];by_cases a1:v.p0.2 < n
   ·simp only [go_sem,h20,a1];have t0:v.fU n v.p0=none:=qP (.inl a1);exact ⟨0,by omega,rfl,by rw [Hp.qK g2.1]; exact f1,by rw [Hp.qK g3.1]; exact f2,(Wk.drop hMp).trans hk,by simp only [go_sem,h1],by simp only [go_sem,h2],by simp only [go_sem,h18],by simp only [go_sem,h19],.inr (.inl ⟨rfl,by simp only [go_sem],t0⟩)⟩
   ·have hle:v.p0.1<=v.p0.2:=hp0;have hmx:=jKK (n:=n) (p:=v.p0) a1 hle;have hfm:=qYK hv hno (n:=mx n v.p0.1) (by have:=hq0; omega) (by have:=hq0; omega);simp only [go_sem,h1,h2,b1,g2,a1];refine qQ (vWG _ _ v (mx n v.p0.1) hl.2) ?_;rw [hfm];by_cases a2:0<=v.jG (mx n v.p0.1)
    ·simp only [go_sem,a2];by_cases a3:v.jG (mx n v.p0.1)<=v.p0.2
     ·simp only [go_sem,a3];have q:v.fU n v.p0=some (v.jG (mx n v.p0.1)):=qYJ hmx.2 a2 a3;exact ⟨_,_,(Wk.drop hMp).trans hk,by simp [V.wG,hc,q],rfl,rfl⟩
     ·simp only [go_sem,h20,a3];have t0:v.fU n v.p0=none:=qP (.inr (.inr a3));exact ⟨0,by omega,rfl,by rw [Hp.qK g2.1]; exact f1,by rw [Hp.qK g3.1]; exact f2,(Wk.drop hMp).trans hk,by simp only [go_sem,h1],by simp only [go_sem,h2],by simp only [go_sem,h18],by simp only [go_sem,h19],.inr (.inl ⟨rfl,by simp only [go_sem],t0⟩)⟩
    ·simp only [go_sem,h20,a2];have t0:v.fU n v.p0=none:=qP (.inr (.inl a2));exact ⟨0,by omega,rfl,by rw [Hp.qK g2.1]; exact f1,by rw [Hp.qK g3.1]; exact f2,(Wk.drop hMp).trans hk,by simp only [go_sem,h1],by simp only [go_sem,h2],by simp only [go_sem,h18],by simp only [go_sem,h19],.inr (.inl ⟨rfl,by simp only [go_sem],t0⟩)⟩
  ·obtain rfl:m=0:=by omega
   simp only [go_sem,h19,h20];have t1:v.fU n v.p1=none:=by rw [show v.p1=(0,-1) by simp [V.p1,hlh]]; exact yYH
   exact ⟨_,_,hk,by simp [V.wG,hc,t0,t1],rfl,rfl⟩
  ·simp at hcf
 ·have g1:=yZ hM1;refine ⟨(fun h=>by cases h),?_⟩;simp only [go_sem];refine iQ (xVW v n F M r r1 2 [.int .i64 v.p0.1,.int .i64 v.p0.2,.int .i64 v.p1.1,.int .i64 v.p1.2]) 2 ?_ ?_
  ·exact ⟨rfl,by rw [Hp.qK g1.2.1]; exact Hp.qV _ _ _,(Hp.qV _ _ _).trans (by simp [V.p0,V.p1,hlh]),(Wk.drop hM1).trans (Wk.drop hM),by simp only [go_sem],by simp only [go_sem],by simp only [go_sem],by simp only [go_sem],.inl ⟨rfl,by simp only [go_sem]⟩⟩
  rintro m σ F' M' ⟨rfl,f1,f2,hk,h1,h2,h18,h19,h20⟩;have b1:=qG (F:=F') f1;have b2:=qG (F:=F') f2;rcases h20 with ⟨rfl,h20⟩ | ⟨hm1,h20,t0⟩ | ⟨_,rfl,h20,t0,t1⟩
  ·simp only [go_sem,h18,h19,b2,h20];intro rp hFp hMp;have g2:=qJ hMp f1;have g3:=qJ hMp f2;simp only [go_sem,h1];by_cases a1:v.p0.2 < n
   ·simp only [go_sem,h20,a1];have t0:v.fU n v.p0=none:=qP (.inl a1);exact ⟨1,by omega,rfl,by rw [Hp.qK g2.1]; exact f1,by rw [Hp.qK g3.1]; exact f2,(Wk.drop hMp).trans hk,by simp only [go_sem,h1],by simp only [go_sem,h2],by simp only [go_sem,h18],by simp only [go_sem,h19],.inr (.inl ⟨rfl,by simp only [go_sem],t0⟩)⟩
   ·have hle:v.p0.1<=v.p0.2:=hp0;have hmx:=jKK (n:=n) (p:=v.p0) a1 hle;have hfm:=qYK hv hno (n:=mx n v.p0.1) (by have:=hq0; omega) (by have:=hq0; omega);simp only [go_sem,h1,h2,b1,g2,a1];refine qQ (vWG _ _ v (mx n v.p0.1) hl.2) ?_;rw [hfm];by_cases a2:0<=v.jG (mx n v.p0.1)
    ·simp only [go_sem,a2];by_cases a3:v.jG (mx n v.p0.1)<=v.p0.2
     ·simp only [go_sem,a3];have q:v.fU n v.p0=some (v.jG (mx n v.p0.1)):=qYJ hmx.2 a2 a3;exact ⟨_,_,(Wk.drop hMp).trans hk,by simp [V.wG,hc,q],rfl,rfl⟩
     ·simp only [go_sem,h20,a3];have t0:v.fU n v.p0=none:=qP (.inr (.inr a3));exact ⟨1,by omega,rfl,by rw [Hp.qK g2.1]; exact f1,by rw [Hp.qK g3.1]; exact f2,(Wk.drop hMp).trans hk,by simp only [go_sem,h1],by simp only [go_sem,h2],by simp only [go_sem,h18],by simp only [go_sem,h19],.inr (.inl ⟨rfl,by simp only [go_sem],t0⟩)⟩
    ·simp only [go_sem,h20,a2];have t0:v.fU n v.p0=none:=qP (.inr (.inl a2));exact ⟨1,by omega,rfl,by rw [Hp.qK g2.1]; exact f1,by rw [Hp.qK g3.1]; exact f2,(Wk.drop hMp).trans hk,by simp only [go_sem,h1],by simp only [go_sem,h2],by simp only [go_sem,h18],by simp only [go_sem,h19],.inr (.inl ⟨rfl,by simp only [go_sem],t0⟩)⟩
  ·obtain rfl:m=1:=by omega
   simp only [go_sem,h18,h19,b2,h20];intro rp hFp hMp;have g2:=qJ hMp f1;have g3:=qJ hMp f2;simp only [go_sem,h1];by_cases a1:v.p1.2 < n
   ·simp only [go_sem,h20,a1];have t1:v.fU n v.p1=none:=qP (.inl a1);exact ⟨0,by omega,rfl,by rw [Hp.qK g2.1]; exact f1,by rw [Hp.qK g3.1]; exact f2,(Wk.drop hMp).trans hk,by simp only [go_sem,h1],by simp only [go_sem,h2],by simp only [go_sem,h18],by simp only [go_sem,h19],.inr (.inr ⟨rfl,rfl,by simp only [go_sem],t0,t1⟩)⟩
   ·have hle:v.p1.1<=v.p1.2:=hp1 hlh;have hmx:=jKK (n:=n) (p:=v.p1) a1 hle;have hfm:=qYK hv hno (n:=mx n v.p1.1) (by have:=hq1; omega) (by have:=hq1; omega);simp only [go_sem,h1,h2,b1,g2,a1];refine qQ (vWG _ _ v (mx n v.p1.1) hl.2) ?_;rw [hfm];by_cases a2:0<=v.jG (mx n v.p1.1)
    ·simp only [go_sem,a2];by_cases a3:v.jG (mx n v.p1.1)<=v.p1.2
     ·simp only [go_sem,a3];have q:v.fU n v.p1=some (v.jG (mx n v.p1.1)):=qYJ hmx.2 a2 a3;exact ⟨_,_,(Wk.drop hMp).trans hk,by simp [V.wG,hc,q,t0],rfl,rfl⟩
     ·simp only [go_sem,h20,a3];have t1:v.fU n v.p1=none:=qP (.inr (.inr a3));exact ⟨0,by omega,rfl,by rw [Hp.qK g2.1]; exact f1,by rw [Hp.qK g3.1]; exact f2,(Wk.drop hMp).trans hk,by simp only [go_sem,h1],by simp only [go_sem,h2],by simp only [go_sem,h18],by simp only [go_sem,h19],.inr (.inr ⟨rfl,rfl,by simp only [go_sem],t0,t1⟩)⟩
    ·simp only [go_sem,h20,a2];have t1:v.fU n v.p1=none:=qP (.inr (.inl a2));exact ⟨0,by omega,rfl,by rw [Hp.qK g2.1]; exact f1,by rw [Hp.qK g3.1]; exact f2,(Wk.drop hMp).trans hk,by simp only [go_sem,h1],by simp only [go_sem,h2],by simp only [go_sem,h18],by simp only [go_sem,h19],.inr (.inr ⟨rfl,rfl,by simp only [go_sem],t0,t1⟩)⟩
  ·simp only [go_sem,h19,h20];exact ⟨_,_,hk,by simp [V.wG,hc,t0,t1],rfl,rfl⟩
def vWH (v:V)(n:Int)(F:Fz)(M:Hp)(r:Nat)(m:Nat)(σ:Env)(F':Fz)(M':Hp):Prop:=
 F'=F/\M'=M.upd r ⟨v.cs,94,6⟩/\∃j:Nat,j+m=v.w.toNat/\Ax.look σ 1=some (.int .i64 n)/\Ax.look σ 2=some (.pointer (some ⟨r,0,none⟩))/\Ax.look σ 5=some (.int .i64 j)/\v.uV n m j=v.jG n
theorem xXX (v:V)(n:Int)(hw:v.w<=62):aI prog 205 [v.val,.int .i64 n] F M (Same F M (.int .i64 (v.jG n))):=by
 refine qZ hm func205 kJD (aA rfl) ?_;simp only [zXC,go_sem];intro r hF hM;simp only [go_sem];by_cases hb:uI .i64 n v.free=v.bits
 ·simp only [go_sem,hb];exact qH hM (qW ⟨by simp [V.jG,hb],rfl,rfl⟩)
 simp only [go_sem,hb];refine iQ (vWH v n F M r) v.w.toNat ?_ ?_
 ·exact ⟨rfl,rfl,0,by omega,by simp only [go_sem],by simp only [go_sem],by simp only [go_sem],by simp [V.jG,hb]⟩
 ·rintro m σ F' M' ⟨rfl,rfl,j,hj,h1,h2,h5,hg⟩;by_cases hjw:(j:Int) < v.w
  ·obtain ⟨f,rfl⟩:∃f,m=f+1:=⟨m - 1,by omega⟩
   have e1:i64.wrap ((j:Int)+1)=j+1:=dQ (by omega) (by omega);have e2:¬((j:Int)+1 < 0):=by omega
   have e3:¬((j:Int) < 0):=by omega
   have e4:qF .i64 1 (j:Int)=2 ^ j:=by rw [qXZ (by omega) (by omega)]; simp
   have e5:i64.wrap ((2:Int) ^ j - 1)=2 ^ j - 1:=by
    have:=vF (w:=(j:Int)) (by omega) (by omega)
    simpa [wD] using this
   simp only [go_sem,h1,h2,h5,hjw,e1,e2];simp only [V.uV] at hg;by_cases a1:sW .i64 (qVE .i64 (uI .i64 n v.free) v.bits) (j+1)=0
   ·simp only [go_sem,e3,h1,h5,a1];by_cases a2:band .i64 (sW .i64 n j) 1=0
    ·simp only [go_sem,e3,h2,h5,a2];by_cases a3:band .i64 (sW .i64 v.free j) 1=1
     ·simp only [go_sem,e1,e2,e3,e4,e5,h1,h2,h5,a3];exact qH hM (qW ⟨by rw [<-hg,V.pY,if_pos ⟨a1,a2,.inl a3⟩],rfl,rfl⟩)
     ·simp only [go_sem,e3,h2,h5,a3];by_cases a4:band .i64 (sW .i64 v.bits j) 1=1
      ·simp only [go_sem,e1,e2,e3,e4,e5,h1,h2,h5,a4];exact qH hM (qW ⟨by rw [<-hg,V.pY,if_pos ⟨a1,a2,.inr a4⟩],rfl,rfl⟩)
      ·simp only [go_sem,e1,h5,a4];exact ⟨f,by omega,rfl,rfl,j+1,by omega,by simp only [go_sem,h1],by simp only [go_sem,h2],by simp only [go_sem]; rfl,by rw [<-hg,V.pY,if_neg (by simp [a3,a4])]⟩
    ·simp only [go_sem,e1,h5,a2];exact ⟨f,by omega,rfl,rfl,j+1,by omega,by simp only [go_sem,h1],by simp only [go_sem,h2],by simp only [go_sem]; rfl,by rw [<-hg,V.pY,if_neg (by simp [a2])]⟩
   ·simp only [go_sem,e1,h5,a1];exact ⟨f,by omega,rfl,rfl,j+1,by omega,by simp only [go_sem,h1],by simp only [go_sem,h2],by simp only [go_sem]; rfl,by rw [<-hg,V.pY,if_neg (by simp [a1])]⟩
  ·simp only [go_sem,h2,h5,hjw];obtain rfl:m=0:=by omega
   exact qH hM (qW ⟨by rw [<-hg]; rfl,rfl,rfl⟩)
def xVX (v:V)(n:Int)(F:Fz)(M:Hp)(r ra rb:Nat)(m:Nat)(σ:Env)(F':Fz)(M':Hp):Prop:=
 F'=F/\M'=M/\Ax.look σ 1=some (.int .i64 n)/\Ax.look σ 2=some (.pointer (some ⟨r,0,none⟩))/\
  Ax.look σ 5=some (.slice (some ⟨ra,0,none⟩) 2 2)/\Ax.look σ 6=some (.slice (some ⟨rb,0,none⟩) 2 2)/\
  (m=2/\Ax.look σ 7=some (.int .i64 0)\/m=1/\Ax.look σ 7=some (.int .i64 1)/\v.fU n v.p0=none\/m=0/\Ax.look σ 7=some (.int .i64 2)/\v.fU n v.p0=none/\v.fU n v.p1=none)
theorem zKH (v:V)(n:Int)(h0:0<=v.w)(hw:v.w<=62):aI prog 187 [v.val,.int .i64 n] F M (Same F M (.int .i64 (v.wG n))):=by
 refine qZ hm func187 e187 (aA rfl) ?_;simp only [zXZ,go_sem];intro r hF hM;simp only [go_sem];have w0:¬v.w < 0:=by omega
 cases hno:v.no;rotate_left
 ·simp only [go_sem];exact qH hM (qW ⟨by simp [V.wG,hno],rfl,rfl⟩)
 by_cases hbig:2 ^ v.w.toNat<=n
 ·simp only [go_sem,w0,qXZ h0 hw,hbig];exact qH hM (qW ⟨by simp [V.wG,hbig],rfl,rfl⟩)
 have hc:¬(v.no=true\/2 ^ v.w.toNat<=n):=by simp [hno]; omega
 simp only [go_sem,w0,qXZ h0 hw,hbig];by_cases hlh:v.high < v.low
 ·have jKJ:¬v.low<=v.high:=by omega
  intro rx hFx lD;have gx:=yZ lD;simp only [go_sem,gx];intro ry hFy hMy;have gy:=yZ hMy;have gy':=yZ gy.2.2;simp only [go_sem,gx,gy',hlh,w0,qXZ h0 hw,vF h0 hw];intro ra hFa hMa;simp only [go_sem];intro rb uK lW;have ga:=yZ hMa;have ga':=yZ ga.2.2;have kGZ:=yZ ga'.2.2;have gb:=yZ lW;have gb':=yZ gb.2.2;have kGK:=yZ gb'.2.2;have gb3:=yZ kGK.2.2;simp only [go_sem];have hk:Wk F (((((M.upd r ⟨v.cs,94,6⟩).upd rx ⟨[.int .i64 v.low,.int .i64 0],3,2⟩).upd ry ⟨[.int .i64 v.high,.int .i64 (-1)],3,2⟩).upd ra ⟨[.int .i64 0,.int .i64 v.low],3,2⟩).upd rb ⟨[.int .i64 v.high,.int .i64 (wD v.w)],3,2⟩) F M:=(Wk.drop lW).trans ((Wk.drop hMa).trans ((Wk.drop hMy).trans ((Wk.drop lD).trans (Wk.drop hM))));generalize hM':((((M.upd r ⟨v.cs,94,6⟩).upd rx ⟨[.int .i64 v.low,.int .i64 0],3,2⟩).upd ry ⟨[.int .i64 v.high,.int .i64 (-1)],3,2⟩).upd ra ⟨[.int .i64 0,.int .i64 v.low],3,2⟩).upd rb ⟨[.int .i64 v.high,.int .i64 (wD v.w)],3,2⟩=M' at *;have f1:M' r=some ⟨v.cs,94,6⟩:=by subst hM'; simp only [go_sem,gx,gy',kGZ,gb3]
  have f2:M' ra=some ⟨[.int .i64 v.p0.1,.int .i64 v.p1.1],3,2⟩:=by subst hM'; simp only [go_sem,gb,V.p0,V.p1,jKJ]
  have f3:M' rb=some ⟨[.int .i64 v.p0.2,.int .i64 v.p1.2],3,2⟩:=by subst hM'; simp only [go_sem,V.p0,V.p1,jKJ]
  clear hM';have b1:=qG (F:=F) f1;have b2:=qG (F:=F) f2;have b3:=qG (F:=F) f3;refine iQ (xVX v n F M' r ra rb) 2 ?_ ?_
  ·exact ⟨rfl,rfl,by simp only [go_sem],by simp only [go_sem],by simp only [go_sem],by simp only [go_sem],.inl ⟨rfl,by simp only [go_sem]⟩⟩
  ·rintro m σ F'' M'' ⟨rfl,rfl,h1,h2,h5,h6,h7⟩;rcases h7 with ⟨rfl,h7⟩ | ⟨rfl,h7,t0⟩ | ⟨rfl,h7,t0,t1⟩
   ·simp only [go_sem,b2,b3,h1,h5,h6,h7];by_cases a1:v.p0.2 < mx n v.p0.1
    ·simp only [go_sem,h7,a1];have t0:v.fU n v.p0=none:=by simp [V.fU,a1]
     exact ⟨1,by omega,rfl,rfl,by simp only [go_sem,h1],by simp only [go_sem,h2],by simp only [go_sem,h5],by simp only [go_sem,h6],by simp only [go_sem,t0]⟩
    ·simp only [go_sem,b1,b2,h1,h2,h5,h7,a1];refine qQ (xXX _ _ v (mx n v.p0.1) hw) ?_;by_cases a2:0<=v.jG (mx n v.p0.1)
     ·simp only [go_sem,b3,h6,h7,a2];by_cases a3:v.jG (mx n v.p0.1)<=v.p0.2
      ·simp only [go_sem,a3];have q:v.fU n v.p0=some (v.jG (mx n v.p0.1)):=by simp [V.fU,a1,a2,a3]
       exact ⟨_,_,hk,by simp [V.wG,hc,q],rfl,rfl⟩
      ·simp only [go_sem,h7,a3];have t0:v.fU n v.p0=none:=by simp [V.fU,a1,a2,a3]
       exact ⟨1,by omega,rfl,rfl,by simp only [go_sem,h1],by simp only [go_sem,h2],by simp only [go_sem,h5],by simp only [go_sem,h6],by simp only [go_sem,t0]⟩
     ·simp only [go_sem,h7,a2];have t0:v.fU n v.p0=none:=by simp [V.fU,a1,a2]
      exact ⟨1,by omega,rfl,rfl,by simp only [go_sem,h1],by simp only [go_sem,h2],by simp only [go_sem,h5],by simp only [go_sem,h6],by simp only [go_sem,t0]⟩
   ·simp only [go_sem,b2,b3,h1,h5,h6,h7];by_cases a1:v.p1.2 < mx n v.p1.1
    ·simp only [go_sem,h7,a1];have t1:v.fU n v.p1=none:=by simp [V.fU,a1]
     exact ⟨0,by omega,rfl,rfl,by simp only [go_sem,h1],by simp only [go_sem,h2],by simp only [go_sem,h5],by simp only [go_sem,h6],by simp only [go_sem,t1,t0]⟩
    ·simp only [go_sem,b1,b2,h1,h2,h5,h7,a1];refine qQ (xXX _ _ v (mx n v.p1.1) hw) ?_;by_cases a2:0<=v.jG (mx n v.p1.1)
     ·simp only [go_sem,b3,h6,h7,a2];by_cases a3:v.jG (mx n v.p1.1)<=v.p1.2
      ·simp only [go_sem,a3];have q:v.fU n v.p1=some (v.jG (mx n v.p1.1)):=by simp [V.fU,a1,a2,a3]
       exact ⟨_,_,hk,by simp [V.wG,hc,q,t0],rfl,rfl⟩
      ·simp only [go_sem,h7,a3];have t1:v.fU n v.p1=none:=by simp [V.fU,a1,a2,a3]
       exact ⟨0,by omega,rfl,rfl,by simp only [go_sem,h1],by simp only [go_sem,h2],by simp only [go_sem,h5],by simp only [go_sem,h6],by simp only [go_sem,t1,t0]⟩
     ·simp only [go_sem,h7,a2];have t1:v.fU n v.p1=none:=by simp [V.fU,a1,a2]
      exact ⟨0,by omega,rfl,rfl,by simp only [go_sem,h1],by simp only [go_sem,h2],by simp only [go_sem,h5],by simp only [go_sem,h6],by simp only [go_sem,t1,t0]⟩
   ·simp only [go_sem,h7];exact ⟨_,_,hk,by simp [V.wG,hc,t0,t1],rfl,rfl⟩
 ·have jKJ:v.low<=v.high:=by omega
  intro ra hFa hMa;have ga:=yZ hMa;simp only [go_sem,ga];intro rb uK lW;have gb:=yZ lW;have gb':=yZ gb.2.2;simp only [go_sem,ga,gb',hlh];have hk:Wk F (((M.upd r ⟨v.cs,94,6⟩).upd ra ⟨[.int .i64 v.low,.int .i64 0],3,2⟩).upd rb ⟨[.int .i64 v.high,.int .i64 (-1)],3,2⟩) F M:=(Wk.drop lW).trans ((Wk.drop hMa).trans (Wk.drop hM));generalize hM':((M.upd r ⟨v.cs,94,6⟩).upd ra ⟨[.int .i64 v.low,.int .i64 0],3,2⟩).upd rb ⟨[.int .i64 v.high,.int .i64 (-1)],3,2⟩=M' at *;have f1:M' r=some ⟨v.cs,94,6⟩:=by subst hM'; simp only [go_sem,ga,gb']
  have f2:M' ra=some ⟨[.int .i64 v.p0.1,.int .i64 v.p1.1],3,2⟩:=by subst hM'; simp only [go_sem,gb,V.p0,V.p1,jKJ]
  have f3:M' rb=some ⟨[.int .i64 v.p0.2,.int .i64 v.p1.2],3,2⟩:=by subst hM'; simp only [go_sem,V.p0,V.p1,jKJ]
  clear hM';have b1:=qG (F:=F) f1;have b2:=qG (F:=F) f2;have b3:=qG (F:=F) f3;refine iQ (xVX v n F M' r ra rb) 2 ?_ ?_
  ·exact ⟨rfl,rfl,by simp only [go_sem],by simp only [go_sem],by simp only [go_sem],by simp only [go_sem],.inl ⟨rfl,by simp only [go_sem]⟩⟩
  ·rintro m σ F'' M'' ⟨rfl,rfl,h1,h2,h5,h6,h7⟩;rcases h7 with ⟨rfl,h7⟩ | ⟨rfl,h7,t0⟩ | ⟨rfl,h7,t0,t1⟩
   ·simp only [go_sem,b2,b3,h1,h5,h6,h7];by_cases a1:v.p0.2 < mx n v.p0.1
    ·simp only [go_sem,h7,a1];have t0:v.fU n v.p0=none:=by simp [V.fU,a1]
     exact ⟨1,by omega,rfl,rfl,by simp only [go_sem,h1],by simp only [go_sem,h2],by simp only [go_sem,h5],by simp only [go_sem,h6],by simp only [go_sem,t0]⟩
    ·simp only [go_sem,b1,b2,h1,h2,h5,h7,a1];refine qQ (xXX _ _ v (mx n v.p0.1) hw) ?_;by_cases a2:0<=v.jG (mx n v.p0.1)
     ·simp only [go_sem,b3,h6,h7,a2];by_cases a3:v.jG (mx n v.p0.1)<=v.p0.2
      ·simp only [go_sem,a3];have q:v.fU n v.p0=some (v.jG (mx n v.p0.1)):=by simp [V.fU,a1,a2,a3]
       exact ⟨_,_,hk,by simp [V.wG,hc,q],rfl,rfl⟩
      ·simp only [go_sem,h7,a3];have t0:v.fU n v.p0=none:=by simp [V.fU,a1,a2,a3]
       exact ⟨1,by omega,rfl,rfl,by simp only [go_sem,h1],by simp only [go_sem,h2],by simp only [go_sem,h5],by simp only [go_sem,h6],by simp only [go_sem,t0]⟩
     ·simp only [go_sem,h7,a2];have t0:v.fU n v.p0=none:=by simp [V.fU,a1,a2]
      exact ⟨1,by omega,rfl,rfl,by simp only [go_sem,h1],by simp only [go_sem,h2],by simp only [go_sem,h5],by simp only [go_sem,h6],by simp only [go_sem,t0]⟩
   ·simp only [go_sem,b2,b3,h1,h5,h6,h7];by_cases a1:v.p1.2 < mx n v.p1.1
    ·simp only [go_sem,h7,a1];have t1:v.fU n v.p1=none:=by simp [V.fU,a1]
     exact ⟨0,by omega,rfl,rfl,by simp only [go_sem,h1],by simp only [go_sem,h2],by simp only [go_sem,h5],by simp only [go_sem,h6],by simp only [go_sem,t1,t0]⟩
    ·simp only [go_sem,b1,b2,h1,h2,h5,h7,a1];refine qQ (xXX _ _ v (mx n v.p1.1) hw) ?_;by_cases a2:0<=v.jG (mx n v.p1.1)
     ·simp only [go_sem,b3,h6,h7,a2];by_cases a3:v.jG (mx n v.p1.1)<=v.p1.2
      ·simp only [go_sem,a3];have q:v.fU n v.p1=some (v.jG (mx n v.p1.1)):=by simp [V.fU,a1,a2,a3]
       exact ⟨_,_,hk,by simp [V.wG,hc,q,t0],rfl,rfl⟩
      ·simp only [go_sem,h7,a3];have t1:v.fU n v.p1=none:=by simp [V.fU,a1,a2,a3]
       exact ⟨0,by omega,rfl,rfl,by simp only [go_sem,h1],by simp only [go_sem,h2],by simp only [go_sem,h5],by simp only [go_sem,h6],by simp only [go_sem,t1,t0]⟩
     ·simp only [go_sem,h7,a2];have t1:v.fU n v.p1=none:=by simp [V.fU,a1,a2]
      exact ⟨0,by omega,rfl,rfl,by simp only [go_sem,h1],by simp only [go_sem,h2],by simp only [go_sem,h5],by simp only [go_sem,h6],by simp only [go_sem,t1,t0]⟩
   ·simp only [go_sem,h7];exact ⟨_,_,hk,by simp [V.wG,hc,t0,t1],rfl,rfl⟩
def yGV (v:V):Value:=.tuple #[.int .i64 (v.wG 0),.bool (decide (0<=v.wG 0) && decide (v.wG (v.wG 0+1) < 0))]
theorem zKY (v:V)(hv:v.ok=true):aI prog 157 [v.val] F M (Same F M (yGV v)):=by
 refine qZ hm func157 kZC (aA rfl) ?_;have hl:=jJ (yZQ hv);have hn:=qYW hv 0;have hm:=qA hl.2;have e1:i64.wrap (v.wG 0+1)=v.wG 0+1:=dQ (by omega) (by omega);simp only [c157,go_sem];intro r hF hM;simp only [go_sem];refine qQ (zKH F _ v 0 hl.1 hl.2) ?_;simp only [go_sem];by_cases h0:0<=v.wG 0
 ·simp only [go_sem,h0,e1];refine qQ (zKH F _ v (v.wG 0+1) hl.1 hl.2) ?_;simp only [go_sem];exact qH hM (qW ⟨by simp [yGV,h0],rfl,rfl⟩)
 ·simp only [go_sem,h0];exact qH hM (qW ⟨by simp [yGV,h0],rfl,rfl⟩)
def dV (v:V)(n:Int):Value:=if v.ok && nN n v.w then (if v.wG n < 0 then .tuple #[.int .i64 0,.int .i64 3] else .tuple #[.int .i64 (v.wG n),.int .i64 0]) else .tuple #[.int .i64 0,.int .i64 1]
def kGJ (v:V)(most:Nat)(F:Fz)(M:Hp)(r:Nat)(m:Nat)(σ:Env)(F':Fz)(M':Hp):Prop:=
 F'=F/\Keep M M'/\M' r=some ⟨v.cs,94,6⟩/\Ax.look σ 1=some (.int .i64 most)/\Ax.look σ 2=some (.pointer (some ⟨r,0,none⟩))/\
 ∃(l:List Int) (p:Int),l.length+m=most+1/\0 < m/\l++v.mem m p=v.members most/\Ax.look σ 6=some (.int .i64 (v.wG p))/\
  (l=[]/\Ax.look σ 4=some (.slice none 0 0)\/∃g cap,F g=none/\M g=none/\Ax.look σ 4=some (.slice (some ⟨g,0,none⟩) l.length cap)/\M' g=some ⟨l.map oZ,3,cap * 1⟩/\l.length<=cap/\cap<=maxLen)
def vX (v:V)(most:Nat)(F:Fz)(M:Hp)(u:Value)(F':Fz)(M':Hp):Prop:=
 F'=F/\((v.members most).length<=most/\((v.members most=[]/\u=.tuple #[.slice none 0 0,.bool true]/\M'=M)\/
   ∃g cap,F g=none/\M g=none/\u=.tuple #[.slice (some ⟨g,0,none⟩) (v.members most).length cap,.bool true]/\M'=M.upd g ⟨(v.members most).map oZ,3,cap * 1⟩)\/
  (most < (v.members most).length/\u=.tuple #[.slice none 0 0,.bool false]/\M'=M))
theorem kGG (v:V)(most:Nat)(hv:v.ok=true)(hmost:most<=1000):aI prog 218 [v.val,.int .i64 most] F M (vX v most F M):=by
 refine qZ hm func218 kJY (aA rfl) ?_;have hl:=jJ (yZQ hv);have hmo:=qA hl.2;simp only [c218,go_sem];intro r hF hM;simp only [go_sem];refine qQ (vWV F _ v 0 hv) ?_;simp only [go_sem];refine iQ (kGJ v most F M r) (most+1) ?_ ?_
 ·exact ⟨rfl,(Keep.refl M).new hM,Hp.qV _ _ _,by simp only [go_sem],by simp only [go_sem],[],0,by simp,by omega,rfl,by simp only [go_sem],.inl ⟨rfl,by simp only [go_sem]⟩⟩
 ·rintro m σ F' M' ⟨rfl,hk,f1,h1,h2,l,p,hlm,hm0,hlp,h6,h4⟩;have b1:=qG (F:=F') f1;have hp:=qYW hv p;obtain ⟨m,rfl⟩:∃k,m=k+1:=⟨m - 1,by omega⟩
  by_cases hn:0<=v.wG p
  ·have hn':¬v.wG p < 0:=by omega
   have hmem:v.mem (m+1) p=v.wG p :: v.mem m (v.wG p+1):=by rw [V.mem,if_neg hn']
   have e1:i64.wrap (v.wG p+1)=v.wG p+1:=dQ (by omega) (by omega);rcases h4 with ⟨hl0,h4⟩ | ⟨g,cap,hFg,yF,h4,f4,hc1,hc2⟩
   ·have hll:l.length=0:=by rw [hl0]; rfl
    by_cases hfull:most=0
    ·subst hfull;simp only [go_sem,h1,h4,h6,hn,Int.cast_ofNat_Int];exact qX hk ⟨rfl,.inr ⟨by rw [<-hlp,hl0,hmem]; simp,rfl,rfl⟩⟩
    ·have hfull:¬(0:Int)=most:=by omega
     simp only [go_sem,h1,h4,h6,hn,hfull];intro r1 hF1 hM1;have g1:=qJ hM1 f1;simp only [go_sem];refine wJD (n:=l.length) (xs:=l.map oZ) (m:=1) (ys:=[v.wG p].map oZ) (by rw [hll,hl0]; exact ⟨rfl,.inl ⟨rfl,rfl⟩⟩) ⟨rfl,.inr ⟨⟨r1,0,none⟩,1,rfl,.inr ⟨r1,0,_,rfl,wH,rfl⟩⟩⟩ (qYX _) (by simp only [maxLen]; omega) (by omega) ?_;rintro v' M3 (⟨_,h0,_⟩ | ⟨g',cap',hg',rfl,hc3,hc4,rfl⟩)
     ·cases h0
     rw [<-bP];have hl3:(l++[v.wG p]).length=l.length+1:=by simp
     have key:F' g'=none/\M g'=none/\Keep M ((M'.upd r1 ⟨[.int .i64 (v.wG p)],3,1⟩).upd g' ⟨(l++[v.wG p]).map oZ,3,cap' * 1⟩)/\¬r=g':=by
      rcases hg' with ⟨c,hx⟩ | ⟨hx,hy⟩
      ·cases hx
      ·have hz:=(yZ hy)
       exact ⟨hx,hk.free hz.2.2,(hk.new (hk.free hM1)).new (hk.free hz.2.2),(qJ hz.2.2 f1).1⟩
     have hne:=key.2.2.2;have f3:((M'.upd r1 ⟨[.int .i64 (v.wG p)],3,1⟩).upd g' ⟨(l++[v.wG p]).map oZ,3,cap' * 1⟩) r=some ⟨v.cs,94,6⟩:=by
      rw [Hp.qK hne,Hp.qK g1.1]; exact f1
     have b3:=qG (F:=F') f3;simp only [go_sem,h2,h6,b3,e1];refine qQ (vWV F' _ v (v.wG p+1) hv) ?_;simp only [go_sem];have hm1:0 < m:=by omega
     exact ⟨m,by omega,rfl,key.2.2.1,f3,by simp only [go_sem,h1],by simp only [go_sem,h2],l++[v.wG p],v.wG p+1,by omega,hm1,by rw [fG,List.singleton_append,<-hmem]; exact hlp,by simp only [go_sem],
      .inr ⟨g',cap',key.1,key.2.1,by simp only [go_sem,hl3],Hp.qV _ _ _,by omega,hc4⟩⟩
   ·by_cases hfull:l.length=most
    ·simp only [go_sem,h1,h4,h6,hn,hfull];exact qX hk ⟨rfl,.inr ⟨by rw [<-hlp,hmem]; simp; omega,rfl,rfl⟩⟩
    ·have hfull:¬(l.length:Int)=most:=by omega
     have hrg:¬(some ⟨v.cs,94,6⟩:Option nH)=some ⟨l.map oZ,3,cap * 1⟩:=by
      intro e;have:=congrArg (fun x=>x.map (·.elem)) e;simp at this
     simp only [go_sem,h1,h4,h6,hn,hfull];intro r1 hF1 hM1;have g1:=qJ hM1 f1;simp only [go_sem];refine wJD (n:=l.length) (xs:=l.map oZ) (m:=1) (ys:=[v.wG p].map oZ) ⟨by simp,.inr ⟨g,cap,rfl,(Hp.upd_ne (qJ hM1 f4).1).trans f4,hc1,hc2⟩⟩ ⟨rfl,.inr ⟨⟨r1,0,none⟩,1,rfl,.inr ⟨r1,0,_,rfl,wH,rfl⟩⟩⟩ (qYX _) (by simp only [maxLen]; omega) (by omega) ?_;rintro v' M3 (⟨_,h0,_⟩ | ⟨g',cap',hg',rfl,hc3,hc4,rfl⟩)
     ·cases h0
     rw [<-bP];have hl3:(l++[v.wG p]).length=l.length+1:=by simp
     have key:F' g'=none/\M g'=none/\Keep M ((M'.upd r1 ⟨[.int .i64 (v.wG p)],3,1⟩).upd g' ⟨(l++[v.wG p]).map oZ,3,cap' * 1⟩)/\¬r=g':=by
      rcases hg' with ⟨c,hx⟩ | ⟨hx,hy⟩
      ·cases hx;refine ⟨hFg,yF,(hk.new (hk.free hM1)).new yF,?_⟩;rintro rfl;rw [f1] at f4;exact hrg f4
      ·have hz:=(yZ hy)
       exact ⟨hx,hk.free hz.2.2,(hk.new (hk.free hM1)).new (hk.free hz.2.2),(qJ hz.2.2 f1).1⟩
     have hne:=key.2.2.2;have f3:((M'.upd r1 ⟨[.int .i64 (v.wG p)],3,1⟩).upd g' ⟨(l++[v.wG p]).map oZ,3,cap' * 1⟩) r=some ⟨v.cs,94,6⟩:=by
      rw [Hp.qK hne,Hp.qK g1.1]; exact f1
     have b3:=qG (F:=F') f3;simp only [go_sem,h2,h6,b3,e1];refine qQ (vWV F' _ v (v.wG p+1) hv) ?_;simp only [go_sem];have hm1:0 < m:=by omega
     exact ⟨m,by omega,rfl,key.2.2.1,f3,by simp only [go_sem,h1],by simp only [go_sem,h2],l++[v.wG p],v.wG p+1,by omega,hm1,by rw [fG,List.singleton_append,<-hmem]; exact hlp,by simp only [go_sem],
      .inr ⟨g',cap',key.1,key.2.1,by simp only [go_sem,hl3],Hp.qV _ _ _,by omega,hc4⟩⟩
  ·have hn':v.wG p < 0:=by omega
   have hmem:v.mem (m+1) p=[]:=by rw [V.mem,if_pos hn']
   rw [hmem,fA] at hlp;subst hlp;rcases h4 with ⟨h0,h4⟩ | ⟨g,cap,hFg,yF,h4,f4,hc1,hc2⟩
   ·simp only [go_sem,h4,h6,hn];exact qX hk ⟨rfl,.inl ⟨by omega,.inl ⟨h0,rfl,rfl⟩⟩⟩
   ·simp only [go_sem,h4,h6,hn];exact qX (hk.one f4) ⟨rfl,.inl ⟨by omega,.inr ⟨g,cap,hFg,yF,rfl,rfl⟩⟩⟩
def qVQ (v:V):Value:=.tuple #[.int .i64 (if v.is1 then v.wG 0 else 0),.bool v.is1]
theorem kGV (v:V)(hv:v.ok=true):aI prog 206 [v.val] F M (Same F M (qVQ v)):=by
 refine qZ hm func206 e206 (aA rfl) ?_;simp only [c206,go_sem];intro r hF hM;simp only [go_sem];refine wW (kGG F _ v 1 hv (by omega)) ?_;rintro u G M' ⟨hG,⟨hlen,⟨hnil,rfl,rfl⟩ | ⟨g,cap,hFg,yF,rfl,rfl⟩⟩ | ⟨hlen,rfl,rfl⟩⟩ <;> rw [hG] <;> refine ⟨(fun h=>by cases h),?_⟩
 ·have e:v.is1=false:=by
   rw [V.zU] at hnil;split at hnil
   ·simp [V.is1]; omega
   ·cases hnil
  simp only [go_sem];exact qH hM (qW ⟨by simp [qVQ,e],rfl,rfl⟩)
 ·by_cases hx:v.wG 0 < 0
  ·have e:v.is1=false:=by simp [V.is1]; omega
   have hm:v.members 1=[]:=by rw [V.zU,if_pos hx]
   simp only [hm,go_sem];exact qH yF (qH hM (qW ⟨by simp [qVQ,e],rfl,rfl⟩))
  ·by_cases hy:v.wG (v.wG 0+1) < 0
   ·have e:v.is1=true:=by simp [V.is1,hy]; omega
    have hm:v.members 1=[v.wG 0]:=by rw [V.zU,if_neg hx,if_pos hy]
    simp only [hm,go_sem,List.map_cons,List.map_nil,oZ];exact qH yF (qH hM (qW ⟨by simp [qVQ,e],rfl,rfl⟩))
   ·rw [V.zU,if_neg hx,if_neg hy] at hlen;simp at hlen
 ·have e:v.is1=false:=by
   rw [V.zU] at hlen;split at hlen
   ·simp at hlen
   ·split at hlen
    ·simp at hlen
    ·rename_i hy;simp [V.is1,hy]
  simp only [go_sem];exact qH hM (qW ⟨by simp [qVQ,e],rfl,rfl⟩)
theorem tH (v:V):yGV v=.tuple #[.int .i64 (v.wG 0),.bool v.is1]:=rfl
end Go.Proofs.Tryz.K
namespace Go.Ax
open Go
set_option linter.unusedVariables false
set_option linter.unusedSimpArgs false
theorem jKG:∀(w n y:Nat),n < y->y < 2 ^ w->∃j,j < w/\n.testBit j=false/\y.testBit j=true/\∀i,j < i->n.testBit i=y.testBit i
 | 0,n,y,h,hy=>by simp at hy; omega
 | w+1,n,y,h,hy=>by
  by_cases hh:n / 2 < y / 2
  ·obtain ⟨j,h1,h2,h3,h4⟩:=jKG w (n / 2) (y / 2) hh (by rw [Nat.pow_succ] at hy; omega);refine ⟨j+1,by omega,by rw [gB]; exact h2,by rw [gB]; exact h3,fun i hi=>?_⟩;obtain ⟨k,rfl⟩:∃k,i=k+1:=⟨i - 1,by omega⟩
   rw [gB,gB];exact h4 k (by omega)
  ·refine ⟨0,by omega,?_,?_,fun i hi=>?_⟩
   ·rw [Nat.testBit_zero]; simp; omega
   ·rw [Nat.testBit_zero]; simp; omega
   ·obtain ⟨k,rfl⟩:∃k,i=k+1:=⟨i - 1,by omega⟩
    rw [gB,gB,show n / 2=y / 2 by omega]
theorem qKF:∀(j n y:Nat),n.testBit j=false->y.testBit j=true->(∀i,j < i->n.testBit i=y.testBit i)->n < y
 | 0,n,y,h1,h2,h3=>by
  have e:n / 2=y / 2:=by
   apply fJ;intro i;rw [<-gB,<-gB];exact h3 (i+1) (by omega)
  rw [Nat.testBit_zero] at h1 h2;simp at h1 h2;omega
 | j+1,n,y,h1,h2,h3=>by
  rw [gB] at h1 h2;have:=qKF j (n / 2) (y / 2) h1 h2 (fun i hi=>by rw [<-gB,<-gB]; exact h3 (i+1) (by omega));omega
theorem yZX {x y:Nat}(h:∀i,x.testBit i=true->y.testBit i=true):x<=y:=by
 have e:x &&& y=x:=by
  apply fJ;intro i;rw [Nat.testBit_and];cases hx:x.testBit i
  ·rfl
  ·rw [h i hx]; rfl
 rw [<-e];exact Nat.and_le_right
def qVW (b n j:Nat):Nat:=((n >>> (j+1)) <<< (j+1) ||| 2 ^ j) ||| (b &&& (2 ^ j - 1))
theorem vG (b n j i:Nat):(qVW b n j).testBit i=if j < i then n.testBit i else if j=i then true else b.testBit i:=by
 simp only [qVW,Nat.testBit_or,Nat.testBit_and,Nat.testBit_two_pow_sub_one,iT,Nat.testBit_shiftLeft,Nat.testBit_shiftRight];by_cases h1:j < i
 ·simp [h1,show ¬j=i by omega,show ¬i < j by omega,show j+1<=i by omega,show j+1+(i - (j+1))=i by omega]
 ·by_cases h2:j=i
  ·simp [h2]
  ·simp [h1,h2,show i < j by omega,show ¬j+1<=i by omega]
def fits (f b x:Nat):Prop:=clr x f=b
theorem qYG {f b x:Nat}(h:fits f b x)(i:Nat):(x.testBit i && !f.testBit i)=b.testBit i:=by
 rw [<-qN]; exact congrArg (fun y=>y.testBit i) h
section
variable {f b:Nat} (hbf:b &&& f=0)
include hbf
theorem qJQ (i:Nat)(h:b.testBit i=true):f.testBit i=false:=by
 have:=congrArg (fun y=>y.testBit i) hbf;simp only [Nat.testBit_and,h,bQ,Nat.zero_testBit] at this;exact this
theorem yGH {n j x:Nat}(h:mS f b n j=some x):x=qVW b n j/\fits f b x/\n < x:=by
 unfold mS at h;split at h
 ·rename_i hc;obtain ⟨h1,h2,h3⟩:=hc;have e:x=qVW b n j:=by simpa [qVW] using h.symm
  rw [qZD] at h1;refine ⟨e,?_,?_⟩
  ·apply fJ;intro i;rw [qN,e,vG];by_cases g1:j < i
   ·have:=h1 i (by omega);simp only [Nat.testBit_xor,qN] at this;simp [g1];revert this;cases (n.testBit i && !f.testBit i) <;> cases b.testBit i <;> simp
   ·by_cases g2:j=i
    ·subst g2;simp;rcases h3 with h3 | h3
     ·cases hb:b.testBit j
      ·simp [h3]
      ·rw [qJQ hbf j hb] at h3; cases h3
     ·rw [h3,qJQ hbf j h3]; rfl
    ·simp [g1,g2];exact qJQ hbf i
  ·refine qKF j n x h2 ?_ ?_
   ·rw [e,vG]; simp
   ·intro i hi;rw [e,vG]; simp [hi]
 ·cases h
omit hbf in
theorem qYV {n y w:Nat}(hy:fits f b y)(hn:n < y)(hw:y < 2 ^ w):∃j,j < w/\mS f b n j=some (qVW b n j)/\qVW b n j<=y/\n.testBit j=false/\y.testBit j=true/\∀i,j < i->n.testBit i=y.testBit i:=by
 obtain ⟨j,h1,h2,h3,h4⟩:=jKG w n y hn hw;refine ⟨j,h1,?_,?_,h2,h3,h4⟩
 ·unfold mS;rw [if_pos]
  ·rfl
  ·refine ⟨qZD.2 fun i hi=>?_,h2,?_⟩
   ·have:=qYG hy i;rw [<-h4 i (by omega)] at this;rw [Nat.testBit_xor,qN,this]; simp
   ·have:=qYG hy j;rw [h3] at this;cases hf:f.testBit j
    ·right; rw [hf] at this; simpa using this.symm
    ·left; rfl
 ·apply yZX;intro i hi;rw [vG] at hi;by_cases g1:j < i
  ·rw [if_pos g1,h4 i g1] at hi; exact hi
  ·by_cases g2:j=i
   ·subst g2; exact h3
   ·rw [if_neg g1,if_neg g2] at hi;have:=qYG hy i;rw [hi] at this;revert this;cases y.testBit i <;> simp
theorem yYD {n y j j' x:Nat}(h:mS f b n j=some x)(hj:j < j')(h2:n.testBit j'=false)(h3:y.testBit j'=true)(h4:∀i,j' < i->n.testBit i=y.testBit i):x < y:=by
 obtain ⟨e,_,_⟩:=yGH hbf h;refine qKF j' x y ?_ h3 ?_
 ·rw [e,vG,if_pos hj]; exact h2
 ·intro i hi;rw [e,vG,if_pos (by omega)]; exact h4 i hi
end
theorem qZY {v:V}{f b n:Nat}(hf:v.free=f)(hb:v.bits=b)(f1:f < 2 ^ 62)(b1:b < 2 ^ 62)(n1:n < 2 ^ 62):∀m j:Nat,m+j<=62->
  (∃(x i:Nat),v.uV n m j=x/\j<=i/\i < m+j/\mS f b n i=some x/\∀k,j<=k->k < i->mS f b n k=none)\/(v.uV n m j = -1/\∀k,j<=k->k < m+j->mS f b n k=none)
 | 0,j,_=>.inr ⟨rfl,fun k h1 h2=>by omega⟩
 | m+1,j,h=>by
  simp only [V.uV];rw [qWD hf hb f1 b1 n1 (by omega)];cases hs:mS f b n j with
  | some x=>exact .inl ⟨x,j,rfl,aN _,by omega,hs,fun k h1 h2=>by omega⟩
  | none=>
   rcases qZY hf hb f1 b1 n1 m (j+1) (by omega) with ⟨x,i,h1,h2,h3,h4,h5⟩ | ⟨h1,h2⟩
   ·refine .inl ⟨x,i,h1,by omega,by omega,h4,fun k g1 g2=>?_⟩;by_cases e:k=j
    ·subst e; exact hs
    ·exact h5 k (by omega) g2
   ·refine .inr ⟨h1,fun k g1 g2=>?_⟩;by_cases e:k=j
    ·subst e; exact hs
    ·exact h2 k (by omega) (by omega)
theorem qVX {v:V}{f b n:Nat}(hf:v.free=f)(hb:v.bits=b)(hw:v.w.toNat<=62)(f1:f < 2 ^ v.w.toNat)(b1:b < 2 ^ v.w.toNat)(hbf:b &&& f=0)(n1:n < 2 ^ v.w.toNat) :
  (∃x:Nat,v.jG n=x/\n<=x/\fits f b x/\∀y,n<=y->y < x->¬fits f b y)\/(v.jG n = -1/\∀y,n<=y->y < 2 ^ v.w.toNat->¬fits f b y):=by
 have hp:2 ^ v.w.toNat<=2 ^ 62:=Nat.pow_le_pow_right (by decide) hw;unfold V.jG;rw [hf,hb,qO (by omega) (by omega)];by_cases h0:clr n f=b
 ·rw [if_pos (by rw [h0])];exact .inl ⟨n,rfl,aN _,h0,fun y h1 h2=>by omega⟩
 ·rw [if_neg (fun e=>h0 (Int.ofNat_inj.1 e))];rcases qZY (n:=n) hf hb (by omega) (by omega) (by omega) v.w.toNat 0 (by omega) with ⟨x,i,h1,h2,h3,h4,h5⟩ | ⟨h1,h2⟩
  ·obtain ⟨e,hx,hlt⟩:=yGH hbf h4;refine .inl ⟨x,h1,by omega,hx,fun y g1 g2 hy=>?_⟩;have gy:n < y:=by
    rcases Nat.lt_or_ge n y with h | h
    ·exact h
    ·have:n=y:=by omega
     subst this; exact absurd hy h0
   have x62:x < 2 ^ 62:=by
    rw [e,qVW];have p1:2 ^ i < 2 ^ 62:=Nat.pow_lt_pow_right (by decide) (by omega);exact Nat.or_lt_two_pow (Nat.or_lt_two_pow (dI (qYZ n (i+1)) (by omega)) p1) (dI Nat.and_le_left (by omega))
   obtain ⟨j,k1,k2,k3,k4,k5,k6⟩:=qYV hy gy (w:=62) (by omega);by_cases hji:j < i
   ·rw [h5 j (by omega) hji] at k2; cases k2
   ·by_cases e2:j=i
    ·subst e2; rw [<-e] at k3; omega
    ·have:=yYD hbf h4 (by omega) k4 k5 k6;omega
  ·refine .inr ⟨h1,fun y g1 g2 hy=>?_⟩;have gy:n < y:=by
    rcases Nat.lt_or_ge n y with h | h
    ·exact h
    ·have:n=y:=by omega
     subst this; exact absurd hy h0
   obtain ⟨j,k1,k2,_⟩:=qYV hy gy g2;rw [h2 j (by omega) (by omega)] at k2; cases k2
end Go.Ax
namespace Go.Ax
open Go
def inP (p:Int × Int)(y:Int):Prop:=p.1<=y/\y<=p.2
theorem within_iff {v:V}{y:Int}(h0:0<=y)(h1:y<=wD v.w):v.within y=true↔inP v.p0 y\/inP v.p1 y:=by
 unfold V.within V.p0 V.p1 inP;split
 ·simp; omega
 ·simp; omega
theorem wZG {v:V}{f b:Nat}(hf:v.free=f)(hb:v.bits=b)(hw:v.w.toNat<=62)(f1:f < 2 ^ v.w.toNat)(b1:b < 2 ^ v.w.toNat)(hbf:b &&& f=0)
  {n:Int} {p:Int × Int} (hp:0<=p.1) (hp2:p.2 < ((2 ^ v.w.toNat:Nat):Int)) {x:Int} (h:v.fU n p=some x) :
  n<=x/\inP p x/\fits f b x.toNat/\∀y:Nat,n<=y->p.1<=y->(y:Int) < x->¬fits f b y:=by
 unfold V.fU at h;split at h
 ·cases h
 rename_i h1;split at h
 ·rename_i h2;have hm:mx n p.1=max n p.1:=by unfold mx; split <;> omega
  obtain ⟨k,hk⟩:∃k:Nat,mx n p.1=k:=⟨(mx n p.1).toNat,by omega⟩
  rw [hk] at h h1 h2;cases h;rcases qVX hf hb hw f1 b1 hbf (n:=k) (by omega) with ⟨z,e,g1,g2,g3⟩ | ⟨e,_⟩
  ·rw [e] at h2 ⊢;refine ⟨by omega,⟨by omega,h2.2⟩,by simpa using g2,fun y q1 q2 q3=>g3 y (by omega) (by omega)⟩
  ·rw [e] at h2; omega
 ·cases h
theorem wZV {v:V}{f b:Nat}(hf:v.free=f)(hb:v.bits=b)(hw:v.w.toNat<=62)(f1:f < 2 ^ v.w.toNat)(b1:b < 2 ^ v.w.toNat)(hbf:b &&& f=0)
  {n:Int} {p:Int × Int} (hp:0<=p.1) (hp2:p.2 < ((2 ^ v.w.toNat:Nat):Int)) (h:v.fU n p=none) :
  ∀y:Nat,n<=y->inP p y->¬fits f b y:=by
 intro y q1 ⟨q2,q3⟩ hy;have hm:mx n p.1=max n p.1:=by unfold mx; split <;> omega
 obtain ⟨k,hk⟩:∃k:Nat,mx n p.1=k:=⟨(mx n p.1).toNat,by omega⟩
 unfold V.fU at h;rw [hk] at h;rw [if_neg (by omega)] at h;rcases qVX hf hb hw f1 b1 hbf (n:=k) (by omega) with ⟨z,e,g1,g2,g3⟩ | ⟨e,g⟩
 ·have:z<=y:=by
   rcases Nat.lt_or_ge y z with h | h
   ·exact absurd hy (g3 y (by omega) h)
   ·exact h
  rw [e,if_pos ⟨by omega,by omega⟩] at h;cases h
 ·exact g y (by omega) (by omega) hy
theorem rZ {v:V}(h:v.ok=true){n:Int}(hn:0<=n) :
  (0<=v.wG n/\n<=v.wG n/\v.wG n<=wD v.w/\v.has (v.wG n)=true/\∀y,n<=y->y < v.wG n->v.has y=false)\/
  (v.wG n = -1/\∀y,n<=y->y<=wD v.w->v.has y=false):=by
 have hw:zS v.w=true:=by simp [V.ok] at h; exact h.1
 have hl:=jJ hw;have hle:=qYW h n;have hmn:=qQY (w:=v.w);have h6:1<=2 ^ v.w.toNat:=Nat.one_le_two_pow;cases hno:v.no;rotate_left
 ·exact .inr ⟨by simp [V.wG,hno],fun y _ _=>by simp [V.has,hno]⟩
 by_cases hbig:2 ^ v.w.toNat<=n
 ·refine .inr ⟨by simp [V.wG,hbig],fun y h1 h2=>?_⟩;unfold wD at h2; omega
 obtain ⟨l,g,f,b,e1,e2,e3,e4,g1,g2,g3,g4,hbf,hp⟩:=jKZ h hno;obtain ⟨i0,i1,i2,i3⟩:=wDX h hno;have xXZ:v.w.toNat<=62:=by omega
 have hle2:wD v.w < ((2 ^ v.w.toNat:Nat):Int):=by rw [hmn]; omega
 have key:∀y:Int,0<=y->y<=wD v.w->(v.has y=true↔fits f b y.toNat/\(inP v.p0 y\/inP v.p1 y)):=by
  intro y y0 y1;obtain ⟨k,rfl⟩:∃k:Nat,y=k:=⟨y.toNat,by omega⟩
  have hb2:uI .i64 (k:Int) v.free=((clr k f:Nat):Int):=by rw [e3,qO (by omega) (by omega)]
  rw [V.has,hno,hb2,e4];simp only [Bool.not_false,bQ,aC,decide_eq_true_eq,within_iff y0 y1,Int.ofNat_inj,aB,fits]
 have order:∀x y:Int,inP v.p0 x->inP v.p1 y->x < y:=by
  intro x y hx hy;unfold inP at hx hy;unfold V.p0 at hx;unfold V.p1 at hy;by_cases hlh:v.low<=v.high
  ·rw [if_pos hlh] at hx hy;simp only at hx hy;omega
  ·rw [if_neg hlh] at hx hy;simp only at hx hy;omega
 have hc:¬(v.no=true\/2 ^ v.w.toNat<=n):=by simp [hno]; omega
 have e:v.wG n=(v.fU n v.p0).getD ((v.fU n v.p1).getD (-1)):=by rw [V.wG,if_neg hc]
 have fin:∀x:Int,n<=x->x<=wD v.w->fits f b x.toNat->(inP v.p0 x\/inP v.p1 x)->(∀y:Nat,n<=y->(y:Int) < x->fits f b y->¬(inP v.p0 y\/inP v.p1 y))->
   0<=x/\n<=x/\x<=wD v.w/\v.has x=true/\∀y,n<=y->y < x->v.has y=false:=by
  intro x x1 x2 x3 x4 x5;refine ⟨by omega,x1,x2,(key x (by omega) x2).2 ⟨x3,x4⟩,fun y y1 y2=>?_⟩;cases hy:v.has y
  ·rfl
  ·obtain ⟨q1,q2⟩:=(key y (by omega) (by omega)).1 hy;have hyy:((y.toNat:Nat):Int)=y:=by omega
   have:=x5 y.toNat (by omega) (by omega) q1;rw [hyy] at this;exact absurd q2 this
 cases t0:v.fU n v.p0 with
 | some x=>
  obtain ⟨q1,q2,q3,q4⟩:=wZG e3 e4 xXZ g3 g4 hbf i2.1 (by omega) t0;rw [e,t0];refine .inl (fin x q1 (by have:=q2.2; omega) q3 (.inl q2) fun y y1 y2 y3 y4=>?_);rcases y4 with y4 | y4
  ·exact q4 y y1 y4.1 y2 y3
  ·have:=order x y q2 y4;omega
 | none=>
  have n0:=wZV e3 e4 xXZ g3 g4 hbf i2.1 (by omega) t0;cases t1:v.fU n v.p1 with
  | some x=>
   obtain ⟨q1,q2,q3,q4⟩:=wZG e3 e4 xXZ g3 g4 hbf i3.1 (by omega) t1;rw [e,t0,t1];refine .inl (fin x q1 (by have:=q2.2; omega) q3 (.inr q2) fun y y1 y2 y3 y4=>?_);rcases y4 with y4 | y4
   ·exact n0 y y1 y4 y3
   ·exact q4 y y1 y4.1 y2 y3
  | none=>
   have n1:=wZV e3 e4 xXZ g3 g4 hbf i3.1 (by omega) t1;refine .inr ⟨by rw [e,t0,t1]; rfl,fun y y1 y2=>?_⟩;cases hy:v.has y
   ·rfl
   ·obtain ⟨q1,q2⟩:=(key y (by omega) (by omega)).1 hy;have hyy:((y.toNat:Nat):Int)=y:=by omega
    rcases q2 with q2 | q2
    ·exact absurd q1 (n0 y.toNat (by omega) (by rw [hyy]; exact q2))
    ·exact absurd q1 (n1 y.toNat (by omega) (by rw [hyy]; exact q2))
@[go_sem] theorem V.set4 {v:V} {x:Int}:v.cs.take 4++[.int .i64 x]++v.cs.drop 5=(V.mk v.w v.no v.low v.high x v.bits).cs:=rfl
@[go_sem] theorem V.set5 {v:V} {x:Int}:v.cs.take 5++[.int .i64 x]++v.cs.drop 6=(V.mk v.w v.no v.low v.high v.free x).cs:=rfl
@[go_sem] theorem V.set5' {v:V} {x:Int}:v.cs.take 5++[.int .i64 x]=(V.mk v.w v.no v.low v.high v.free x).cs:=rfl
theorem qJW (x:Int){k:Nat}(hk:k<=62):band .i64 x (2 ^ k - 1)=x % 2 ^ k:=by
 unfold band;have hp:=zKK hk;rw [show i64.bits=64 from rfl,wJB,mD (by omega),BitVec.toNat_and,mF (by omega),Nat.and_two_pow_sub_one_eq_mod,BitVec.toNat_ofInt];have e:((((x % ((2 ^ 64:Nat):Int)).toNat % 2 ^ k:Nat)):Int)=x % 2 ^ k:=by
  rw [Int.natCast_emod,Int.toNat_of_nonneg (Int.emod_nonneg _ (by decide)),qKE];exact Int.emod_emod_of_dvd _ (by exact Int.natCast_dvd_natCast.2 (Nat.pow_dvd_pow 2 (by omega)))
 rw [xJ (Nat.lt_trans (Nat.mod_lt _ (Nat.two_pow_pos k)) hp),e]
theorem qYH (x:Int){w:Int}(h1:w<=62):band .i64 x (wD w)=x % 2 ^ w.toNat:=qJW x (by omega)
@[go_sem] theorem V.kGH {v:V} {l:List Value}:(v.cs++l).take 6=v.cs:=rfl
@[go_sem] theorem V.kGD {v:V} {l:List Value}:(v.cs++l).drop 6=l:=rfl
@[go_sem] theorem V.kGY {v:V} {a b c d e f:Value}:(v.cs++[a,b,c,d,e,f]).drop 12=[]:=rfl
@[go_sem] theorem V.get6a {v:V} {u:Value}:(v.cs++[u])[6]? = some u:=rfl
@[go_sem] theorem V.zKA {v:V} {u:Value}:(v.cs++[u]).drop 7=[]:=rfl
@[go_sem] theorem V.wDZ {v:V} {u:Value}:(v.cs++[u]).take 7=v.cs++[u]:=rfl
@[go_sem] theorem yZZ {a b c d e f g:Value}:[a,b,c,d,e,f,g].drop 7=[]:=rfl
@[go_sem] theorem V.vVE {v:V} {l:List Value}:wQ (v.cs++l)=wQ l:=by
 apply propext;constructor
 ·intro h u hu; exact h u (List.mem_append_right _ hu)
 ·intro h u hu;rcases aW.1 hu with hu | hu
  ·exact (of_eq_true V.yD) u hu
  ·exact h u hu
attribute [go_sem] aO
structure V.In (v:V):Prop where
 w:zS v.w=true
 low:0<=v.low/\v.low<=wD v.w
 high:0<=v.high/\v.high<=wD v.w
 free:0<=v.free/\v.free<=wD v.w
 bits:0<=v.bits/\v.bits<=wD v.w
theorem zKB {v:V}(h:v.ok=true):v.In:=by
 have hw:zS v.w=true:=by simp [V.ok] at h; exact h.1
 have hm:=qA (jJ hw).2;cases hno:v.no
 ·simp [V.ok,hw,hno,nN] at h;exact ⟨hw,h.1.1.1.1,h.1.1.1.2,h.1.1.2,h.1.2⟩
 ·simp [V.ok,hw,hno] at h;have e1:v.low=0:=by rw [h]
  have e2:v.high=0:=by rw [h]
  have e3:v.free=0:=by rw [h]
  have e4:v.bits=0:=by rw [h]
  exact ⟨hw,by omega,by omega,by omega,by omega⟩
theorem V.In.big {v:V}(h:v.In):wD v.w+1=2 ^ v.w.toNat/\wD v.w<=4294967295/\255<=wD v.w:=by
 have:=h.w;simp [zS] at this;refine ⟨by unfold wD; omega,?_⟩;rcases this with (e | e) | e <;> rw [e] <;> decide
def V.tidy (v:V):V:=if v.wG 0 < 0 then V.nothing v.w else if v.is1 then V.just v.w (v.wG 0) else v
end Go.Ax
namespace Go.Proofs.Tryz.K
open Go Go.Ax Go.Proofs.Tryz.S
variable (F:Fz) (M:Hp)
theorem wDK (n w:Int)(h0:0<=w)(h1:w<=62):aI prog 181 [.int .i64 n,.int .i64 w] F M (Same F M (.int .i64 (n % 2 ^ w.toNat))):=by
 refine qZ hm func181 e181 (aA rfl) ?_;simp only [zWF,go_sem];refine qQ (jKX F _ w h0 h1) ?_;simp only [go_sem,qYH n h1];exact qW ⟨rfl,rfl,rfl⟩
end Go.Proofs.Tryz.K
namespace Go.Ax
open Go
theorem jKV {w x n:Int}(hn:0<=n)(hn2:n < 9223372036854775807):(V.just w x).has n=decide (n=x):=by
 have hb:uI .i64 n 0=n:=by
  obtain ⟨k,rfl⟩:∃k:Nat,n=k:=⟨n.toNat,by omega⟩
  have:=qO (a:=k) (b:=0) (by omega) (by decide);rw [wHC] at this;exact this
 unfold V.has V.within V.just;simp only [hb,Bool.not_false,bQ,Int.le_refl,if_true];by_cases e:n=x
 ·subst e; simp
 ·simp [e]
structure vWD (v t:V):Prop where
 ok:t.ok=true
 w:t.w=v.w
 has:∀n,0<=n->n<=wD v.w->t.has n=v.has n
theorem vVF {v:V}(h:v.ok=true):vWD v v.tidy:=by
 have hi:=zKB h;have hb:=hi.big;unfold V.tidy;split
 ·rename_i h0;refine ⟨gY hi.w,rfl,fun n h1 h2=>?_⟩;rcases rZ h (n:=0) (by omega) with ⟨g1,_⟩ | ⟨_,g⟩
  ·omega
  ·rw [g n h1 h2]; rfl
 ·rename_i h0;rcases rZ h (n:=0) (by omega) with ⟨g1,g2,g3,g4,g5⟩ | ⟨g,_⟩
  rotate_left
  ·omega
  split
  ·rename_i h1;have h1':v.wG (v.wG 0+1) < 0:=by simp [V.is1] at h1; exact h1.2
   refine ⟨vQ hi.w (by simp [nN]; omega),rfl,fun n q1 q2=>?_⟩;rw [jKV q1 (by omega)];rcases rZ h (n:=v.wG 0+1) (by omega) with ⟨k1,_⟩ | ⟨_,k⟩
   ·omega
   by_cases e:n=v.wG 0
   ·subst e; simp [g4]
   ·by_cases e2:n < v.wG 0
    ·rw [g5 n q1 e2]; simp [e]
    ·rw [k n (by omega) q2]; simp [e]
  ·exact ⟨h,rfl,fun _ _ _=>rfl⟩
theorem jKH {v:V}(h:v.ok=true)(h0:¬v.wG 0 < 0):0<=v.wG 0/\v.wG 0<=wD v.w/\v.has (v.wG 0)=true:=by
 rcases rZ h (n:=0) (by omega) with ⟨g,_,g2,g3,_⟩ | ⟨g,_⟩
 ·exact ⟨g,g2,g3⟩
 ·omega
theorem xXK {v:V}(hv:v.ok=true)(h:v.is1=true):0<=v.wG 0/\v.wG 0<=wD v.w/\v.has (v.wG 0)=true/\∀y,0<=y->y<=wD v.w->v.has y=true->y=v.wG 0:=by
 simp [V.is1] at h;obtain ⟨a1,a2,a3⟩:=jKH hv (by omega);refine ⟨a1,a2,a3,fun y h0 h1 hy=>?_⟩;rcases rZ hv (n:=0) (by omega) with ⟨g1,g2,g3,g4,g5⟩ | ⟨g1,_⟩
 ·by_cases e:y=v.wG 0
  ·exact e
  by_cases e2:y < v.wG 0
  ·rw [g5 y h0 e2] at hy; cases hy
  ·rcases rZ hv (n:=v.wG 0+1) (by omega) with ⟨k1,_⟩ | ⟨_,k⟩
   ·omega
   ·rw [k y (by omega) h1] at hy; cases hy
 ·omega
end Go.Ax
namespace Go.Proofs.Tryz.K
open Go Go.Ax Go.Proofs.Tryz.S
variable (F:Fz) (M:Hp)
theorem qZA (n w:Int)(h0:0<=w)(h1:w<=62):aI prog 126 [.int .i64 n,.int .i64 w] F M (Same F M (.int .i64 (n % 2 ^ w.toNat))):=by
 refine qZ hm func126 e126 (aA rfl) ?_;have:¬w < 0:=by omega
 simp only [zQK,go_sem,this,qXZ h0 h1,vF h0 h1,qYH n h1];exact qW ⟨rfl,rfl,rfl⟩
end Go.Proofs.Tryz.K
namespace Go.Ax
open Go
@[go_sem] theorem gGE {p:Nat->Prop} {a:Nat} {l:List Nat}:(∀t∈a :: l,p t)=(p a/\∀t∈l,p t):=by
 apply propext; simp
@[go_sem] theorem kGA {x y b:Nat}:(∃u,some (Value.pointer (some ⟨x,y,none⟩))=some u/\∀b' o',u=Value.pointer (some ⟨b',o',none⟩)->b'≠b) = ¬x=b:=by
 apply propext;constructor
 ·rintro ⟨u,h,hn⟩; cases h; exact hn x y rfl
 ·intro h; exact ⟨_,rfl,fun b' o' e=>by cases e; exact h⟩
@[go_sem] theorem zKC {b:Nat}:(∃u,some undef=some u/\∀b' o',u=Value.pointer (some ⟨b',o',none⟩)->b'≠b)=True:=by
 apply eq_true;exact ⟨_,rfl,fun b' o' e=>by cases e⟩
end Go.Ax
namespace Go.Ax
open Go
section
variable {P:Program} {s:Bool} {d:Option Nat} {l:List SO} {K:Env->Fz->Hp->Prop} {σ:Env} {F:Fz} {M:Hp} {c:SC} {Q:Post}
def yZK (I:Env->Fz->Hp->Prop)(Q:Post):Post
 | .n=>I
 | x=>Q x
@[go_sem] theorem cut_n {I:Env->Fz->Hp->Prop}:yZK I Q .n σ F M=I σ F M:=rfl
@[go_sem] theorem cut_r {I:Env->Fz->Hp->Prop}:yZK I Q .r σ F M=Q .r σ F M:=rfl
@[go_sem] theorem cut_e {I:Env->Fz->Hp->Prop} {i:Nat}:yZK I Q (.e i) σ F M=Q (.e i) σ F M:=rfl
theorem cut {a b:SC}(I:Env->Fz->Hp->Prop)(h:W P a (yZK I (Post.andThen (W P b Q) Q)) σ F M)(hn:∀σ F M,I σ F M->W P b Q σ F M):W P (.seq a b) Q σ F M:=by
 rw [vYJ];exact rX (fun x σ F M hx=>by
  cases x
  ·exact hn _ _ _ hx
  ·exact hx
  ·exact hx) h
end
end Go.Ax
namespace Go.Ax
open Go
theorem yYY {w:Int}(h:zS w=true):w=8\/w=16\/w=32:=by
 simp [zS] at h; omega
attribute [go_sem] Option.map_none
theorem yZJ {F:Fz}{M:Hp}{b r:Nat}{c:List Value}(h:blk F M b=some c)(hF:F r=none)(hM:M r=none):¬b=r:=by
 rintro rfl; simp [blk,hM,hF] at h
end Go.Ax
namespace Go.Proofs.Tryz.K
open Go Go.Ax Go.Proofs.Tryz.S
variable (F:Fz) (M:Hp)
theorem kGB {j:Int}(h1:0<=j)(h2:j<=62):qF .i64 (-1) j = -(2 ^ j.toNat):=by
 have hp:=qZH (w:=j) h2;unfold qF;have e:min j.toNat i64.bits=j.toNat:=by simp [IntKind.bits]; omega
 rw [e];have e2:(-1:Int) * ((2 ^ j.toNat:Int)) = -(2 ^ j.toNat):=by omega
 rw [e2];exact dQ (by omega) (by omega)
end Go.Proofs.Tryz.K
namespace Go.Ax
open Go
def isK (k:Int):Bool:=decide (1<=k) && decide (k<=6)
def iF (k:Int):Int:=if k<=2 then 8 else if k<=4 then 16 else 32
def wP (k:Int):Bool:=decide (k=2) || decide (k=4) || decide (k=6)
def wK (k:Int):Int:=if isK k then iF k else 0
def jR (w:Int):Int:=2 ^ (w - 1).toNat
def mO (n w:Int):Int:=if jR w<=n then n - 2 ^ w.toNat else n
def yX (k n:Int):Int:=if wP k then mO n (iF k) else n
def jH (k:Int):Int:=if wP k then -(jR (iF k)) else 0
def gH (k:Int):Int:=if wP k then jR (iF k) - 1 else wD (iF k)
theorem vH {k:Int}(h:isK k=true):k=1\/k=2\/k=3\/k=4\/k=5\/k=6:=by
 simp [isK] at h; omega
theorem jQ (k:Int):zS (iF k)=true:=by
 unfold iF; split
 ·rfl
 ·split <;> rfl
theorem zJ {w:Int}(h:zS w=true):w=8/\(2:Int) ^ w.toNat=256/\wD w=255/\jR w=128\/w=16/\(2:Int) ^ w.toNat=65536/\wD w=65535/\jR w=32768\/
  w=32/\(2:Int) ^ w.toNat=4294967296/\wD w=4294967295/\jR w=2147483648:=by
 rcases yYY h with rfl | rfl | rfl
 ·exact .inl (by decide)
 ·exact .inr (.inl (by decide))
 ·exact .inr (.inr (by decide))
theorem yI {k n:Int}(h0:0<=n)(h1:n<=wD (iF k)):jH k<=yX k n/\yX k n<=gH k:=by
 have:=zJ (jQ k);unfold jH gH yX mO;cases wP k
 ·simp; omega
 ·simp; split <;> omega
theorem jKD {k n m:Int}(h0:0<=n)(h1:n<=wD (iF k))(g0:0<=m)(g1:m<=wD (iF k))(h:yX k n=yX k m):n=m:=by
 have:=zJ (jQ k);unfold yX mO at h;cases hs:wP k
 ·rw [hs] at h; simpa using h
 ·rw [hs] at h; simp only [if_true] at h;split at h <;> split at h <;> omega
theorem wI {x w:Int}(hw:zS w=true):nN (x % 2 ^ w.toNat) w=true:=by
 have:=zJ hw;have h1:=Int.emod_nonneg x (b:=2 ^ w.toNat) (by omega);have h2:=Int.emod_lt_of_pos x (b:=2 ^ w.toNat) (by omega);unfold nN;simp only [aC,decide_eq_true_eq]; omega
structure SeenR (k:Int)(v:V)(lo hi:Int):Prop where
 all:∀n,0<=n->n<=wD v.w->v.has n=true->lo<=yX k n/\yX k n<=hi
 low:∃n,0<=n/\n<=wD v.w/\v.has n=true/\yX k n=lo
 high:∃n,0<=n/\n<=wD v.w/\v.has n=true/\yX k n=hi
end Go.Ax
