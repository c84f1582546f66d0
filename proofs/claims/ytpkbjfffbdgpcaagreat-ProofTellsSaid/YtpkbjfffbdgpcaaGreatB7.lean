/- Parts B7: the machine's runs of small codes, contracts of functions, plain facts. -/
import Derived.Test.YtpkbjfffbdgpcaaGreatB6
open Nat renaming add_zero->aK,le_of_ble_eq_true->aA,sub_self->fM,zero_add->aY
open Int renaming eq_ofNat_of_zero_le->aG,toNat_natCast->aB
open Bool renaming and_eq_false_iff->bI,and_eq_true->aC,eq_iff_iff->dG,or_eq_false_iff->dU,or_eq_true->dJ,true_and->bQ
open List renaming all_eq_true->bW,append_assoc->fG,getElem_mem->aH,getElem_of_mem->bZ,length_append->aO,length_cons->fF,length_map->bJ,length_replicate->bD,length_set->aZ,length_take->dW,map_append->bP,mem_append->aW,mem_cons->aQ,mem_singleton->aX,not_mem_nil->aV,replicate_succ->dS,take_of_length_le->aJ,take_succ_eq_append_getElem->aF
open Option renaming map_some->cZ
open Go.Proofs.Tryz
open Go.IntKind (i64)
set_option linter.unusedVariables false
set_option linter.unusedSimpArgs false
set_option maxRecDepth 100000
set_option maxHeartbeats 4000000
namespace Go.Ax
open Go
structure Gu where
 no:Bool
 num:V
 isv:V
 lA:Option Addr
 lC:Nat
 l:List Ba
def Gu.cs (s:Gu):List Value:=[.bool s.no,.int .i64 s.num.w,.bool s.num.no,.int .i64 s.num.low,.int .i64 s.num.high,.int .i64 s.num.free,.int .i64 s.num.bits,.int .i64 s.isv.w,.bool s.isv.no,.int .i64 s.isv.low,.int .i64 s.isv.high,.int .i64 s.isv.free,.int .i64 s.isv.bits,.slice s.lA s.l.length s.lC]
def Gu.val (s:Gu):Value:=.agg s.cs.toArray
@[go_sem] theorem Gu.oW {s:Gu}:Value.agg s.cs.toArray=s.val:=rfl
@[go_sem] theorem Gu.jM {s:Gu}:Value.cells.match_1 (fun _=>Array Value) s.val (fun cs=>cs) (fun u=>#[u])=s.cs.toArray:=rfl
@[go_sem] theorem Gu.gI {s:Gu}:s.val.cells=s.cs.toArray:=rfl
@[go_sem] theorem Gu.iY {s:Gu}:s.cs.toArray.size=14:=rfl
@[go_sem] theorem Gu.lU {s:Gu}:s.cs.length=14:=rfl
@[go_sem] theorem Gu.yD {s:Gu}:wQ s.cs=True:=by
 apply eq_true;intro u hu;simp only [Gu.cs,aQ,aV,or_false] at hu;rcases hu with rfl | rfl | rfl | rfl | rfl | rfl | rfl | rfl | rfl | rfl | rfl | rfl | rfl | rfl <;> rfl
@[go_sem] theorem Gu.fK {s:Gu}:s.cs.take 14=s.cs:=rfl
@[go_sem] theorem Gu.take0 {s:Gu}:s.cs.take 0=[]:=rfl
@[go_sem] theorem Gu.jC {s:Gu}:s.cs.drop 14=[]:=rfl
@[go_sem] theorem Gu.ld {s:Gu}:rd true 14 s.cs 0=some s.val:=rfl
@[go_sem] theorem Gu.xG {s:Gu}:s.cs[0]? = some (.bool s.no):=rfl
@[go_sem] theorem Gu.ld0 {s:Gu}:rd false 1 s.cs 0=some (.bool s.no):=rfl
@[go_sem] theorem Gu.xH {s:Gu}:s.cs[1]? = some (.int .i64 s.num.w):=rfl
@[go_sem] theorem Gu.ld1 {s:Gu}:rd false 1 s.cs 1=some (.int .i64 s.num.w):=rfl
@[go_sem] theorem Gu.qWQ {s:Gu}:s.cs[2]? = some (.bool s.num.no):=rfl
@[go_sem] theorem Gu.ld2 {s:Gu}:rd false 1 s.cs 2=some (.bool s.num.no):=rfl
@[go_sem] theorem Gu.qZV {s:Gu}:s.cs[3]? = some (.int .i64 s.num.low):=rfl
@[go_sem] theorem Gu.ld3 {s:Gu}:rd false 1 s.cs 3=some (.int .i64 s.num.low):=rfl
@[go_sem] theorem Gu.get4 {s:Gu}:s.cs[4]? = some (.int .i64 s.num.high):=rfl
@[go_sem] theorem Gu.ld4 {s:Gu}:rd false 1 s.cs 4=some (.int .i64 s.num.high):=rfl
@[go_sem] theorem Gu.yXY {s:Gu}:s.cs[5]? = some (.int .i64 s.num.free):=rfl
@[go_sem] theorem Gu.ld5 {s:Gu}:rd false 1 s.cs 5=some (.int .i64 s.num.free):=rfl
@[go_sem] theorem Gu.yYF {s:Gu}:s.cs[6]? = some (.int .i64 s.num.bits):=rfl
@[go_sem] theorem Gu.ld6 {s:Gu}:rd false 1 s.cs 6=some (.int .i64 s.num.bits):=rfl
@[go_sem] theorem Gu.jQJ {s:Gu}:s.cs[7]? = some (.int .i64 s.isv.w):=rfl
@[go_sem] theorem Gu.ld7 {s:Gu}:rd false 1 s.cs 7=some (.int .i64 s.isv.w):=rfl
@[go_sem] theorem Gu.jGX {s:Gu}:s.cs[8]? = some (.bool s.isv.no):=rfl
@[go_sem] theorem Gu.ld8 {s:Gu}:rd false 1 s.cs 8=some (.bool s.isv.no):=rfl
@[go_sem] theorem Gu.xZH {s:Gu}:s.cs[9]? = some (.int .i64 s.isv.low):=rfl
@[go_sem] theorem Gu.ld9 {s:Gu}:rd false 1 s.cs 9=some (.int .i64 s.isv.low):=rfl
@[go_sem] theorem Gu.zYQ {s:Gu}:s.cs[10]? = some (.int .i64 s.isv.high):=rfl
@[go_sem] theorem Gu.dWW {s:Gu}:rd false 1 s.cs 10=some (.int .i64 s.isv.high):=rfl
@[go_sem] theorem Gu.zYW {s:Gu}:s.cs[11]? = some (.int .i64 s.isv.free):=rfl
@[go_sem] theorem Gu.dWX {s:Gu}:rd false 1 s.cs 11=some (.int .i64 s.isv.free):=rfl
@[go_sem] theorem Gu.zYX {s:Gu}:s.cs[12]? = some (.int .i64 s.isv.bits):=rfl
@[go_sem] theorem Gu.dWZ {s:Gu}:rd false 1 s.cs 12=some (.int .i64 s.isv.bits):=rfl
@[go_sem] theorem Gu.zYZ {s:Gu}:s.cs[13]? = some (.slice s.lA s.l.length s.lC):=rfl
@[go_sem] theorem Gu.dWK {s:Gu}:rd false 1 s.cs 13=some (.slice s.lA s.l.length s.lC):=rfl
@[go_sem] theorem Gu.yVJ {s:Gu}:rd true 6 s.cs 1=some (s.num.val):=rfl
@[go_sem] theorem Gu.gHG {s:Gu}:rd true 6 s.cs 7=some (s.isv.val):=rfl
structure Fo where
 v:V
 lA:Option Addr
 lC:Nat
 l:List Ba
 jVD:Option Addr
 jVY:Nat
 vZB:List Int
def Fo.cs (s:Fo):List Value:=[.int .i64 s.v.w,.bool s.v.no,.int .i64 s.v.low,.int .i64 s.v.high,.int .i64 s.v.free,.int .i64 s.v.bits,.slice s.lA s.l.length s.lC,.slice s.jVD s.vZB.length s.jVY]
def Fo.val (s:Fo):Value:=.agg s.cs.toArray
@[go_sem] theorem Fo.oW {s:Fo}:Value.agg s.cs.toArray=s.val:=rfl
@[go_sem] theorem Fo.jM {s:Fo}:Value.cells.match_1 (fun _=>Array Value) s.val (fun cs=>cs) (fun u=>#[u])=s.cs.toArray:=rfl
@[go_sem] theorem Fo.gI {s:Fo}:s.val.cells=s.cs.toArray:=rfl
@[go_sem] theorem Fo.iY {s:Fo}:s.cs.toArray.size=8:=rfl
@[go_sem] theorem Fo.lU {s:Fo}:s.cs.length=8:=rfl
@[go_sem] theorem Fo.yD {s:Fo}:wQ s.cs=True:=by
 apply eq_true;intro u hu;simp only [Fo.cs,aQ,aV,or_false] at hu;rcases hu with rfl | rfl | rfl | rfl | rfl | rfl | rfl | rfl <;> rfl
@[go_sem] theorem Fo.fK {s:Fo}:s.cs.take 8=s.cs:=rfl
@[go_sem] theorem Fo.take0 {s:Fo}:s.cs.take 0=[]:=rfl
@[go_sem] theorem Fo.jC {s:Fo}:s.cs.drop 8=[]:=rfl
@[go_sem] theorem Fo.ld {s:Fo}:rd true 8 s.cs 0=some s.val:=rfl
@[go_sem] theorem Fo.xG {s:Fo}:s.cs[0]? = some (.int .i64 s.v.w):=rfl
@[go_sem] theorem Fo.ld0 {s:Fo}:rd false 1 s.cs 0=some (.int .i64 s.v.w):=rfl
@[go_sem] theorem Fo.xH {s:Fo}:s.cs[1]? = some (.bool s.v.no):=rfl
@[go_sem] theorem Fo.ld1 {s:Fo}:rd false 1 s.cs 1=some (.bool s.v.no):=rfl
@[go_sem] theorem Fo.qWQ {s:Fo}:s.cs[2]? = some (.int .i64 s.v.low):=rfl
@[go_sem] theorem Fo.ld2 {s:Fo}:rd false 1 s.cs 2=some (.int .i64 s.v.low):=rfl
@[go_sem] theorem Fo.qZV {s:Fo}:s.cs[3]? = some (.int .i64 s.v.high):=rfl
@[go_sem] theorem Fo.ld3 {s:Fo}:rd false 1 s.cs 3=some (.int .i64 s.v.high):=rfl
@[go_sem] theorem Fo.get4 {s:Fo}:s.cs[4]? = some (.int .i64 s.v.free):=rfl
@[go_sem] theorem Fo.ld4 {s:Fo}:rd false 1 s.cs 4=some (.int .i64 s.v.free):=rfl
@[go_sem] theorem Fo.yXY {s:Fo}:s.cs[5]? = some (.int .i64 s.v.bits):=rfl
@[go_sem] theorem Fo.ld5 {s:Fo}:rd false 1 s.cs 5=some (.int .i64 s.v.bits):=rfl
@[go_sem] theorem Fo.yYF {s:Fo}:s.cs[6]? = some (.slice s.lA s.l.length s.lC):=rfl
@[go_sem] theorem Fo.ld6 {s:Fo}:rd false 1 s.cs 6=some (.slice s.lA s.l.length s.lC):=rfl
@[go_sem] theorem Fo.jQJ {s:Fo}:s.cs[7]? = some (.slice s.jVD s.vZB.length s.jVY):=rfl
@[go_sem] theorem Fo.ld7 {s:Fo}:rd false 1 s.cs 7=some (.slice s.jVD s.vZB.length s.jVY):=rfl
@[go_sem] theorem Fo.xZD {s:Fo}:rd true 7 s.cs 0=some (abV s.v (.slice s.lA s.l.length s.lC)):=rfl
@[go_sem] theorem Fo.yVJ {s:Fo}:rd true 6 s.cs 0=some (s.v.val):=rfl
structure Sp where
 b:Int
 p:Int
def Sp.cs (s:Sp):List Value:=[.int .i64 s.b,.int .i64 s.p]
def Sp.val (s:Sp):Value:=.agg s.cs.toArray
@[go_sem] theorem Sp.oW {s:Sp}:Value.agg s.cs.toArray=s.val:=rfl
@[go_sem] theorem Sp.jM {s:Sp}:Value.cells.match_1 (fun _=>Array Value) s.val (fun cs=>cs) (fun u=>#[u])=s.cs.toArray:=rfl
@[go_sem] theorem Sp.gI {s:Sp}:s.val.cells=s.cs.toArray:=rfl
@[go_sem] theorem Sp.iY {s:Sp}:s.cs.toArray.size=2:=rfl
@[go_sem] theorem Sp.lU {s:Sp}:s.cs.length=2:=rfl
@[go_sem] theorem Sp.yD {s:Sp}:wQ s.cs=True:=by
 apply eq_true;intro u hu;simp only [Sp.cs,aQ,aV,or_false] at hu;rcases hu with rfl | rfl <;> rfl
@[go_sem] theorem Sp.fK {s:Sp}:s.cs.take 2=s.cs:=rfl
@[go_sem] theorem Sp.take0 {s:Sp}:s.cs.take 0=[]:=rfl
@[go_sem] theorem Sp.jC {s:Sp}:s.cs.drop 2=[]:=rfl
@[go_sem] theorem Sp.ld {s:Sp}:rd true 2 s.cs 0=some s.val:=rfl
@[go_sem] theorem Sp.xG {s:Sp}:s.cs[0]? = some (.int .i64 s.b):=rfl
@[go_sem] theorem Sp.ld0 {s:Sp}:rd false 1 s.cs 0=some (.int .i64 s.b):=rfl
@[go_sem] theorem Sp.xH {s:Sp}:s.cs[1]? = some (.int .i64 s.p):=rfl
@[go_sem] theorem Sp.ld1 {s:Sp}:rd false 1 s.cs 1=some (.int .i64 s.p):=rfl
instance Sp.dec:DecidableEq Sp:=fun x y=>decidable_of_iff (x.b=y.b/\x.p=y.p) (by cases x; cases y; simp)
theorem jVA (a b:Sp):decide (a=b)=(decide (a.b=b.b) && (decide (a.p=b.p) && true)):=by
 rw [dG];cases a; cases b;simp
@[go_sem] theorem dWJ (a b:Sp):eqV (.st [(false,0,1,.i),(false,1,1,.i)]) a.val b.val=some (decide (a=b)):=by
 rw [jVA]; rfl
structure Si where
 p:Pg
 e:En
def Si.cs (s:Si):List Value:=s.p.cs++s.e.cs
def Si.val (s:Si):Value:=.agg s.cs.toArray
@[go_sem] theorem Si.oW {s:Si}:Value.agg s.cs.toArray=s.val:=rfl
@[go_sem] theorem Si.zJX {p:Pg} {e:En}:Value.agg (p.cs++e.cs).toArray=(Si.mk p e).val:=rfl
@[go_sem] theorem Si.jM {s:Si}:Value.cells.match_1 (fun _=>Array Value) s.val (fun cs=>cs) (fun u=>#[u])=s.cs.toArray:=rfl
@[go_sem] theorem Si.gI {s:Si}:s.val.cells=s.cs.toArray:=rfl
@[go_sem] theorem Si.iY {s:Si}:s.cs.toArray.size=10:=rfl
@[go_sem] theorem Si.lU {s:Si}:s.cs.length=10:=rfl
@[go_sem] theorem Si.yD {s:Si}:wQ s.cs=True:=by
 apply eq_true;intro u hu;simp only [Si.cs,Pg.cs,En.cs,aW,aQ,aV,or_false] at hu;rcases hu with (rfl | rfl | rfl | rfl | rfl | rfl | rfl) | rfl | rfl | rfl <;> rfl
@[go_sem] theorem Si.fK {s:Si}:s.cs.take 10=s.cs:=rfl
@[go_sem] theorem Si.take0 {s:Si}:s.cs.take 0=[]:=rfl
@[go_sem] theorem Si.jC {s:Si}:s.cs.drop 10=[]:=rfl
@[go_sem] theorem Si.ld {s:Si}:rd true 10 s.cs 0=some s.val:=rfl
@[go_sem] theorem Si.ldp {s:Si}:rd true 7 s.cs 0=some s.p.val:=rfl
@[go_sem] theorem Si.lda {s:Si}:rd true 2 s.cs 0=some (.agg #[.bool s.p.big,.int .i64 s.p.ptr]):=rfl
@[go_sem] theorem Si.lde {s:Si}:rd true 3 s.cs 7=some s.e.val:=rfl
@[go_sem] theorem Si.xG {s:Si}:s.cs[0]? = some (.bool s.p.big):=rfl
@[go_sem] theorem Si.ld0 {s:Si}:rd false 1 s.cs 0=some (.bool s.p.big):=rfl
@[go_sem] theorem Si.xH {s:Si}:s.cs[1]? = some (.int .i64 s.p.ptr):=rfl
@[go_sem] theorem Si.ld1 {s:Si}:rd false 1 s.cs 1=some (.int .i64 s.p.ptr):=rfl
@[go_sem] theorem Si.qWQ {s:Si}:s.cs[2]? = some (.slice s.p.vA s.p.vars.length s.p.vC):=rfl
@[go_sem] theorem Si.ld2 {s:Si}:rd false 1 s.cs 2=some (.slice s.p.vA s.p.vars.length s.p.vC):=rfl
@[go_sem] theorem Si.qZV {s:Si}:s.cs[3]? = some (.slice s.p.nA s.p.news.length s.p.nC):=rfl
@[go_sem] theorem Si.ld3 {s:Si}:rd false 1 s.cs 3=some (.slice s.p.nA s.p.news.length s.p.nC):=rfl
@[go_sem] theorem Si.jQJ {s:Si}:s.cs[7]? = some (.bool s.e.no):=rfl
@[go_sem] theorem Si.ld7 {s:Si}:rd false 1 s.cs 7=some (.bool s.e.no):=rfl
@[go_sem] theorem Si.jGX {s:Si}:s.cs[8]? = some (.slice s.e.cellsA s.e.cells.length s.e.zX):=rfl
@[go_sem] theorem Si.ld8 {s:Si}:rd false 1 s.cs 8=some (.slice s.e.cellsA s.e.cells.length s.e.zX):=rfl
@[go_sem] theorem Si.xZH {s:Si}:s.cs[9]? = some (.slice s.e.mG s.e.news.length s.e.mJ):=rfl
@[go_sem] theorem Si.ld9 {s:Si}:rd false 1 s.cs 9=some (.slice s.e.mG s.e.news.length s.e.mJ):=rfl
def splice (l:List By)(at_:Nat)(bs:List By):List By:=l.take at_++bs++l.drop (at_+bs.length)
theorem vP {l:List By}{at_:Nat}{bs:List By}(h:at_+bs.length<=l.length):(splice l at_ bs).length=l.length:=by
 simp [splice]; omega
theorem wQB {l:List By}{at_:Nat}{bs:List By}(h:at_+bs.length<=l.length)(i:Nat):(splice l at_ bs)[i]? = if at_<=i/\i < at_+bs.length then bs[i - at_]? else l[i]?:=by
 unfold splice;have hl:(l.take at_).length=at_:=by simp; omega
 by_cases h1:i < at_
 ·rw [if_neg (by omega),fG,List.getElem?_append_left (by rw [hl]; exact h1),List.getElem?_take_of_lt h1]
 ·rw [fG,List.getElem?_append_right (by rw [hl]; omega),hl];by_cases h2:i < at_+bs.length
  ·rw [if_pos ⟨by omega,h2⟩,List.getElem?_append_left (by omega)]
  ·rw [if_neg (by omega),List.getElem?_append_right (by omega),List.getElem?_drop]
   congr 1; omega
structure qJD (m:List Bl)(b at_:Nat)(bs:List By)(m':List Bl):Prop where
 len:m'.length=m.length
 st:∀i:Nat,(jD m' i).st=(jD m i).st
 l:∀i:Nat,(jD m' i).l=if i=b then splice (jD m b).l at_ bs else (jD m i).l
theorem qJD.fit {p:Pg}{m m':List Bl}{b at_:Nat}{bs:List By}(h:qJD m b at_ bs m')(hm:iP p m)(hf:at_+bs.length<=(jD m b).l.length)(hb:0 < bs.length)(hby:∀x∈bs,lQ x=true/\zL (yK p) x=true):iP p m':=by
 have key:∀i (hi:i < m'.length),∃hi':i < m.length,(m'[i]).st=(m[i]).st/\(m'[i]).l=if i=b then splice (jD m b).l at_ bs else (m[i]).l:=fun i hi=>by
  have hi':i < m.length:=by rw [<-h.len]; exact hi
  refine ⟨hi',?_,?_⟩
  ·have:=h.st i;rw [yY hi,yY hi'] at this; exact this
  ·have:=h.l i;rw [yY hi,yY hi'] at this; exact this
 have hbl:b < m.length:=by
  have:0 < (jD m b).l.length:=by omega
  unfold jD at this;rw [aB] at this;rcases Nat.lt_or_ge b m.length with h | h
  ·exact h
  ·rw [List.getElem?_eq_none h] at this; simp at this
 have bg:=yY hbl;have hsp:∀x∈splice (jD m b).l at_ bs,x∈bs\/x∈(m[b]).l:=fun x hx=>by
  unfold splice at hx;rw [bg] at hx;rcases aW.1 hx with hx | hx
  ·rcases aW.1 hx with hx | hx
   ·exact .inr (List.mem_of_mem_take hx)
   ·exact .inl hx
  ·exact .inr (List.mem_of_mem_drop hx)
 have hlen:=vP hf;refine ⟨by rw [h.len]; exact hm.len,fun i hi=>?_,fun i hi hs=>?_,fun i hi hs=>?_,fun h0=>?_,fun i hi=>?_,fun i hi h1 h2=>?_⟩
 ·obtain ⟨hi',e1,e2⟩:=key i hi;obtain ⟨b1,b2,b3,b4⟩:=hm.bytes i hi';rw [e1,e2];split
  ·rename_i e; subst e;refine ⟨fun x hx=>?_,b2,b3,by rw [hlen,bg]; exact b4⟩;rcases hsp x hx with hx | hx
   ·exact (hby x hx).1
   ·exact b1 x hx
  ·exact ⟨b1,b2,b3,b4⟩
 ·obtain ⟨hi',e1,e2⟩:=key i hi;rw [e1] at hs;have:=hm.size i hi' hs;rw [e2];split
  ·rename_i e; subst e; rw [hlen,bg]; exact this
  ·exact this
 ·obtain ⟨hi',e1,e2⟩:=key i hi;rw [e1] at hs;have:=hm.dead i hi' hs;rw [e2];split
  ·rename_i e; subst e;rw [bg,this] at hf;exact absurd hf (by simp only [List.length_nil]; omega)
  ·exact this
 ·obtain ⟨hi',e1,e2⟩:=key 0 h0;rw [e1]; exact hm.zero hi'
 ·obtain ⟨hi',e1,e2⟩:=key i hi;have:=hm.ptrs i hi';rw [e2];split
  ·rename_i e; subst e;rw [bW] at this ⊢;intro x hx;rcases hsp x hx with hx | hx
   ·exact (hby x hx).2
   ·exact this x hx
  ·exact this
 ·obtain ⟨hi',e1,e2⟩:=key i hi;rw [e1]; exact hm.live i hi' h1 h2
@[go_sem] theorem Gu.bd2 {a b:V}:Value.agg (Value.bool false :: (a.cs++b.cs++List.drop 12 (a.cs++[Value.int .i64 0,Value.bool false,Value.int .i64 0,Value.int .i64 0,Value.int .i64 0,Value.int .i64 0,Value.slice none 0 0]))).toArray=(Gu.mk false a b none 0 []).val:=rfl
@[go_sem] theorem Gu.jVB {g:Gu}:List.take 6 (List.drop 1 g.cs)=g.num.cs:=rfl
@[go_sem] theorem Gu.zYK {g:Gu}:List.take 6 (List.drop 7 g.cs)=g.isv.cs:=rfl
@[go_sem] theorem Fo.zYJ {s:Fo}:List.take 7 s.cs=gG s.v (.slice s.lA s.l.length s.lC):=rfl
@[go_sem] theorem Fo.jVB {s:Fo}:List.take 6 s.cs=s.v.cs:=rfl
@[go_sem] theorem Si.dWG {s:Si}:List.take 7 s.cs=s.p.cs:=rfl
@[go_sem] theorem Si.dWV {s:Si}:List.take 3 (List.drop 7 s.cs)=s.e.cs:=rfl
@[go_sem] theorem Si.dWH {s:Si}:List.take 2 s.cs=[.bool s.p.big,.int .i64 s.p.ptr]:=rfl
@[go_sem] theorem Gu.dWD {g:Gu} {b:Bool}:Value.bool b :: List.drop 1 g.cs=(Gu.mk b g.num g.isv g.lA g.lC g.l).cs:=rfl
@[go_sem] theorem Gu.gHV {g:Gu} {v:V}:List.take 1 g.cs++v.cs++List.drop 7 g.cs=(Gu.mk g.no v g.isv g.lA g.lC g.l).cs:=rfl
@[go_sem] theorem Gu.gHH {g:Gu} {v:V}:List.take 7 g.cs++v.cs++List.drop 13 g.cs=(Gu.mk g.no g.num v g.lA g.lC g.l).cs:=rfl
@[go_sem] theorem Gu.set_l {g:Gu} {a:Option Addr} {l:List Ba} {c:Nat}:List.take 13 g.cs++[Value.slice a l.length c]=(Gu.mk g.no g.num g.isv a c l).cs:=rfl
theorem jVC (l:List By)(x:By):qKX (l++[x])=bor .i64 (qF .i64 (qKX l) 8) x.n:=by simp [qKX,List.foldl_append]
theorem yVE:∀(n:Nat) (l:List By),l.length=n->n<=4->(∀x∈l,0<=x.n/\x.n<=255)->∃m:Nat,qKX l=m/\m < 256 ^ n
 | 0,l,h,_,_=>⟨0,by rw [List.eq_nil_of_length_eq_zero h]; rfl,by decide⟩
 | n+1,l,h,h4,hx=>by
  obtain ⟨l',x,rfl⟩:∃l' x,l=l'++[x]:=by
   rcases List.eq_nil_or_concat l with rfl | ⟨l',x,rfl⟩
   ·simp at h
   ·exact ⟨l',x,by simp⟩
  obtain ⟨m,hm,hlt⟩:=yVE n l' (by simpa using h) (by omega) (fun y hy=>hx y (by simp [hy]));obtain ⟨x0,x1⟩:=hx x (by simp);obtain ⟨k,hk⟩:=aG x0;have hp:256 ^ n<=256 ^ 3:=Nat.pow_le_pow_right (by decide) (by omega);rw [jVC,hm,hk,jVV (by omega) (by omega)];exact ⟨m * 256+k,rfl,by rw [Nat.pow_succ]; omega⟩
def jVE (x:By):Prop:=x=⟨0,0,0,0,0⟩\/(∃n,x=⟨1,n,0,0,0⟩/\0<=n/\n<=255)\/∃b o i,x=⟨2,0,b,o,i⟩/\(1<=b/\b<=6)/\(0<=o/\o<=32)/\0<=i/\i<=3
theorem xKK (big:Bool){ptr k:Int}(hp:ptr=2\/ptr=4)(hk:isS k=true){xs:List By}(hl:(xs.length:Int)=yJ ptr k)(hx:∀x∈xs,jVE x) :
  ((yV big k xs).2=0->(k=7->∃vo,Is1 vo 8 (yV big k xs).1.o/\(yV big k xs).1.o<=32/\(0<=(yV big k xs).1.b/\(yV big k xs).1.b<=6)/\((yV big k xs).1.b=0->(yV big k xs).1.o=0)/\(yV big k xs).1.p=true/\(yV big k xs).1.n=0)/\(¬k=7->nN (yV big k xs).1.n (iF k)=true/\(yV big k xs).1=⟨false,(yV big k xs).1.n,0,0⟩)):=by
 have hs:=gV hp (.inr (.inr hk));intro h0;by_cases s0:uD 0 xs=true
 ·unfold yV at h0; rw [if_pos s0] at h0; exact absurd h0 (by decide)
 refine ⟨fun h7=>?_,fun h7=>?_⟩
 ·subst h7;have e:yV big 7 xs=jZ xs:=by unfold yV; rw [if_neg s0,if_pos rfl]
  rw [e] at h0 ⊢;unfold jZ at h0 ⊢;split at h0
  ·rename_i hc;rw [if_pos hc];have h0m:jW xs 0∈xs:=yVB (by omega);have hw:(0<=(jW xs 0).b/\(jW xs 0).b<=6)/\(0<=(jW xs 0).o/\(jW xs 0).o<=32)/\((jW xs 0).b=0->(jW xs 0).o=0):=by
    rcases hx _ h0m with h | ⟨n,h,_⟩ | ⟨b,o,i,h,h1,h2,_⟩ <;> rw [h] <;> simp <;> omega
   refine ⟨V.just 8 (jW xs 0).o,Is1.just (by decide) (n8 ⟨hw.2.1.1,by omega⟩),hw.2.1.2,hw.1,hw.2.2,rfl,rfl⟩
  ·exact absurd h0 (by decide)
 ·have hkk:isK k=true:=by simp only [isS,isK,aC,decide_eq_true_eq] at hk ⊢; omega
  have hsn:=jVH (ptr:=ptr) hkk;by_cases s2:uD 2 xs=true
  ·unfold yV at h0; rw [if_neg s0,if_neg h7,if_pos s2] at h0; exact absurd h0 (by decide)
  have e:yV big k xs=(⟨false,qKX (vY big xs),0,0⟩,0):=by unfold yV; rw [if_neg s0,if_neg h7,if_neg s2]
  rw [e];refine ⟨?_,rfl⟩;have ho:(vY big xs).length=xs.length:=by unfold vY; split <;> simp
  have hm:∀x∈vY big xs,x∈xs:=fun x hx=>by
   unfold vY at hx;split at hx
   ·exact hx
   ·simpa using hx
  obtain ⟨m,hm1,hm2⟩:=yVE xs.length (vY big xs) ho (by omega) (fun x hxm=>by
   rcases hx x (hm x hxm) with h | ⟨n,h,h1,h2⟩ | ⟨b,o,i,h,_⟩ <;> rw [h] <;> simp <;> omega)
  have hmm:=jQC (ptr:=ptr) hkk;rw [zV hkk] at hmm;have hl':xs.length=(yJ ptr k).toNat:=by omega
  show nN (qKX (vY big xs)) (iF k)=true;rw [hm1];simp only [nN,hmm,aC,decide_eq_true_eq];rw [hl'] at hm2;have:((256 ^ (yJ ptr k).toNat:Nat):Int)=256 ^ (yJ ptr k).toNat:=by simp
  omega
structure Mv (S:Nat->Prop)(M:Hp)(S':Nat->Prop)(M':Hp):Prop where
 stay:∀q x,M q=some x->¬S q->M' q=some x
 new:∀q,S' q->S q\/M q=none
theorem Mv.refl {S:Nat->Prop}{M:Hp}:Mv S M S M:=⟨fun _ _ h _=>h,fun _ h=>.inl h⟩
theorem Mv.trans {S S1 S2:Nat->Prop}{M M1 M2:Hp}(h:Mv S M S1 M1)(k:Mv S1 M1 S2 M2):Mv S M S2 M2:=by
 refine ⟨fun q x hq hs=>?_,fun q hq=>?_⟩
 ·refine k.stay q x (h.stay q x hq hs) fun h1=>?_
  rcases h.new q h1 with h2 | h2
  ·exact hs h2
  ·rw [h2] at hq; cases hq
 ·rcases k.new q hq with h1 | h1
  ·exact h.new q h1
  ·by_cases hs:S q
   ·exact .inl hs
   ·refine .inr ?_;cases hM:M q with
    | none=>rfl
    | some x=>rw [h.stay q x hM hs] at h1; cases h1
theorem wQC {M:Hp}{b:Nat}{e:nH}(h:M b=some e):M.upd b e=M:=by
 funext k
 unfold Hp.upd;split
 ·rename_i hk; rw [hk,h]
 ·rfl
theorem yKD {l:List By}{at_:Nat}:splice l at_ []=l:=by simp [splice]
theorem wYC {l bs:List By}{at_ i:Nat}(h:at_+bs.length<=l.length)(hi:i < bs.length):(splice l at_ (bs.take i)).set (at_+i) bs[i]=splice l at_ (bs.take (i+1)):=by
 have l1:(bs.take i).length=i:=by rw [dW]; omega
 have l2:(bs.take (i+1)).length=i+1:=by rw [dW]; omega
 apply List.ext_getElem?;intro j;rw [List.getElem?_set,wQB (by omega),wQB (by omega),vP (by omega),l1,l2];by_cases h1:at_+i=j
 ·subst h1;rw [if_pos rfl,if_pos (by omega),if_pos (by omega),List.getElem?_take_of_lt (by omega),Nat.add_sub_cancel_left,List.getElem?_eq_getElem hi]
 ·rw [if_neg h1];by_cases h2:at_<=j/\j < at_+i
  ·rw [if_pos h2,if_pos (by omega),List.getElem?_take_of_lt (by omega),List.getElem?_take_of_lt (by omega)]
  ·rw [if_neg h2,if_neg (by omega)]
def qWZ (x y:Bl):Prop:=∀g,x.lA=some g->¬y.lA=some g
structure fH (tb ty:TypeId)(F:Fz)(M:Hp)(a:Option Addr)(c:Nat)(m:List Bl):Prop where
 row:gQ 2 Bl.cs tb F M (.slice a m.length c) m
 rows:∀x∈m,gQ 5 By.cs ty F M (.slice x.lA x.l.length x.lC) x.l
 dist:m.Pairwise qWZ
theorem fH.keep {tb ty:TypeId}{F:Fz}{M M':Hp}{a:Option Addr}{c:Nat}{m:List Bl}(h:fH tb ty F M a c m)(kp:Keep M M'):fH tb ty F M' a c m:=
 ⟨h.row.keep kp,fun x hx=>(h.rows x hx).keep kp,h.dist⟩
theorem yVF {α β:Type}{f:α->β}{l:List α}{b:Nat}(hb:b < l.length){x:α}(h:f x=f l[b]):(l.set b x).map f=l.map f:=by
 apply List.ext_getElem?;intro j;rw [List.getElem?_map,List.getElem?_map,List.getElem?_set];split
 ·rename_i e; subst e;rw [List.getElem?_eq_getElem hb,cZ,cZ,h]
 ·rfl
theorem fH.lay {tb ty:TypeId}{F:Fz}{M:Hp}{a:Option Addr}{c:Nat}{m:List Bl}(h:fH tb ty F M a c m)(ht:¬tb=ty){b:Nat}(hb:b < m.length){g n:Nat}(hg:(m[b]).lA=some ⟨g,0,none⟩)(hM:M g=some ⟨(m[b]).l.flatMap By.cs,ty,n⟩){l':List By}(hl:l'.length=(m[b]).l.length) :
  fH tb ty F (M.upd g ⟨l'.flatMap By.cs,ty,n⟩) a c (m.set b ⟨(m[b]).st,(m[b]).lA,(m[b]).lC,l'⟩):=by
 refine ⟨?_,fun x hx=>?_,?_⟩
 ·have e1:(m.set b ⟨(m[b]).st,(m[b]).lA,(m[b]).lC,l'⟩).flatMap Bl.cs=m.flatMap Bl.cs:=by
   rw [List.flatMap_def,List.flatMap_def,yVF hb];simp only [Bl.cs,hl]
  rcases h.row with ⟨h1,h2⟩ | ⟨g',cap,h1,h2,h3,h4,h5⟩
  ·rw [h2] at hb; cases hb
  ·refine .inr ⟨g',cap,by rw [aZ]; exact h1,h2,?_,by rw [aZ]; exact h4,h5⟩;have:¬g'=g:=by rintro rfl; rw [hM] at h3; injection h3 with h3; injection h3 with _ h3 _; exact ht h3.symm
   rw [Hp.qK this,e1]; exact h3
 ·obtain ⟨i,hi,rfl⟩:=bZ hx;have hi':i < m.length:=by simpa using hi
  rw [List.getElem_set];split
  ·rename_i e; subst e;have hx2:=h.rows _ (aH hb);rcases hx2 with ⟨h1,_⟩ | ⟨g',cap,h1,h2,h3,h4,h5⟩
   ·rw [hg] at h1; cases h1
   ·rw [hg] at h1;injection h1 with e1 e2 e3
    injection e1 with e1
    injection e1 with e1
    subst e1;rw [hM] at h3;injection h3 with h3
    injection h3 with _ _ h3
    exact .inr ⟨g,cap,by simp only [hg,hl,e3],h2,by rw [Hp.qV,h3],by rw [hl]; exact h4,h5⟩
  ·rename_i hne;rcases h.rows _ (aH hi') with h1 | ⟨g',cap,h1,h2,h3,h4,h5⟩
   ·exact .inl h1
   ·refine .inr ⟨g',cap,h1,h2,?_,h4,h5⟩;injection h1 with e1 e2 e3
    have:¬g'=g:=by
     rintro rfl;have hp:=List.pairwise_iff_getElem.1 h.dist;rcases Nat.lt_or_gt_of_ne hne with hlt | hlt
     ·exact hp b i hb hi' hlt _ hg e1
     ·exact hp i b hi' hb hlt _ e1 hg
    rw [Hp.qK this]; exact h3
 ·have hm:(m.set b ⟨(m[b]).st,(m[b]).lA,(m[b]).lC,l'⟩).map Bl.lA=m.map Bl.lA:=yVF hb rfl;have key:∀l:List Bl,l.Pairwise qWZ↔(l.map Bl.lA).Pairwise (fun x y=>∀g,x=some g->¬y=some g):=fun l=>by
   rw [List.pairwise_map]; rfl
  rw [key,hm,<-key];exact h.dist
theorem aI.part {P:Program}{f:FuncId}{args:List Value}{F:Fz}{A M:Hp}{Q:Value->Hp->Prop}(hA:Keep A M)(hO:Old F M)(h:aI P f args F A (Makes F A Q)) :
  aI P f args F M (Makes F M fun v M'=>∃N,Keep A N/\Old F N/\Keep N M'/\(∀b,¬M b=none->A b=none->N b=none)/\Q v N):=by
 refine ⟨h.1,fun w hw=>?_⟩;have hr:Rel F A w:=⟨hw.fz,fun b n hb=>hw.mu b n (hA _ _ hb),fun b hb=>by
  cases hx:A b with
  | none=>exact absurd hx hb
  | some e=>exact hw.ap b (by rw [hA _ _ hx]; simp),hw.mp⟩
 refine (h.2 w hr).mono fun en w' ⟨v,F',N,he,h1,h2,hF,hk,ho,hQ⟩=>?_
 subst hF;have hd:∀b,¬M b=none->A b=none->N b=none:=fun b hb ha=>by
  cases hx:M b with
  | none=>exact absurd hx hb
  | some e=>
   obtain ⟨cur,g1,_⟩:=hw.mu b e hx;exact (h2.block b (Array.getElem?_eq_some_iff.1 g1).1 ha (hw.wHX hx)).2.1
 have kN:Keep N (N.join M):=fun b e hb=>oP hb
 have kM:Keep M (N.join M):=fun b e hb=>by
  cases ha:A b with
  | none=>rw [sG (hd b (by rw [hb]; simp) ha)]; exact hb
  | some x=>
   have e2:=hA _ _ ha;rw [hb] at e2;injection e2 with e2
   subst e2;exact oP (hk _ _ ha)
 have oM:Old F' (N.join M):=fun b hb=>join_none.2 ⟨ho b hb,hO b hb⟩
 refine ⟨v,F',N.join M,he,⟨h1.fz,fun b n hb=>?_,fun b hb=>?_,h1.mp⟩,⟨h2.os,h2.tape,h2.output,h2.size,fun b hb hm hp=>?_⟩,rfl,kM,oM,N,hk,ho,kN,hd,hQ⟩
 ·cases hx:N b with
  | some x=>rw [oP hx] at hb; cases hb; exact h1.mu b n hx
  | none=>
   rw [sG hx] at hb;have ha:A b=none:=by
    cases ha:A b with
    | none=>rfl
    | some x=>rw [hk _ _ ha] at hx; cases hx
   obtain ⟨cur,g1,g2,g3⟩:=hw.mu b n hb;have:=h2.block b (Array.getElem?_eq_some_iff.1 g1).1 ha (hw.wHX hb);exact ⟨cur,by rw [this.1]; exact g1,g2,g3⟩
 ·cases hx:N b with
  | some x=>exact h1.ap b (by rw [hx]; simp)
  | none=>rw [sG hx] at hb; exact hw.ap b hb
 ·have ha:A b=none:=by
   cases ha:A b with
   | none=>rfl
   | some x=>rw [hA _ _ ha] at hm; cases hm
  obtain ⟨g1,g2,g3,_⟩:=h2.block b hb ha hp;exact ⟨g1,join_none.2 ⟨g2,hm⟩,g3,id⟩
end Go.Ax
namespace Go.Proofs.Tryz.K
open Go Go.Ax Go.Proofs.Tryz.S
variable (F:Fz) (M:Hp)
def cbI (l:List By)(F0:Fz)(M0:Hp)(i:Nat)(σ:Env)(F:Fz)(M:Hp):Prop:=
 F0=F/\Keep M0 M/\Old F0 M/\Ax.look σ 4=some (.int .i64 i)/\∃w,Ax.look σ 3=some w/\yW 5 By.cs 88 F0 M0 M w (l.take i)
theorem dWY (a:Option Addr)(c:Nat)(l:List By)(h:dF 5 By.cs F M (.slice a l.length c) l)(hold:Old F M)(hl:l.length<=100000) :
  aI prog 188 [.slice a l.length c] F M (tK 5 By.cs 88 l F M):=by
 refine qZ hm func188 kKF (aA rfl) ?_;simp only [zXK,go_sem];refine wV l.length (cbI l F M) ⟨rfl,Keep.refl _,hold,(by simp only [go_sem, *] <;> rfl),_,(by simp only [go_sem, *] <;> rfl),by rw [List.take_zero]; exact yW.nil⟩ ?_;rintro i σ F' M' hi hst ⟨rfl,kp,old,q4,w,q3,mine⟩;have q0:=hst 0 rfl;simp only [go_sem] at q0;clear hst;by_cases hil:(i:Int) < l.length;rotate_left
 ·rw [aJ (by omega)] at mine;simp only [go_sem,q0,q3,q4,hil];exact mine.done kp
 have hi0:(0:Int)<=i:=by omega
 have hi1:i < l.length:=by omega
 have ei:i64.wrap ((i:Int)+1)=i+1:=dQ (by omega) (by omega);obtain ⟨b,o,cs,rfl,hb,rows⟩:=(h.keep kp old).rows (by omega);obtain ⟨d1,d2⟩:=rows i hi1;clear rows;have t1:=aF hi1;generalize l[i]=x at *;simp only [go_sem,q0,q3,q4,hil,hi0,aB,hb,d1,d2];intro rb uK lW;simp only [go_sem];refine sU (xs:=l.take i) (ys:=[x]) By.len By.plain (by decide) (mine.fresh lW) (kp.new (kp.free lW)) ⟨rfl,.inr ⟨⟨rb,0,none⟩,1,rfl,.inr ⟨rb,0,_,rfl,wH,by simp [By.fK]⟩⟩⟩ (by simp) (by simp; omega) ?_;rintro v' M2 _ _ nG ho2 xO;rw [<-t1] at xO;simp only [go_sem,q4,ei];exact ⟨hi1,rfl,nG,ho2 (old.upd uK),(by simp only [go_sem, *] <;> rfl),v',(by simp only [go_sem, *] <;> rfl),xO⟩
def wYE (x:Bl)(F:Fz)(M:Hp)(u:Value)(F':Fz)(M':Hp):Prop:=F'=F/\Keep M M'/\Old F M'/\∃x':Bl,u=x'.val/\x'.st=x.st/\x'.l=x.l/\yW 5 By.cs 88 F M M' (.slice x'.lA x'.l.length x'.lC) x'.l
theorem xKJ {x:Bl}{a:Option Addr}{n:Nat}:x.cs.take 1++[Value.slice a x.l.length n]=Bl.cs ⟨x.st,a,n,x.l⟩:=rfl
theorem dWA (x:Bl)(h:dF 5 By.cs F M (.slice x.lA x.l.length x.lC) x.l)(hold:Old F M)(hl:x.l.length<=100000):aI prog 158 [x.val] F M (wYE x F M):=by
 refine qZ hm func158 kZE (aA rfl) ?_
 simp only [zWZ,go_sem]
 intro r1 hF1 hM1
 simp only [go_sem]
 intro r2 hF2 hM2
 simp only [qD] at hM2
 simp only [go_sem,hM2]
 intro r3 hF3 dN
 simp only [qD] at dN
 simp only [setH,Hp.wZ,go_sem,hM2,dN]
 have fC:Keep M (((M.upd r1 ⟨x.cs,86,2⟩).upd r2 ⟨[.int .i64 0,.slice none 0 0],86,2⟩).upd r3 ⟨x.cs,86,2⟩):=(by repeat' first | exact Keep.refl _ | (refine Keep.new ?_ (by simp only [*])))
 have dA:Old F (((M.upd r1 ⟨x.cs,86,2⟩).upd r2 ⟨[.int .i64 0,.slice none 0 0],86,2⟩).upd r3 ⟨x.cs,86,2⟩):=(by repeat' first | assumption | (refine Old.upd ?_ (by assumption)))
 have f3:(((M.upd r1 ⟨x.cs,86,2⟩).upd r2 ⟨[.int .i64 0,.slice none 0 0],86,2⟩).upd r3 ⟨x.cs,86,2⟩) r3=some ⟨x.cs,86,2⟩:=Hp.qV _ _ _
 have f2:(((M.upd r1 ⟨x.cs,86,2⟩).upd r2 ⟨[.int .i64 0,.slice none 0 0],86,2⟩).upd r3 ⟨x.cs,86,2⟩) r2=some ⟨[.int .i64 0,.slice none 0 0],86,2⟩:=by
  rw [Hp.qK (by simp [dN])]; exact Hp.qV _ _ _
 have n2:M r2=none:=hM2.2
 have n3:M r3=none:=dN.2.2
 have wJF:¬r2=r3:=dN.1.2
 have zDA:¬r3=r2:=dN.1.1
 generalize (((M.upd r1 ⟨x.cs,86,2⟩).upd r2 ⟨[.int .i64 0,.slice none 0 0],86,2⟩).upd r3 ⟨x.cs,86,2⟩)=M3 at *
 have h3:dF 5 By.cs F M3 (.slice x.lA x.l.length x.lC) x.l:=h.keep fC dA
 have kc:=dWY F M3 x.lA x.lC x.l h3 dA hl
 with_reducible refine wW kc ?_
 rintro u F' M4 hr
 have hown:=hr.own
 have hnew:∀g n c,u=.slice (some ⟨g,0,none⟩) n c->M g=none:=fun g n c e=>by
  obtain ⟨_,hr⟩:=hr
  rcases hr with ⟨_,h1,_⟩ | ⟨g',cap,_,h2,h1,_⟩
  ·rw [h1] at e; cases e
  ·rw [h1] at e; cases e; exact fC.free h2
 obtain ⟨hG,le,kq,oq,a,n,rfl,rdq⟩:=hr.le By.len (by omega)
 subst hG
 refine ⟨(fun h=>by cases h),?_⟩
 have f3':=kq _ _ f3
 have f2':=kq _ _ f2
 simp only [setH,go_sem,f2',f3',wJF,xKJ]
 have qJH:gQ 5 By.cs 88 F' ((M4.upd r3 ⟨Bl.cs ⟨x.st,a,n,x.l⟩,86,2⟩).upd r2 ⟨Bl.cs ⟨x.st,a,n,x.l⟩,86,2⟩) (.slice a x.l.length n) x.l:=by
  refine hown.frame (e':=86) (fun r y hy hne=>?_) (by decide)
  have e3:¬r=r3:=by rintro rfl; rw [f3'] at hy; cases hy; exact hne rfl
  have e2:¬r=r2:=by rintro rfl; rw [f2'] at hy; cases hy; exact hne rfl
  rw [Hp.qK e2,Hp.qK e3]; exact hy
 exact qW ⟨rfl,((fC.trans kq).new n3).new n2,((oq dA).upd hF3).upd hF2,⟨x.st,a,n,x.l⟩,rfl,rfl,rfl,qJH,hnew⟩
def wKJ (m:List Bl)(F:Fz)(M:Hp)(u:Value)(F':Fz)(M':Hp):Prop:=F'=F/\Keep M M'/\Old F M'/\∃a c,∃m':List Bl,u=.slice a m'.length c/\m'.map zZ=m.map zZ/\fH 86 88 F M' a c m'/\(∀g n c',u=.slice (some ⟨g,0,none⟩) n c'->M g=none)/\∀x∈m',∀g,x.lA=some ⟨g,0,none⟩->M g=none
def dWB (l:List Bl)(F0:Fz)(M0:Hp)(i:Nat)(σ:Env)(F:Fz)(M:Hp):Prop:=
 F0=F/\Keep M0 M/\Old F0 M/\Ax.look σ 4=some (.int .i64 i)/\∃w,∃l':List Bl,Ax.look σ 3=some w/\yW 2 Bl.cs 86 F0 M0 M w l'/\l'.map zZ=(l.take i).map zZ/\(∀x∈l',yW 5 By.cs 88 F0 M0 M (.slice x.lA x.l.length x.lC) x.l)/\l'.Pairwise qWZ
theorem xKG (a:Option Addr)(c:Nat)(l:List Bl)(h:dF 2 Bl.cs F M (.slice a l.length c) l)(hr:∀x∈l,dF 5 By.cs F M (.slice x.lA x.l.length x.lC) x.l)(hold:Old F M)(hl:l.length<=100000)(hp:∀x∈l,x.l.length<=100000) :
  aI prog 125 [.slice a l.length c] F M (wKJ l F M):=by
 refine qZ hm func125 e125 (aA rfl) ?_
 simp only [zQZ,go_sem]
 refine wV l.length (dWB l F M) ⟨rfl,Keep.refl _,hold,(by simp only [go_sem, *] <;> rfl),_,[],(by simp only [go_sem, *] <;> rfl),yW.nil,rfl,(fun x hx=>by cases hx),List.Pairwise.nil⟩ ?_
 rintro i σ F' M' hi hst ⟨rfl,kp,old,q4,w,l',q3,mine,hpc,hown,hds⟩
 have q0:=hst 0 rfl
 simp only [go_sem] at q0
 clear hst
 have hll:l'.length=i:=by have:=congrArg List.length hpc; simp at this; omega
 by_cases hil:(i:Int) < l.length
 rotate_left
 ·rw [aJ (by omega)] at hpc
  obtain ⟨a',c',rfl⟩:=mine.shape
  simp only [go_sem,q0,q3,q4,hil]
  exact qW ⟨rfl,kp,old,a',c',l',rfl,hpc,⟨mine.own,fun x hx=>(hown x hx).own,hds⟩,mine.new,fun x hx g e=>(hown x hx).new g _ _ (by rw [e])⟩
 have hi0:(0:Int)<=i:=by omega
 have hi1:i < l.length:=by omega
 have ei:i64.wrap ((i:Int)+1)=i+1:=dQ (by omega) (by omega)
 obtain ⟨b,o,cs,rfl,hb,rows⟩:=(h.keep kp old).rows (by omega)
 obtain ⟨d1,d2⟩:=rows i hi1
 clear rows
 have t1:=aF hi1
 have hx:=hr _ (aH hi1)
 have hxl:=hp _ (aH hi1)
 generalize l[i]=x at *
 simp only [go_sem,q0,q3,q4,hil,hi0,aB,hb,d1,d2]
 have kc:=dWA F M' x (hx.keep kp old) old hxl
 with_reducible refine wW kc ?_
 rintro u F' M1 ⟨rfl,oV,kY,c',rfl,hs',hc',own'⟩
 refine ⟨(fun h=>by cases h),?_⟩
 simp only [go_sem]
 intro rb uK lW
 simp only [go_sem]
 have nG:Keep M' (M1.upd rb ⟨c'.cs,86,2⟩):=oV.new (oV.free lW)
 have hown2:∀y∈l'++[c'],yW 5 By.cs 88 F' M (M1.upd rb ⟨c'.cs,86,2⟩) (.slice y.lA y.l.length y.lC) y.l:=fun y hy=>by
  rcases aW.1 hy with hy | hy
  ·exact (hown y hy).keep nG
  ·rw [aX.1 hy]; exact ⟨own'.own.new lW,fun g n c e=>kp.free (own'.new g n c e)⟩
 have dWC:(l'++[c']).Pairwise qWZ:=by
  refine List.pairwise_append.2 ⟨hds,List.pairwise_singleton _ _,fun x hx y hy g e1 e2=>?_⟩
  rw [aX.1 hy] at e2
  rcases (hown x hx).own with ⟨e,_⟩ | ⟨g',cap,e,_,hM,_⟩
  ·rw [e1] at e; cases e
  ·rw [e1] at e
   injection e with e
   injection e with e
   have:=own'.new g' _ _ (by rw [e2,e])
   rw [this] at hM; cases hM
 refine sU (xs:=l') (ys:=[c']) Bl.len Bl.plain (by decide) ((mine.keep oV).fresh lW) (kp.trans nG) ⟨rfl,.inr ⟨⟨rb,0,none⟩,1,rfl,.inr ⟨rb,0,_,rfl,wH,by simp [Bl.fK]⟩⟩⟩ (by simp) (by simp; omega) ?_
 rintro v' M2 _ hfr fC ho3 wKK
 simp only [go_sem,q4,ei]
 exact ⟨hi1,rfl,fC,ho3 (kY.upd uK),(by simp only [go_sem, *] <;> rfl),v',l'++[c'],(by simp only [go_sem, *] <;> rfl),wKK,by rw [t1,bP,bP,hpc]; simp [zZ,hc',hs'],fun y hy=>⟨(hown2 y hy).own.frame hfr (by decide),(hown2 y hy).new⟩,dWC⟩
def yHQ (op:Int):Bool:=decide (5<=op) && decide (op<=7)
theorem jQE {op:Int}(h:yHQ op=true):op=5\/op=6\/op=7:=by
 simp [yHQ] at h;omega
theorem zYG (op k x:Int)(hk:isK k=true)(hop:yHQ op=true)(x0:0<=x)(x1:x<=wD (iF k)) :
  aI prog 165 [.int .i64 op,.int .i64 k,.int .i64 x] F M (Same F M (fQ (qWW op k x))):=by
 refine qZ hm func165 e165 (aA rfl) ?_;have kd:=kinds hk;have lw:=jJ (jQ k);rcases jQE hop with rfl | rfl | rfl
 ·simp only [xWF,go_sem];refine qQ (zHV F _ 9 k 0 x hk rfl (by omega) (by omega) x0 x1) ?_;simp only [fQ,go_sem];exact qW ⟨rfl,rfl,rfl⟩
 ·obtain ⟨n,rfl,hn⟩:=yZB x0 x1;have hp:=xK lw.2;have e:=xVZ (Nat.lt_trans hn hp);have esg:(if i64.signed=true then (-1:Int) else i64.max) = -1:=rfl;simp only [xWF,go_sem,esg,e];refine qQ (k52 F _ k) ?_;simp only [go_sem,zV hk];refine qQ (qZA F _ _ _ lw.1 lw.2) ?_;simp only [go_sem];refine qW ⟨?_,rfl,rfl⟩;have:wDV n = -(n:Int) - 1:=by unfold wDV; omega
  rw [this]; rfl
 ·simp only [xWF,go_sem];refine qQ (vWB F _ _) ?_;simp only [go_sem];exact qW ⟨by simp only [fQ,qWW]; simp,rfl,rfl⟩
def gD (n sz o:Int):Int:=if sz < o+n then 1 else if o.tmod n=0 then 0 else 3
theorem zYV (big:Bool)(ptr k:Int)(n:Nat)(a:Option Addr)(c:Nat)(m:List Bl)(b off:Nat)(h:dF 2 Bl.cs F M (.slice a m.length c) m)(hold:Old F M)(hb:b < m.length)(hst:(m[b]).st=1)(hn:nZ ptr k=n)(hn1:1<=n/\n<=4)(ho:off<=1000)(hl:(m[b]).l.length<=1000) :
  aI prog 159 [.agg #[.bool big,.int .i64 ptr],.slice a m.length c,(Sc.mk true 0 b off).val,.int .i64 k] F M (Same F M (.int .i64 (gD n (m[b]).l.length off))):=by
 refine qZ hm func159 zWK (aA rfl) ?_;simp only [c159,go_sem];intro r4 mW jP;generalize eQ:M.upd r4 ⟨[.bool big,.int .i64 ptr],39,2⟩=M1 at *;obtain ⟨jA,fP,f4⟩:=nw eQ hold mW jP;clear eQ;simp only [go_sem];intro r6 vI oI;generalize eQ:M1.upd r6 ⟨(Sc.mk true 0 b off).cs,90,4⟩=M2 at *;obtain ⟨iZ,eG,f6⟩:=nw eQ fP vI oI;clear eQ;have kp:=jA.trans iZ;have b4:=qG (F:=F) (iZ _ _ f4);have b6:=qG (F:=F) f6;have h2:=h.keep kp eG;have ks:=k89 F M2 big ptr k;rw [hn] at ks;simp only [go_sem,b4];with_reducible refine qQ ks ?_;obtain ⟨bb,o,cs,rfl,hbk,rows⟩:=h2.rows (by omega);obtain ⟨g1,g2⟩:=rows b hb;clear rows;generalize m[b]=x at *;obtain ⟨g2,g3⟩:=Bl.row g2;have hb0:(0:Int)<=b:=by omega
 have hbl:(b:Int) < m.length:=by omega
 have en:i64.wrap ((off:Int)+n)=off+n:=dQ (by omega) (by omega);have hn0:¬(n:Int)=0:=by omega
 by_cases hlt:(x.l.length:Int) < off+n
 ·have e:gD n x.l.length off=1:=by unfold gD; rw [if_pos hlt]
  simp only [go_sem,b6,hb0,hbl,aB,aK,hbk,g2,g3,hst,en,hlt];exact qX kp ⟨by rw [e],rfl,rfl⟩
 by_cases hal:(off:Int).tmod n=0
 ·have e:gD n x.l.length off=0:=by unfold gD; rw [if_neg hlt,if_pos hal]
  simp only [go_sem,b6,hb0,hbl,aB,aK,hbk,g2,g3,hst,en,hlt,hn0,hal];exact qX kp ⟨by rw [e],rfl,rfl⟩
 ·have e:gD n x.l.length off=3:=by unfold gD; rw [if_neg hlt,if_neg hal]
  simp only [go_sem,b6,hb0,hbl,aB,aK,hbk,g2,g3,hst,en,hlt,hn0,hal];exact qX kp ⟨by rw [e],rfl,rfl⟩
def qVY (big:Bool)(k:Int)(n off:Nat)(l:List By):Sc × Int:=
 if gD n l.length off=0 then yV big k ((l.drop off).take n) else (⟨false,0,0,0⟩,gD n l.length off)
theorem dWE (big:Bool)(ptr k:Int)(n:Nat)(a:Option Addr)(c:Nat)(m:List Bl)(b off:Nat)(h:dF 2 Bl.cs F M (.slice a m.length c) m)(hold:Old F M)(hp:ptr=2\/ptr=4)(hb:b < m.length)(hst:(m[b]).st=1)(hn:nZ ptr k=n)(hn1:1<=n/\n<=4)(ho:off<=1000)(hl:(m[b]).l.length<=1000)
  (hx:dF 5 By.cs F M (.slice (m[b]).lA (m[b]).l.length (m[b]).lC) (m[b]).l)(hby:∀x∈(m[b]).l,lQ x=true) :
  aI prog 160 [.agg #[.bool big,.int .i64 ptr],.slice a m.length c,(Sc.mk true 0 b off).val,.int .i64 k] F M (Same F M (.tuple #[(qVY big k n off (m[b]).l).1.val,.int .i64 (qVY big k n off (m[b]).l).2])):=by
 refine qZ hm func160 e160 (aA rfl) ?_;simp only [c160,go_sem];intro r4 mW jP;generalize eQ:M.upd r4 ⟨[.bool big,.int .i64 ptr],39,2⟩=M1 at *;obtain ⟨jA,fP,f4⟩:=nw eQ hold mW jP;clear eQ;simp only [go_sem];intro r6 vI oI;generalize eQ:M1.upd r6 ⟨(Sc.mk true 0 b off).cs,90,4⟩=M2 at *;obtain ⟨iZ,eG,f6⟩:=nw eQ fP vI oI;clear eQ;simp only [go_sem];intro r8 hF8 rQ;have n8:M r8=none:=(jA.trans iZ).free rQ;generalize eQ:M2.upd r8 ⟨[.bool false,.int .i64 0,.int .i64 0,.int .i64 0],90,4⟩=M3 at *;obtain ⟨nU,iE,f8⟩:=nw eQ eG hF8 rQ;clear eQ;have kp:=(jA.trans iZ).trans nU;have b4:=qG (F:=F) (nU _ _ (iZ _ _ f4));have b6:=qG (F:=F) (nU _ _ f6);have b8:=qG (F:=F) f8;have h3:=h.keep kp iE;have hx3:=hx.keep kp iE;have kr:=zYV F M3 big ptr k n a c m b off h3 iE hb hst hn hn1 ho hl;have ks:=k89 F M3 big ptr k;rw [hn] at ks;simp only [go_sem,b4,b6];with_reducible refine qQ kr ?_;by_cases hs:gD n (m[b]).l.length off=0;rotate_left
 ·have e:qVY big k n off (m[b]).l=(⟨false,0,0,0⟩,gD n (m[b]).l.length off):=by unfold qVY; rw [if_neg hs]
  rw [e];simp only [setH,go_sem,f8,hs];exact qX (kp.new n8) ⟨rfl,rfl,rfl⟩
 have e:qVY big k n off (m[b]).l=yV big k (((m[b]).l.drop off).take n):=by unfold qVY; rw [if_pos hs]
 rw [e];have hfit:¬((m[b]).l.length:Int) < off+n:=fun hlt=>by unfold gD at hs; rw [if_pos hlt] at hs; cases hs
 obtain ⟨bb,o,cs,rfl,hbk,rows⟩:=h3.rows (by omega);obtain ⟨g1,g2⟩:=rows b hb;clear rows;generalize m[b]=x at *;obtain ⟨g2,g3⟩:=Bl.row g2;have hb0:(0:Int)<=b:=by omega
 have hbl:(b:Int) < m.length:=by omega
 have ho0:(0:Int)<=off:=by omega
 have ew:i64.wrap ((off:Int)+n)=((off+n:Nat):Int):=by rw [dQ (by omega) (by omega)]; omega
 have e1:(0:Int)<=((off+n:Nat):Int):=by omega
 have e2:(off:Int)<=((off+n:Nat):Int):=by omega
 have e3:((off+n:Nat):Int)<=x.l.length:=by omega
 have e4:x.l.length<=x.lC:=by
  obtain ⟨_,ad,cap,hc,e,_⟩:=hx3;cases e; exact hc
 have e4':(x.l.length:Int)<=x.lC:=by omega
 have e5:off+n - off=n:=by omega
 have hcl:=qKK (l:=x.l) (lo:=off) (n:=n) (by omega);have hcut:=dF.cut hx3 (lo:=off) (n:=n) (by omega);have kG:=k25 F M3 big ptr k _ _ ((x.l.drop off).take n) hp iE hcut (by rw [hcl]; omega) (fun z hz=>hby z (List.mem_of_mem_drop (List.mem_of_mem_take hz))) (fun _=>by rw [hcl,hn]; rfl);rw [hcl] at kG;simp only [go_sem,b4,b6,hb0,hbl,aB,hbk,g3,hs];with_reducible refine qQ ks ?_;simp only [go_sem,aB,ho0,ew,e2,e3,e4,e5];with_reducible refine qQ kG ?_;generalize yV big k ((x.l.drop off).take n)=rv at *;simp only [setH,go_sem,f8];exact qX (kp.new n8) ⟨rfl,rfl,rfl⟩
def zYH (m:List Bl)(b on:Nat)(bs:List By)(cls:Int)(F:Fz)(M:Hp)(u:Value)(F':Fz)(M':Hp):Prop:=
 F'=F/\Keep M M'/\Old F M'/\∃a c,∃m':List Bl,u=.tuple #[.slice a m'.length c,.int .i64 cls]/\fH 86 88 F M' a c m'/\(cls=0->qJD m b on bs m')
theorem wYF {m m':List Bl}(h:m'.map zZ=m.map zZ)(i:Nat):(jD m' (i:Int)).st=(jD m (i:Int)).st/\(jD m' (i:Int)).l=(jD m (i:Int)).l:=by
 have e:=congrArg (fun l=>l[i]?) h;simp only [List.getElem?_map] at e;unfold jD;rw [aB];cases h1:m'[i]? <;> cases h2:m[i]? <;> rw [h1,h2] at e <;> simp [zZ] at e ⊢;exact e
theorem jQF {m m1:List Bl}{b on:Nat}{bs:List By}(hb:b < m1.length)(h:m1.map zZ=m.map zZ){x:Bl}(hs:x.st=(m1[b]).st)(hl:x.l=splice (m1[b]).l on bs):qJD m b on bs (m1.set b x):=by
 have hlen:m1.length=m.length:=by have:=congrArg List.length h; simpa using this
 have ha:∀i:Nat,jD (m1.set b x) (i:Int)=if i=b then x else jD m1 (i:Int):=fun i=>by
  unfold jD;rw [aB,List.getElem?_set];by_cases e:i=b
  ·rw [if_pos e.symm,if_pos e];simp [hb]
  ·rw [if_neg (Ne.symm e),if_neg e]
 have hbb:=yY hb;refine ⟨by rw [aZ,hlen],fun i=>?_,fun i=>?_⟩
 ·rw [ha];split
  ·rename_i e; subst e; rw [hs,<-hbb]; exact (wYF h _).1
  ·exact (wYF h i).1
 ·rw [ha];split
  ·rename_i e; subst e; rw [hl,<-hbb,(wYF h _).2]
  ·exact (wYF h i).2
def psI (x:Bl)(bs:List By)(on:Nat)(g z:Nat)(F0:Fz)(M0:Hp)(i:Nat)(σ:Env)(F:Fz)(M:Hp):Prop:=
 F0=F/\M=M0.upd g ⟨(splice x.l on (bs.take i)).flatMap By.cs,88,z⟩/\Ax.look σ 14=some (.int .i64 i)
theorem dWF (big:Bool)(ptr k:Int)(n:Nat)(s:Sc)(a:Option Addr)(c:Nat)(m:List Bl)(b off:Nat)(h:dF 2 Bl.cs F M (.slice a m.length c) m)(hr:∀x∈m,dF 5 By.cs F M (.slice x.lA x.l.length x.lC) x.l)(hold:Old F M)(hp:ptr=2\/ptr=4)(hb:b < m.length)(hst:(m[b]).st=1)(hn:nZ ptr k=n)(hn1:1<=n/\n<=4)(ho:off<=1000)(hml:m.length<=1000)(hl:∀x∈m,x.l.length<=1000) :
  aI prog 128 [.agg #[.bool big,.int .i64 ptr],.slice a m.length c,(Sc.mk true 0 b off).val,.int .i64 k,s.val] F M (zYH m b off (iK big n s) (gD n (m[b]).l.length off) F M):=by
 refine qZ hm func128 e128 (aA rfl) ?_
 have hlb:=hl _ (aH hb)
 simp only [vQG,go_sem]
 intro r5 lM gU
 generalize eQ:M.upd r5 ⟨[.bool big,.int .i64 ptr],39,2⟩=M1 at *
 obtain ⟨eH,dB,f5⟩:=nw eQ hold lM gU
 clear eQ
 simp only [go_sem]
 intro r7 wU qB
 generalize eQ:M1.upd r7 ⟨(Sc.mk true 0 b off).cs,90,4⟩=M2 at *
 obtain ⟨lY,iO,f7⟩:=nw eQ dB wU qB
 clear eQ
 simp only [go_sem]
 intro r9 hF9 hM9
 generalize eQ:M2.upd r9 ⟨s.cs,90,4⟩=M3 at *
 obtain ⟨xE,mZ,f9⟩:=nw eQ iO hF9 hM9
 clear eQ
 have kp:=(eH.trans lY).trans xE
 have f73:=xE _ _ f7
 have f53:=xE _ _ (lY _ _ f5)
 have b5:=qG (F:=F) f53
 have b7:=qG (F:=F) f73
 have b9:=qG (F:=F) f9
 have h3:=h.keep kp mZ
 have hr3:=fun x hx=>(hr x hx).keep kp mZ
 have kr:=zYV F M3 big ptr k n a c m b off h3 mZ hb hst hn hn1 ho hlb
 have kc:=xKG F M3 a c m h3 hr3 mZ (by omega) (fun x hx=>by have:=hl x hx; omega)
 clear eH lY xE dB iO lM gU wU qB hF9 hM9 f5 f7
 simp only [go_sem,b5,b7]
 with_reducible refine qQ kr ?_
 by_cases hs:gD n (m[b]).l.length off=0
 rotate_left
 ·simp only [go_sem,hs]
  with_reducible refine wW kc ?_
  rintro u F' M4 ⟨rfl,jA,fP,a',c',m',rfl,hbk,own,_⟩
  refine ⟨(fun h=>by cases h),?_⟩
  simp only [go_sem]
  exact qW ⟨rfl,kp.trans jA,fP,a',c',m',rfl,own,fun h=>absurd h hs⟩
 simp only [go_sem,hs]
 with_reducible refine wW kc ?_
 rintro u F' M4 ⟨rfl,jA,fP,a',c',m',rfl,hbk,own,_,hnew⟩
 refine ⟨(fun h=>by cases h),?_⟩
 have hlen':m'.length=m.length:=by have:=congrArg List.length hbk; simpa using this
 have hb':b < m'.length:=by omega
 have qXA:(m'[b]).st=(m[b]).st/\(m'[b]).l=(m[b]).l:=by
  have:=wYF hbk b
  rw [yY hb,yY hb'] at this; exact this
 have hfit:¬((m[b]).l.length:Int) < off+n:=fun hlt=>by unfold gD at hs; rw [if_pos hlt] at hs; cases hs
 rw [<-qXA.2] at hfit hlb
 have f54:=jA _ _ f53
 have f74:=jA _ _ f73
 have f94:=jA _ _ f9
 have b54:=qG (F:=F') f54
 have b74:=qG (F:=F') f74
 have b94:=qG (F:=F') f94
 have kP:=k58 F' M4 big ptr k s hp fP
 rw [hn,aB] at kP
 simp only [go_sem,b54,b94]
 with_reducible refine wW kP ?_
 rintro u F5 M5 hrow
 have zYD:=hrow.own
 have hnP:∀g w d,u=.slice (some ⟨g,0,none⟩) w d->M4 g=none:=fun g w d e=>by
  obtain ⟨_,hr⟩:=hrow
  rcases hr with ⟨_,h1,_⟩ | ⟨g',cap,_,h2,h1,_⟩
  ·rw [h1] at e; cases e
  ·rw [h1] at e; cases e; exact h2
 obtain ⟨hG,le5,eH,o5,aP,cP,rfl,rdP⟩:=hrow.le By.len (by rw [jV]; omega)
 subst hG
 refine ⟨(fun h=>by cases h),?_⟩
 have dB:=o5 fP
 have qJH:=own.keep eH
 have f75:=eH _ _ f74
 clear hrow b54 b74 b94 f54 f94 kc kr kP b5 b7 b9 h3 hr3
 rcases qJH.rows _ (aH hb') with ⟨e,el⟩ | ⟨g,cap,e,hFg,yF,hlc,hcm⟩
 ·rw [el] at hfit; simp at hfit; omega
 injection e with e1 e2 e3
 have hg4:M4 g=some ⟨(m'[b]).l.flatMap By.cs,88,cap * 5⟩:=by
  rcases own.rows _ (aH hb') with ⟨e,el⟩ | ⟨g',cap',e,_,vZE,_⟩
  ·rw [el] at hfit; simp at hfit; omega
  ·injection e with e1' e2' e3'
   rw [e1] at e1'
   injection e1' with e1'
   injection e1' with e1'
   subst e1'
   rw [vZE,<-e3',<-e3]
 obtain ⟨gr,orr,csr,ear,hbr,xHK⟩:=(qJH.row.rd Bl.len (by omega)).rows (by omega)
 obtain ⟨g1,g2⟩:=xHK b hb'
 clear xHK
 obtain ⟨g2,g3⟩:=Bl.row g2
 have hgr:¬gr=g:=by
  rintro rfl
  rcases qJH.row with ⟨_,el⟩ | ⟨g',cap',e',_,hM',_⟩
  ·rw [el] at hb'; cases hb'
  ·rw [ear] at e'
   injection e' with e' _ _
   injection e' with e'
   injection e' with e'
   subst e'
   rw [yF] at hM'
   injection hM' with hM'
   injection hM' with _ hM' _
   exact absurd hM' (by decide)
 obtain ⟨gp,op,csp,eap,hbp,xHJ⟩:=(zYD.rd By.len (by rw [jV]; omega)).rows (by rw [jV]; omega)
 have hgp:¬gp=g:=by
  rintro rfl
  rcases zYD with ⟨e',_⟩ | ⟨g',cap',e',_⟩
  ·rw [eap] at e'; cases e'
  ·have hop:=e'
   rw [eap] at hop
   injection hop with hop _ _
   injection hop with hop
   injection hop with hop
   subst hop
   rw [hnP _ _ _ e'] at hg4; cases hg4
 have h7g:¬r7=g:=by
  rintro rfl
  rw [f75] at yF
  injection yF with yF
  injection yF with _ yF _
  exact absurd yF (by decide)
 have dXQ:M g=none:=by
  have:=hnew _ (aH hb') g e1
  exact kp.free this
 have hPl:=jV big n s
 simp only [go_sem]
 refine wV n (psI (m'[b]) (iK big n s) off g (cap * 5) F5 M5) ⟨rfl,by rw [List.take_zero,yKD,wQC yF],(by simp only [go_sem, *] <;> rfl)⟩ ?_
 rintro i σ F' M' hi hst' ⟨rfl,rfl,q14⟩
 have q1:=hst' 1 rfl
 have q3:=hst' 3 rfl
 have q7:=hst' 7 rfl
 have q13:=hst' 13 rfl
 simp only [go_sem] at q1 q3 q7 q13
 clear hst'
 by_cases hil:(i:Int) < n
 rotate_left
 ·have hin:i=n:=by omega
  rw [aJ (by omega)]
  simp only [go_sem,q1,q13,q14,hPl,hil]
  refine qW ⟨rfl,?_,dB.upd hFg,a',c',m'.set b ⟨(m'[b]).st,(m'[b]).lA,(m'[b]).lC,splice (m'[b]).l off (iK big n s)⟩,?_,qJH.lay (by decide) hb' e1 yF (vP (by omega)),fun _=>?_⟩
  ·exact ((kp.trans jA).trans eH).new dXQ
  ·rw [aZ]
  ·exact jQF hb' hbk rfl rfl
 have hi0:(0:Int)<=i:=by omega
 have hi1:i < n:=by omega
 have hi2:i < (iK big n s).length:=by omega
 have ei:i64.wrap ((i:Int)+1)=i+1:=dQ (by omega) (by omega)
 have eo:i64.wrap ((off:Int)+i)=((off+i:Nat):Int):=by rw [dQ (by omega) (by omega)]; omega
 have eo0:(0:Int)<=((off+i:Nat):Int):=by omega
 have eo1:((off+i:Nat):Int) < (m'[b]).l.length:=by omega
 have hb0:(0:Int)<=b:=by omega
 have hbl:(b:Int) < m'.length:=by omega
 obtain ⟨p1,p2⟩:=xHJ i hi2
 clear xHJ
 have hstep:=wYC (l:=(m'[b]).l) (bs:=iK big n s) (at_:=off) (i:=i) (by omega) hi2
 have hsl:=vP (l:=(m'[b]).l) (at_:=off) (bs:=(iK big n s).take i) (by rw [dW]; omega)
 have hfs:=iC By.len (iK big n s)[i] (splice (m'[b]).l off ((iK big n s).take i)) (off+i) (by omega)
 have hfl:(off+i) * 5+5<=((splice (m'[b]).l off ((iK big n s).take i)).flatMap By.cs).length:=by rw [yG By.len,hsl]; omega
 rw [hstep] at hfs
 have vZE:∀e,(M5.upd g e) g=some e:=fun e=>Hp.qV _ _ _
 have b7':∀e,blk F5 (M5.upd g e) r7=some (Sc.mk true 0 b off).cs:=fun e=>by rw [iG h7g]; exact qG f75
 have br':∀e,blk F5 (M5.upd g e) gr=some csr:=fun e=>by rw [iG hgr]; exact hbr
 have bp':∀e,blk F5 (M5.upd g e) gp=some csp:=fun e=>by rw [iG hgp]; exact hbp
 rw [ear] at q1
 rw [eap] at q13
 generalize iK big n s=bs at *
 generalize hX:(m'[b]).l=X at *
 rw [e1] at g3
 generalize bs[i]=y at *
 simp only [setH,Hp.wZ,go_sem,q1,q7,q13,q14,hPl,hil,hi0,hb0,hbl,aB,aY,b7',br',bp',g3,p1,p2,eo,eo0,eo1,vZE,hfs,hfl,ei]
 exact ⟨hi1,rfl,by rw [hX],(by simp only [go_sem, *] <;> rfl)⟩
end Go.Proofs.Tryz.K
namespace Go.Ax
open Go
theorem jVF {x:By}(h:lQ x=true)(s1:x.st=1):x=⟨1,x.n,0,0,0⟩/\0<=x.n/\x.n<=255:=by
 simp only [lQ,s1,Int.reduceEq,if_false,if_true,aC,decide_eq_true_eq] at h;obtain ⟨a,b,c,d,e⟩:=x;simp only at h s1;obtain ⟨⟨⟨h1,h2⟩,h3⟩,h4⟩:=h;subst s1 h2 h3 h4;exact ⟨rfl,h1⟩
theorem xKV {x:By}(h:lQ x=true)(s1:¬x.st=1)(s2:¬x.st=2):x=⟨0,0,0,0,0⟩:=by
 simp only [lQ,s1,s2,if_false] at h;by_cases s0:x.st=0
 ·rw [if_pos s0] at h; exact of_decide_eq_true h
 ·rw [if_neg s0] at h; cases h
theorem xKH {x:By}(h:lQ x=true)(s2:x.st=2):x=⟨2,0,x.b,x.o,x.i⟩:=by
 simp only [lQ,s2,Int.reduceEq,if_false,if_true,aC,decide_eq_true_eq] at h;obtain ⟨a,b,c,d,e⟩:=x;simp only at h s2;have:=h.1.1.1;subst s2 this;rfl
theorem jHQ {q:Int}(h:isK q=true):¬q=7/\¬q=0/\¬q=11:=by simp only [isK,aC,decide_eq_true_eq] at h; omega
def z0:Sc:=⟨false,0,0,0⟩
def xX (n sz o:Int):Int:=if sz < o+n then 1 else if o.tmod n=0 then 0 else 3
def pV (m:List Bl)(n:Int)(s:Sc):Int:=if (jD m s.b).st=1 then xX n (jD m s.b).l.length s.o else 2
def rE (big:Bool)(ptr k:Int)(m:List Bl)(s:Sc):Sc × Int:=
 if pV m (yJ ptr k) s=0 then yV big k (((jD m s.b).l.drop s.o.toNat).take (yJ ptr k).toNat) else (z0,pV m (yJ ptr k) s)
def rU (m:List Bl)(a:Sc)(n:Int):Sc × Int:=
 if a.b=0/\n=0 then (a,0) else if ¬(jD m a.b).st=1 then (z0,2)
 else if 0<=a.o+mO n 32/\a.o+mO n 32<=(jD m a.b).l.length then (⟨a.p,a.n,a.b,a.o+mO n 32⟩,0) else (z0,1)
def nD (a b:Sc):Int × Int:=if a.b=b.b then ((a.o - b.o) % 2 ^ 32,0) else (0,9)
def qWK (r:Int × Int):Sc × Int:=if r.2=0 then (⟨false,r.1,0,0⟩,0) else (z0,r.2)
def iJ (p:Pg)(m:List Bl)(x:Xp)(a b:Sc):Sc × Int:=
 if x.op=1 then (⟨decide (x.kind=7),x.n,0,0⟩,0)
 else if x.op=2 then (⟨true,0,x.n,0⟩,0)
 else if x.op=3 then rE p.big p.ptr x.kind m a
 else if x.op=4 then (⟨false,yX (bF p.exprs x.a) a.n % 2 ^ (iF x.kind).toNat,0,0⟩,0)
 else if x.op=7 then (if bF p.exprs x.a=7 then (⟨false,if a.b=0 then 1 else 0,0,0⟩,0) else qWK (qWW 7 (bF p.exprs x.a) a.n))
 else if x.op=5\/x.op=6 then qWK (qWW x.op x.kind a.n)
 else if x.op=20 then rU m a b.n
 else if x.op=21 then qWK (nD a b)
 else if x.op=22 then (⟨false,if a=b then 1 else 0,0,0⟩,0)
 else qWK (rO x.op (bF p.exprs x.a) a.n b.n)
def exV (p:Pg)(m:List Bl)(x:Xp)(ra rb:Sc × Int):Sc × Int:=
 if 0 < bH x.op/\¬ra.2=0 then (z0,ra.2) else if 1 < bH x.op/\¬rb.2=0 then (z0,rb.2) else iJ p m x ra.1 rb.1
def vAt (l:List (Sc × Int))(i:Int):Sc × Int:=(l[i.toNat]?).getD (z0,0)
def evL (p:Pg)(m:List Bl):Nat->List (Sc × Int)
 | 0=>[]
 | n+1=>evL p m n++[match p.exprs[n]? with | some x=>exV p m x (vAt (evL p m n) x.a) (vAt (evL p m n) x.b) | none=>(z0,0)]
def lJ (p:Pg)(m:List Bl)(e:Int):Sc × Int:=vAt (evL p m (e.toNat+1)) e
theorem jU (p:Pg)(m:List Bl):∀n,(evL p m n).length=n
 | 0=>rfl
 | n+1=>by rw [evL,aO,jU p m n]; rfl
theorem yKY (p:Pg)(m:List Bl):∀(n i:Nat),i < n->vAt (evL p m n) (i:Int)=lJ p m (i:Int)
 | 0,i,h=>by omega
 | n+1,i,h=>by
  by_cases e:i=n
  ·subst e; unfold lJ; rw [aB]
  ·have ih:=yKY p m n i (by omega);rw [<-ih];unfold vAt;rw [aB,evL,List.getElem?_append_left (by rw [jU]; omega)]
theorem wQE {p:Pg}{m:List Bl}{i:Nat}{x:Xp}(hx:p.exprs[i]? = some x)(ha:0 < bH x.op->0<=x.a/\x.a < i)(hb:1 < bH x.op->0<=x.b/\x.b < i):lJ p m (i:Int)=exV p m x (if 0 < bH x.op then lJ p m x.a else (z0,0)) (if 1 < bH x.op then lJ p m x.b else (z0,0)):=by
 have e1:lJ p m (i:Int)=exV p m x (vAt (evL p m i) x.a) (vAt (evL p m i) x.b):=by
  unfold lJ vAt;rw [aB,evL,List.getElem?_append_right (by rw [jU]; omega),jU,fM,hx];rfl
 rw [e1];have key:∀y:Int,0<=y/\y < i->vAt (evL p m i) y=lJ p m y:=fun y h=>by
  obtain ⟨k,rfl⟩:=aG h.1;exact yKY p m i k (by omega)
 unfold exV;by_cases h0:0 < bH x.op
 ·rw [if_pos h0,key _ (ha h0)];by_cases h1:1 < bH x.op
  ·rw [if_pos h1,key _ (hb h1)]
  ·simp only [h0,h1,true_and,false_and,if_false];have hop:¬(x.op=20\/x.op=21\/x.op=22)/\(x.op=1\/x.op=2\/x.op=3\/x.op=4\/x.op=5\/x.op=6\/x.op=7):=by
    unfold bH at h0 h1;split at h0
    ·omega
    ·split at h1 <;> omega
   split
   ·rfl
   ·unfold iJ;rcases hop.2 with h | h | h | h | h | h | h <;> simp [h]
 ·have hop:x.op=1\/x.op=2:=by
   unfold bH at h0;split at h0
   ·assumption
   ·split at h0 <;> omega
  have h1:¬1 < bH x.op:=by
   unfold bH; rw [if_pos hop]; omega
  simp only [h0,h1,false_and,if_false];unfold iJ;rcases hop with h | h <;> simp [h]
def GoodS (p:Pg)(k:Int)(s:Sc):Prop:=
 (k=7/\s.p=true/\s.n=0/\(0<=s.b/\s.b < (yK p).length)/\0<=s.o/\s.o<=nP (yK p) s.b)\/(isK k=true/\s.p=false/\s.b=0/\s.o=0/\nN s.n (iF k)=true)
def vS (p:Pg)(k:Int)(r:Sc × Int):Prop:=(r.2=0/\GoodS p k r.1)\/((1<=r.2/\r.2<=10)/\r.1=z0)
theorem xKD (p:Pg):nP (yK p) 0=0:=by unfold nP yK; rfl
theorem jHW (big:Bool)(k:Int)(l:List By)(h:¬(yV big k l).2=0):((yV big k l).2=7\/(yV big k l).2=8)/\(yV big k l).1=z0:=by
 unfold yV jZ at h ⊢;split at h
 ·rename_i h1; rw [if_pos h1]; exact ⟨.inl rfl,rfl⟩
 rename_i h1; rw [if_neg h1];split at h
 ·rename_i h2; rw [if_pos h2];split at h
  ·exact absurd rfl h
  ·rename_i h3; rw [if_neg h3]; exact ⟨.inr rfl,rfl⟩
 rename_i h2; rw [if_neg h2];split at h
 ·rename_i h3; rw [if_pos h3]; exact ⟨.inr rfl,rfl⟩
 ·exact absurd rfl h
theorem jWQ {p:Pg}(hc:wY p=true){x:By}(h:lQ x=true)(hi:zL (yK p) x=true):jVE x:=by
 by_cases s1:x.st=1
 ·obtain ⟨e,n0,n1⟩:=jVF h s1;exact .inr (.inl ⟨x.n,e,n0,n1⟩)
 by_cases s2:x.st=2
 ·obtain ⟨q1,q2,q3,q4,q5⟩:=zDF hc h hi s2;exact .inr (.inr ⟨x.b,x.o,x.i,xKH h s2,by omega,by omega,by omega,by omega⟩)
 ·exact .inl (xKV h s1 s2)
theorem nI {p:Pg}{s:Sc}(h:GoodS p 7 s):s.p=true/\s.n=0/\(0<=s.b/\s.b < (yK p).length)/\0<=s.o/\s.o<=nP (yK p) s.b:=by
 rcases h with ⟨_,h⟩ | ⟨h,_⟩
 ·exact h
 ·exact absurd h (by decide)
theorem kZ {p:Pg}{k:Int}(hk:isK k=true){s:Sc}(h:GoodS p k s):s.p=false/\s.b=0/\s.o=0/\nN s.n (iF k)=true:=by
 rcases h with ⟨h,_⟩ | ⟨_,h⟩
 ·rw [h] at hk; exact absurd hk (by decide)
 ·exact h
theorem wGB {n sz o:Int}(h:xX n sz o=0):o+n<=sz/\o.tmod n=0:=by
 unfold xX at h;split at h
 ·cases h
 split at h
 ·rename_i h1 h2; exact ⟨by omega,h2⟩
 ·cases h
theorem jHX (n sz o:Int):xX n sz o=0\/xX n sz o=1\/xX n sz o=3:=by
 unfold xX;split
 ·exact .inr (.inl rfl)
 split
 ·exact .inl rfl
 ·exact .inr (.inr rfl)
theorem xHG {p:Pg}{m:List Bl}(hm:iP p m){n:Int}{s:Sc}(hs:GoodS p 7 s)(h:pV m n s=0):∃b:Nat,∃hb:b < m.length,s.b=b/\1<=b/\(m[b]).st=1/\jD m s.b=m[b]/\((m[b]).l.length:Int)=nP (yK p) s.b/\s.o+n<=(m[b]).l.length/\s.o.tmod n=0:=by
 obtain ⟨_,_,⟨b0,b1⟩,o0,o1⟩:=nI hs;have hl:=jI p;have hl2:=hm.len;obtain ⟨b,hb⟩:=aG b0;have hbl:b < m.length:=by omega
 have e:=yY hbl;unfold pV at h;rw [hb,e] at h;split at h
 ·rename_i hst;have hsz:=hm.size b hbl hst;obtain ⟨h1,h2⟩:=wGB h;refine ⟨b,hbl,hb,?_,hst,by rw [hb,e],by rw [hb]; exact hsz,h1,h2⟩;rcases Nat.eq_zero_or_pos b with h0 | h0
  ·subst h0; have:=hm.zero hbl; omega
  ·exact h0
 ·cases h
theorem jWW {p:Pg}(hc:wY p=true){m:List Bl}(hm:iP p m){k:Int}(hk:isS k=true){s:Sc}(hs:GoodS p 7 s):vS p k (rE p.big p.ptr k m s):=by
 have hp:=(yH hc).1;have yKA:=gV hp (.inr (.inr hk));unfold rE;by_cases hw:pV m (yJ p.ptr k) s=0;rotate_left
 ·rw [if_neg hw];refine .inr ⟨?_,rfl⟩;unfold pV at hw ⊢;split
  ·rename_i h1;rw [if_pos h1] at hw;rcases jHX (yJ p.ptr k) (jD m s.b).l.length s.o with h | h | h
   ·exact absurd h hw
   ·show 1<=xX _ _ _/\xX _ _ _<=10;omega
   ·show 1<=xX _ _ _/\xX _ _ _<=10;omega
  ·exact ⟨by decide,by decide⟩
 rw [if_pos hw];obtain ⟨b,hb,eb,b1,hst,ebl,hsz,hfit,_⟩:=xHG hm hs hw;obtain ⟨_,_,_,o0,_⟩:=nI hs;rw [ebl];obtain ⟨by1,_,_,_⟩:=hm.bytes b hb;have pt1:=bW.1 (hm.ptrs b hb);obtain ⟨on,hon⟩:=aG o0;have hcl:=qKK (l:=(m[b]).l) (lo:=on) (n:=(yJ p.ptr k).toNat) (by omega);have hmem:∀x∈((m[b]).l.drop on).take (yJ p.ptr k).toNat,x∈(m[b]).l:=fun x hx=>List.mem_of_mem_drop (List.mem_of_mem_take hx)
 rw [hon,aB];generalize ((m[b]).l.drop on).take (yJ p.ptr k).toNat=xs at *;by_cases h0:(yV p.big k xs).2=0;rotate_left
 ·obtain ⟨h1,h2⟩:=jHW _ _ _ h0;exact .inr ⟨by omega,h2⟩
 have hr:=xKK p.big hp hk (xs:=xs) (by omega) (fun x hx=>jWQ hc (by1 x (hmem x hx)) (pt1 x (hmem x hx))) h0;refine .inl ⟨h0,?_⟩;by_cases h7:k=7
 ·obtain ⟨vo,hvo,q1,q2,q3,q4,q5⟩:=hr.1 h7;have ho:=hvo.rng;refine .inl ⟨h7,q4,q5,?_⟩;by_cases hb0:(yV p.big k xs).1.b=0
  ·have hl:=jI p;rw [hb0,xKD,q3 hb0]; omega
  ·subst h7;have e:yV p.big 7 xs=jZ xs:=by
    unfold yV at h0 ⊢;split at h0
    ·cases h0
    ·rename_i h1; rw [if_neg h1,if_pos rfl]
   have e2:(yV p.big 7 xs).1.b=(jW xs 0).b/\(yV p.big 7 xs).1.o=(jW xs 0).o:=by
    rw [e] at h0 ⊢;unfold jZ at h0 ⊢;split at h0
    ·rename_i h1; rw [if_pos h1]; exact ⟨rfl,rfl⟩
    ·cases h0
   have hx:=yVB (l:=xs) (i:=0) (by omega);have hst2:=jVG (by1 _ (hmem _ hx)) (by rw [<-e2.1]; omega);have hpi:=pt1 _ (hmem _ hx);simp only [zL,hst2,decide_true,bQ,Bool.not_eq_true',dU,decide_eq_false_iff_not] at hpi;have e3:=e2.1;have e4:=e2.2;rw [<-e3,<-e4] at hpi;omega
 ·obtain ⟨q1,q2⟩:=hr.2 h7;have hkk:isK k=true:=by simp only [isS,isK,aC,decide_eq_true_eq] at hk ⊢; omega
  rw [q2];exact .inr ⟨hkk,rfl,rfl,rfl,q1⟩
theorem jWX {p:Pg}{m:List Bl}(hm:iP p m){a:Sc}(ha:GoodS p 7 a)(n:Int):vS p 7 (rU m a n):=by
 obtain ⟨h1,h2,⟨b0,b1⟩,o0,o1⟩:=nI ha;have hl:=jI p;have hl2:=hm.len;unfold rU;split
 ·exact .inl ⟨rfl,ha⟩
 split
 ·exact .inr ⟨⟨by decide,by decide⟩,rfl⟩
 rename_i hst;have hst:=Decidable.not_not.1 hst;split
 ·rename_i hf;obtain ⟨b,hb⟩:=aG b0;have hbl:b < m.length:=by omega
  rw [hb,yY hbl] at hst hf;have hsz:=hm.size b hbl hst;refine .inl ⟨rfl,.inl ⟨rfl,h1,h2,⟨b0,b1⟩,hf.1,?_⟩⟩;show a.o+mO n 32<=nP (yK p) a.b;rw [hb,<-hsz]; exact hf.2
 ·exact .inr ⟨⟨by decide,by decide⟩,rfl⟩
theorem vT {p:Pg}{k:Int}(hk:isK k=true){r:Int × Int}(h:r.2=0->nN r.1 (iF k)=true)(hb:0<=r.2/\r.2<=10):vS p k (qWK r):=by
 unfold qWK;split
 ·rename_i h0; exact .inl ⟨rfl,.inr ⟨hk,rfl,rfl,rfl,h h0⟩⟩
 ·exact .inr ⟨⟨by omega,hb.2⟩,rfl⟩
theorem vZF {op k bad:Int}(h:wGQ op k bad=true):4<=bad/\bad<=6:=by
 unfold wGQ at h;split at h
 ·simp only [aC,decide_eq_true_eq] at h; omega
 split at h
 ·simp only [dJ,aC,decide_eq_true_eq] at h; omega
 split at h
 ·simp only [decide_eq_true_eq] at h; omega
 ·cases h
theorem yKB {op k a b:Int}:0<=(rO op k a b).2/\(rO op k a b).2<=10:=by
 rcases xXB (op:=op) (k:=k) (a:=a) (b:=b) with h | h
 ·omega
 ·have:=vZF h; omega
theorem jO {n w:Int}(h:nN n w=true):0<=n/\n<=wD w:=by
 simp only [nN,aC,decide_eq_true_eq] at h; exact h
theorem w6:iF 6=32:=by decide
theorem oD {nv:Nat}{es:List Xp}{i:Nat}{x:Xp}(h:iV nv es i x=true):1<=x.op/\x.op<=22/\(0 < bH x.op->0<=x.a/\x.a < i)/\(1 < bH x.op->0<=x.b/\x.b < i):=by
 unfold iV iM at h;rw [aC] at h;obtain ⟨h,_⟩:=h;by_cases h0:dO x.op=0
 ·have hop:x.op=1\/x.op=2:=by
   unfold dO at h0;split at h0
   ·assumption
   split at h0
   ·cases h0
   split at h0 <;> cases h0
  have hm:bH x.op=0:=by unfold bH; rw [if_pos hop]
  exact ⟨by omega,by omega,by omega,by omega⟩
 rw [if_neg h0] at h;by_cases h1:dO x.op=1
 ·rw [if_pos h1] at h;have hop:3<=x.op/\x.op<=7:=by
   unfold dO at h1;split at h1
   ·cases h1
   split at h1
   ·assumption
   split at h1 <;> cases h1
  have hm:bH x.op=1:=by unfold bH; rw [if_neg (by omega),if_pos hop]
  simp only [nY,aC,decide_eq_true_eq] at h;exact ⟨by omega,by omega,fun _=>h.1,by omega⟩
 rw [if_neg h1] at h;by_cases h2:dO x.op=2
 ·rw [if_pos h2] at h;have hop:8<=x.op/\x.op<=22:=by
   unfold dO at h2;split at h2
   ·cases h2
   split at h2
   ·cases h2
   split at h2
   ·assumption
   ·cases h2
  simp only [nY,aC,decide_eq_true_eq] at h;exact ⟨by omega,by omega,fun _=>h.1,fun _=>h.2⟩
 ·rw [if_neg h2] at h; cases h
theorem jWZ {p:Pg}(hc:wY p=true){m:List Bl}(hm:iP p m){i:Nat}{x:Xp}(hx:iV p.vars.length p.exprs i x=true){a b:Sc}
  (ha:0 < bH x.op->GoodS p (bF p.exprs x.a) a)(hb:1 < bH x.op->GoodS p (bF p.exprs x.b) b):vS p x.kind (iJ p m x a b):=by
 have hl:=jI p;obtain ⟨o1,o22,_⟩:=oD hx;unfold iV at hx;rw [aC] at hx;have hx:=hx.2;by_cases e1:x.op=1
 ·have ar:dO x.op=0:=by rw [e1]; decide
  rw [if_pos ar] at hx;unfold qVZ at hx;rw [if_neg (by omega)] at hx;unfold iJ;rw [if_pos e1];simp only [dJ,aC,decide_eq_true_eq] at hx;rcases hx with ⟨h7,hn⟩ | ⟨hk,hn⟩
  ·refine .inl ⟨rfl,.inl ⟨h7,by simp [h7],hn,⟨Int.le_refl 0,by show (0:Int) < _; omega⟩,Int.le_refl 0,?_⟩⟩;show (0:Int)<=nP (yK p) 0;rw [xKD]; decide
  ·have:¬x.kind=7:=(jHQ hk).1;exact .inl ⟨rfl,.inr ⟨hk,by simp [this],rfl,rfl,hn⟩⟩
 by_cases e2:x.op=2
 ·have ar:dO x.op=0:=by rw [e2]; decide
  rw [if_pos ar] at hx;unfold qVZ at hx;rw [if_pos e2] at hx;unfold iJ;rw [if_neg e1,if_pos e2];simp only [aC,decide_eq_true_eq] at hx;have:=jE hc x.n;exact .inl ⟨rfl,.inl ⟨hx.1.1,rfl,rfl,⟨by show 0<=x.n; omega,by show x.n < _; omega⟩,Int.le_refl 0,this.1⟩⟩
 by_cases h1:x.op<=7
 ·have ar:dO x.op=1:=by unfold dO; rw [if_neg (by omega),if_pos (by omega)]
  have mn:bH x.op=1:=by unfold bH; rw [if_neg (by omega),if_pos (by omega)]
  have ha:=ha (by omega);rw [if_neg (by omega),if_pos ar,aC] at hx;have hx:=hx.2;unfold qHJ at hx;unfold iJ;rw [if_neg e1,if_neg e2];by_cases e3:x.op=3
  ·rw [if_pos e3] at hx ⊢;simp only [aC,decide_eq_true_eq] at hx;rw [hx.2] at ha;exact jWW hc hm hx.1 ha
  rw [if_neg e3] at hx ⊢;by_cases e4:x.op=4
  ·rw [if_pos e4] at hx ⊢;simp only [aC] at hx;exact .inl ⟨rfl,.inr ⟨hx.1,rfl,rfl,rfl,wI (jQ _)⟩⟩
  rw [if_neg e4] at hx ⊢;by_cases e7:x.op=7
  ·rw [if_pos e7] at hx ⊢;have hk6:=of_decide_eq_true hx;rw [hk6];have n01:∀c:Prop,[Decidable c]->nN (if c then 1 else 0) (iF 6)=true:=fun c _=>by split <;> decide
   split
   ·exact .inl ⟨rfl,.inr ⟨by decide,rfl,rfl,rfl,n01 _⟩⟩
   ·exact vT (by decide) (fun _=>n01 _) (by simp [qWW])
  rw [if_neg e7] at hx ⊢;rw [if_pos (by omega)];simp only [aC,decide_eq_true_eq] at hx;obtain ⟨hk,hka⟩:=hx;rw [hka] at ha;have hn:=jO (kZ hk ha).2.2.2;rcases (by omega:x.op=5\/x.op=6) with e | e
  ·rw [e];refine vT hk (fun h0=>?_) ?_
   ·have:=wGX (op:=9) hk (Int.le_refl 0) (by have:=qA (jJ (jQ x.kind)).2; omega) hn.1 hn.2 h0;have ea:qHK 9 x.kind=iF x.kind:=by unfold qHK; rw [if_neg (by decide)]
    rw [ea] at this;exact this
   ·exact yKB (op:=9) (k:=x.kind) (a:=0) (b:=a.n)
  ·rw [e];exact vT hk (fun _=>wI (jQ _)) (by simp [qWW])
 have ar:dO x.op=2:=by unfold dO; rw [if_neg (by omega),if_neg (by omega),if_pos (by omega)]
 have mn:bH x.op=2:=by unfold bH; rw [if_neg (by omega),if_neg (by omega)]
 have ha:=ha (by omega);have hb:=hb (by omega);rw [if_neg (by omega),if_neg (by omega),aC] at hx;have hx:=hx.2;unfold qHG at hx;unfold iJ;rw [if_neg e1,if_neg e2,if_neg (by omega),if_neg (by omega),if_neg (by omega),if_neg (by omega)];by_cases e18:x.op=18\/x.op=19
 ·rw [if_pos e18] at hx;rw [if_neg (by omega),if_neg (by omega),if_neg (by omega)];simp only [aC,decide_eq_true_eq] at hx;obtain ⟨⟨hk6,hka⟩,hkb⟩:=hx;rw [<-hkb] at hb;have na:=jO (kZ hka ha).2.2.2;have nb:=jO (kZ hka hb).2.2.2;rw [hk6];refine vT (by decide) (fun h0=>?_) yKB;have:=wGX (op:=x.op) hka na.1 na.2 nb.1 nb.2 h0;have ea:qHK x.op (bF p.exprs x.a)=32:=by unfold qHK; rw [if_pos (by omega)]
  rw [ea] at this;rw [w6]; exact this
 rw [if_neg e18] at hx;by_cases e20:x.op=20
 ·rw [if_pos e20] at hx ⊢;simp only [aC,decide_eq_true_eq] at hx;rw [hx.1.2] at ha;rw [hx.1.1];exact jWX hm ha _
 rw [if_neg e20] at hx ⊢;by_cases e21:x.op=21\/x.op=22
 ·rw [if_pos e21] at hx;simp only [aC,decide_eq_true_eq] at hx;rw [hx.1.1];rcases e21 with e | e
  ·rw [if_pos e];have hmod:nN ((a.o - b.o) % 2 ^ 32) (iF 6)=true:=wI (w:=32) (by decide);unfold nD;split
   ·exact vT (by decide) (fun _=>hmod) ⟨Int.le_refl 0,(show (0:Int)<=10 by decide)⟩
   ·exact vT (by decide) (fun h=>by cases h) (by decide)
  ·rw [if_neg (by omega),if_pos e];exact .inl ⟨rfl,.inr ⟨by decide,rfl,rfl,rfl,by show nN (if _ then _ else _) _=true; split <;> decide⟩⟩
 rw [if_neg e21] at hx;rw [if_neg (by omega),if_neg (by omega)];simp only [aC,decide_eq_true_eq] at hx;obtain ⟨⟨hk,hka⟩,hkb⟩:=hx;rw [hka] at ha ⊢;rw [hkb] at hb;have na:=jO (kZ hk ha).2.2.2;have nb:=jO (kZ hk hb).2.2.2;refine vT hk (fun h0=>?_) yKB;have:=wGX (op:=x.op) hk na.1 na.2 nb.1 nb.2 h0;have ea:qHK x.op x.kind=iF x.kind:=by unfold qHK; rw [if_neg (by omega)]
 rw [ea] at this;exact this
theorem yHW {p:Pg}(hc:wY p=true){m:List Bl}(hm:iP p m){i:Nat}{x:Xp}(hx:iV p.vars.length p.exprs i x=true){ra rb:Sc × Int}
  (ha:0 < bH x.op->vS p (bF p.exprs x.a) ra)(hb:1 < bH x.op->vS p (bF p.exprs x.b) rb):vS p x.kind (exV p m x ra rb):=by
 unfold exV;split
 ·rename_i h;rcases ha h.1 with ⟨h0,_⟩ | ⟨h1,_⟩
  ·exact absurd h0 h.2
  ·exact .inr ⟨h1,rfl⟩
 rename_i h;split
 ·rename_i h2;rcases hb h2.1 with ⟨h0,_⟩ | ⟨h1,_⟩
  ·exact absurd h0 h2.2
  ·exact .inr ⟨h1,rfl⟩
 rename_i h2;refine jWZ hc hm hx (fun h0=>?_) (fun h1=>?_)
 ·rcases ha h0 with ⟨_,hg⟩ | ⟨hn,_⟩
  ·exact hg
  ·exact absurd ⟨h0,by omega⟩ h
 ·rcases hb h1 with ⟨_,hg⟩ | ⟨hn,_⟩
  ·exact hg
  ·exact absurd ⟨h1,by omega⟩ h2
theorem qQC {p:Pg}(hc:wY p=true){i:Nat}(hi:i < p.exprs.length):iV p.vars.length p.exprs i p.exprs[i]=true:=by
 have h:qU p.vars.length p.exprs p.exprs.length=true:=by
  unfold wY at hc;simp only [aC] at hc;exact hc.1.1.2
 unfold qU at h;rw [bW] at h;have:=h i (List.mem_range.2 hi);rw [List.getElem?_eq_getElem hi] at this;exact this
theorem qXB {es:List Xp}{i:Nat}(hi:i < es.length):bF es (i:Int)=(es[i]).kind:=by
 unfold bF; rw [aB,List.getElem?_eq_getElem hi]; rfl
theorem wL {p:Pg}(hc:wY p=true){m:List Bl}(hm:iP p m):∀n i:Nat,i < n->i < p.exprs.length->vS p (bF p.exprs (i:Int)) (lJ p m (i:Int))
 | 0,i,h,_=>by omega
 | n+1,i,h,hi=>by
  have hx:=qQC hc hi;obtain ⟨_,_,hpa,hpb⟩:=oD hx;rw [wQE (List.getElem?_eq_getElem hi) hpa hpb,qXB hi];refine yHW hc hm hx (fun h0=>?_) (fun h1=>?_)
  ·rw [if_pos h0];obtain ⟨k,hk⟩:=aG (hpa h0).1;have:=hpa h0;rw [hk];exact wL hc hm n k (by omega) (by omega)
  ·rw [if_pos h1];obtain ⟨k,hk⟩:=aG (hpb h1).1;have:=hpb h1;rw [hk];exact wL hc hm n k (by omega) (by omega)
end Go.Ax
namespace Go.Proofs.Tryz.K
open Go Go.Ax Go.Proofs.Tryz.S
variable (F:Fz) (M:Hp)
theorem wKG (big:Bool)(ptr k:Int)(n:Nat)(a:Option Addr)(c:Nat)(m:List Bl)(b off:Nat)(h:dF 2 Bl.cs F M (.slice a m.length c) m)(hold:Old F M)(hb:b < m.length)(hst:¬(m[b]).st=1)(hn:nZ ptr k=n)(hn1:1<=n/\n<=4) :
  aI prog 159 [.agg #[.bool big,.int .i64 ptr],.slice a m.length c,(Sc.mk true 0 b off).val,.int .i64 k] F M (Same F M (.int .i64 2)):=by
 refine qZ hm func159 zWK (aA rfl) ?_;simp only [c159,go_sem];intro r4 mW jP;generalize eQ:M.upd r4 ⟨[.bool big,.int .i64 ptr],39,2⟩=M1 at *;obtain ⟨jA,fP,f4⟩:=nw eQ hold mW jP;clear eQ;simp only [go_sem];intro r6 vI oI;generalize eQ:M1.upd r6 ⟨(Sc.mk true 0 b off).cs,90,4⟩=M2 at *;obtain ⟨iZ,eG,f6⟩:=nw eQ fP vI oI;clear eQ;have kp:=jA.trans iZ;have b4:=qG (F:=F) (iZ _ _ f4);have b6:=qG (F:=F) f6;have h2:=h.keep kp eG;have ks:=k89 F M2 big ptr k;rw [hn] at ks;simp only [go_sem,b4];with_reducible refine qQ ks ?_;obtain ⟨bb,o,cs,rfl,hbk,rows⟩:=h2.rows (by omega);obtain ⟨g1,g2⟩:=rows b hb;clear rows;generalize m[b]=x at *;obtain ⟨g2,g3⟩:=Bl.row g2;have hb0:(0:Int)<=b:=by omega
 have hbl:(b:Int) < m.length:=by omega
 simp only [go_sem,b6,hb0,hbl,aB,aK,hbk,g2,hst];exact qX kp ⟨rfl,rfl,rfl⟩
theorem wM {p:Pg}{s:Sc}(h:GoodS p 7 s){m:List Bl}(hm:iP p m)(hc:wY p=true):∃b off:Nat,s=⟨true,0,b,off⟩/\b < m.length/\off<=32/\((off:Nat):Int)<=nP (yK p) b:=by
 obtain ⟨h1,h2,⟨b0,b1⟩,o0,o1⟩:=nI h;have hl:=jI p;have hl2:=hm.len;have hs:=jE hc s.b;obtain ⟨sp,sn,sb,so⟩:=s;simp only at h1 h2 b0 b1 o0 o1 hs;obtain ⟨b,rfl⟩:=aG b0;obtain ⟨o,rfl⟩:=aG o0;subst h1 h2;exact ⟨b,o,rfl,by omega,by omega,o1⟩
theorem yHX (n sz o:Int):gD n sz o=xX n sz o:=rfl
theorem zYA (p:Pg)(k:Int)(a:Option Addr)(c:Nat)(m:List Bl)(s:Sc)(h:dF 2 Bl.cs F M (.slice a m.length c) m)(hr:∀x∈m,x.rd F M)(hold:Old F M)(hc:wY p=true)(hfm:iP p m)(hk:isS k=true)(hs:GoodS p 7 s) :
  aI prog 160 [.agg #[.bool p.big,.int .i64 p.ptr],.slice a m.length c,s.val,.int .i64 k] F M (Same F M (.tuple #[(rE p.big p.ptr k m s).1.val,.int .i64 (rE p.big p.ptr k m s).2])):=by
 obtain ⟨b,off,rfl,hb,ho,hos⟩:=wM hs hfm hc;have qJY:=(yH hc).1;have yKA:=gV qJY (.inr (.inr hk));obtain ⟨n,hnq⟩:∃n:Nat,yJ p.ptr k=n:=aG (by omega);have hn4:1<=n/\n<=4:=by omega
 have hsz:nZ p.ptr k=n:=by
  have:1<=k/\k<=7:=by simp only [isS,aC,decide_eq_true_eq] at hk; exact hk
  rw [<-sJ (by omega) (by omega),hnq]
 have hbl:=yY hb;by_cases hst:(m[b]).st=1
 ·have e:rE p.big p.ptr k m ⟨true,0,b,off⟩=qVY p.big k n off (m[b]).l:=by
   unfold rE qVY pV;simp only [hbl,hst,if_true,hnq,yHX,aB];rfl
  rw [e];have zYB:=(hfm.bytes b hb).2.2.2;exact dWE F M p.big p.ptr k n a c m b off h hold qJY hb hst hsz hn4 (by omega) (by omega) (hr _ (aH hb)) (hfm.bytes b hb).1
 have e:rE p.big p.ptr k m ⟨true,0,b,off⟩=(z0,2):=by
  unfold rE pV;simp only [hbl,hst,if_false];rfl
 rw [e];refine qZ hm func160 e160 (aA rfl) ?_;simp only [c160,go_sem];intro r4 mW jP;generalize eQ:M.upd r4 ⟨[.bool p.big,.int .i64 p.ptr],39,2⟩=M1 at *;obtain ⟨jA,fP,f4⟩:=nw eQ hold mW jP;clear eQ;simp only [go_sem];intro r6 vI oI;generalize eQ:M1.upd r6 ⟨(Sc.mk true 0 b off).cs,90,4⟩=M2 at *;obtain ⟨iZ,eG,f6⟩:=nw eQ fP vI oI;clear eQ;simp only [go_sem];intro r8 hF8 rQ;have n8:M r8=none:=(jA.trans iZ).free rQ;generalize eQ:M2.upd r8 ⟨[.bool false,.int .i64 0,.int .i64 0,.int .i64 0],90,4⟩=M3 at *;obtain ⟨nU,iE,f8⟩:=nw eQ eG hF8 rQ;clear eQ;have kp:=(jA.trans iZ).trans nU;have b4:=qG (F:=F) (nU _ _ (iZ _ _ f4));have b6:=qG (F:=F) (nU _ _ f6);have kr:=wKG F M3 p.big p.ptr k n a c m b off (h.keep kp iE) iE hb hst hsz hn4;simp only [go_sem,b4,b6];with_reducible refine qQ kr ?_;simp only [setH,go_sem,f8];exact qX (kp.new n8) ⟨rfl,rfl,rfl⟩
theorem zYC (a b:Sc):aI prog 163 [a.val,b.val] F M (Same F M (.int .i64 (if a=b then 1 else 0))):=by
 refine qZ hm func163 kZF (aA rfl) ?_;simp only [zWG,go_sem];intro r2 hF2 hM2;simp only [go_sem];intro r3 hF3 dN;have g3:=yZ dN;have kp:∀x y,Keep M ((M.upd r2 x).upd r3 y):=fun x y=>((Keep.refl M).new hM2).new g3.2.2
 by_cases h:a=b
 ·simp only [go_sem,g3,h,eq_self];exact qX (kp _ _) ⟨rfl,rfl,rfl⟩
 ·simp only [go_sem,g3,h];exact qX (kp _ _) ⟨rfl,rfl,rfl⟩
theorem dXW (a b:Sc)(ha:0<=a.o/\a.o<=32)(hb:0<=b.o/\b.o<=32):aI prog 162 [a.val,b.val] F M (Same F M (.tuple #[.int .i64 (nD a b).1,.int .i64 (nD a b).2])):=by
 refine qZ hm func162 e162 (aA rfl) ?_;have es:i64.wrap (a.o - b.o)=a.o - b.o:=dQ (by omega) (by omega);simp only [c162,go_sem];intro r2 hF2 hM2;simp only [go_sem];intro r3 hF3 dN;have g3:=yZ dN;have kp:∀x y,Keep M ((M.upd r2 x).upd r3 y):=fun x y=>((Keep.refl M).new hM2).new g3.2.2
 by_cases h:a.b=b.b
 ·have e:nD a b=((a.o - b.o) % 2 ^ 32,0):=by unfold nD; rw [if_pos h]
  rw [e];simp only [go_sem,g3,h,es];with_reducible refine qQ (qZA F _ (a.o - b.o) 32 (by decide) (by decide)) ?_;simp only [go_sem];exact qX (kp _ _) ⟨rfl,rfl,rfl⟩
 ·have e:nD a b=(0,9):=by unfold nD; rw [if_neg h]
  rw [e];simp only [go_sem,g3,h];exact qX (kp _ _) ⟨rfl,rfl,rfl⟩
theorem look0 {n:Int}(h0:0<=n)(h1:n<=wD 32):mO n 32=0↔n=0:=by
 have e:jR 32=2147483648:=by decide
 have e2:wD 32=4294967295:=by decide
 have e3:(2:Int) ^ (32:Int).toNat=4294967296:=by decide
 unfold mO;rw [e,e3];split <;> omega
theorem look_in {n:Int}(h0:0<=n)(h1:n<=wD 32):-2147483648<=mO n 32/\mO n 32<=2147483647:=by
 have e:jR 32=2147483648:=by decide
 have e2:wD 32=4294967295:=by decide
 have e3:(2:Int) ^ (32:Int).toNat=4294967296:=by decide
 unfold mO;rw [e,e3];split <;> omega
theorem dXX (a:Option Addr)(c:Nat)(m:List Bl)(b off:Nat)(n:Int)(h:dF 2 Bl.cs F M (.slice a m.length c) m)(hold:Old F M)(hb:b < m.length)(ho:off<=1000)(h0:0<=n)(h1:n<=wD 32) :
  aI prog 161 [.slice a m.length c,(Sc.mk true 0 b off).val,.int .i64 n] F M (Same F M (.tuple #[(rU m ⟨true,0,b,off⟩ n).1.val,.int .i64 (rU m ⟨true,0,b,off⟩ n).2])):=by
 refine qZ hm func161 e161 (aA rfl) ?_
 have hl0:=look0 h0 h1
 have hli:=look_in h0 h1
 have hbl:=yY hb
 have kv:=fun M=>zKF F M n 32 (by decide) h0 h1
 simp only [zWJ,go_sem]
 intro r4 mW jP
 have n4:M r4=none:=jP
 generalize eQ:M.upd r4 ⟨(Sc.mk true 0 b off).cs,90,4⟩=M1 at *
 obtain ⟨jA,fP,f4⟩:=nw eQ hold mW jP
 clear eQ
 simp only [go_sem]
 intro r6 vI oI
 have n6:M r6=none:=jA.free oI
 have n46:¬r4=r6:=(qJ oI f4).1
 have n64:¬r6=r4:=fun h=>n46 h.symm
 generalize eQ:M1.upd r6 ⟨[.bool false,.int .i64 0,.int .i64 0,.int .i64 0],90,4⟩=M2 at *
 obtain ⟨iZ,eG,f6⟩:=nw eQ fP vI oI
 clear eQ
 have kp:=jA.trans iZ
 have f42:=iZ _ _ f4
 have b4:=qG (F:=F) f42
 have h2:=h.keep kp eG
 simp only [go_sem]
 with_reducible refine qQ (kv M2) ?_
 have hmv:rU m ⟨true,0,b,off⟩ n=if (b:Int)=0/\n=0 then (⟨true,0,b,off⟩,0) else if ¬(m[b]).st=1 then (z0,2) else if 0<=(off:Int)+mO n 32/\(off:Int)+mO n 32<=(m[b]).l.length then (⟨true,0,b,(off:Int)+mO n 32⟩,0) else (z0,1):=by
  unfold rU
  rw [hbl]
 rw [hmv]
 clear hmv
 generalize mO n 32=v at *
 have hwv:i64.wrap ((off:Int)+v)=off+v:=dQ (by omega) (by omega)
 have hb0:(0:Int)<=b:=by omega
 have qXA:(b:Int) < m.length:=by omega
 obtain ⟨bb,o,cs,rfl,hbk,rows⟩:=h2.rows (by omega)
 obtain ⟨g1,g2⟩:=rows b hb
 clear rows hbl
 generalize m[b]=x at *
 obtain ⟨g2,g3⟩:=Bl.row g2
 have xHV:((b:Int)=0/\n=0)↔((b:Int)=0/\v=0):=by rw [hl0]
 by_cases hz:(b:Int)=0/\v=0
 ·rw [if_pos (xHV.2 hz)]
  simp only [setH,go_sem,b4,f6,hz.1,hz.2]
  exact qX (kp.new n6) ⟨rfl,rfl,rfl⟩
 rw [if_neg (fun h=>hz (xHV.1 h))]
 have kN:=k49 F M2 ((off:Int)+v) x.l.length
 by_cases yU:(b:Int)=0
 ·have hv0:¬v=0:=fun h=>hz ⟨yU,h⟩
  have hbd:decide ((b:Int)=0)=true:=decide_eq_true yU
  by_cases hst:x.st=1
  rotate_left
  ·rw [if_pos hst]
   simp only [setH,go_sem,b4,hbd,hv0,hb0,qXA,aB,aK,hbk,g2,hst,f6]
   exact qX (kp.new n6) ⟨rfl,rfl,rfl⟩
  rw [if_neg (fun h=>h hst)]
  simp only [go_sem,b4,hbd,hv0,hb0,qXA,aB,aK,hbk,g2,g3,hst,hwv]
  with_reducible refine qQ kN ?_
  by_cases hr:0<=(off:Int)+v/\(off:Int)+v<=x.l.length
  ·rw [if_pos hr]
   have hset:List.take 3 (Sc.mk true 0 (b:Int) (off:Int)).cs++[Value.int .i64 ((off:Int)+v)]=(Sc.mk true 0 (b:Int) ((off:Int)+v)).cs:=rfl
   simp only [setH,hset,go_sem,hr.1,hr.2,Bool.and_self,f42,b4,hwv,n64,f6]
   exact qX ((kp.new n4).new n6) ⟨rfl,rfl,rfl⟩
  ·rw [if_neg hr]
   have hf:(decide (0<=(off:Int)+v) && decide ((off:Int)+v<=x.l.length))=false:=by
    rw [bI,decide_eq_false_iff_not,decide_eq_false_iff_not]; omega
   simp only [setH,go_sem,hf,f6]
   exact qX (kp.new n6) ⟨rfl,rfl,rfl⟩
 ·have hbd:decide ((b:Int)=0)=false:=decide_eq_false yU
  by_cases hst:x.st=1
  rotate_left
  ·rw [if_pos hst]
   simp only [setH,go_sem,b4,hbd,hb0,qXA,aB,aK,hbk,g2,hst,f6]
   exact qX (kp.new n6) ⟨rfl,rfl,rfl⟩
  rw [if_neg (fun h=>h hst)]
  simp only [go_sem,b4,hbd,hb0,qXA,aB,aK,hbk,g2,g3,hst,hwv]
  with_reducible refine qQ kN ?_
  by_cases hr:0<=(off:Int)+v/\(off:Int)+v<=x.l.length
  ·rw [if_pos hr]
   have hset:List.take 3 (Sc.mk true 0 (b:Int) (off:Int)).cs++[Value.int .i64 ((off:Int)+v)]=(Sc.mk true 0 (b:Int) ((off:Int)+v)).cs:=rfl
   simp only [setH,hset,go_sem,hr.1,hr.2,Bool.and_self,f42,b4,hwv,n64,f6]
   exact qX ((kp.new n4).new n6) ⟨rfl,rfl,rfl⟩
  ·rw [if_neg hr]
   have hf:(decide (0<=(off:Int)+v) && decide ((off:Int)+v<=x.l.length))=false:=by
    rw [bI,decide_eq_false_iff_not,decide_eq_false_iff_not]; omega
   simp only [setH,go_sem,hf,f6]
   exact qX (kp.new n6) ⟨rfl,rfl,rfl⟩
end Go.Proofs.Tryz.K
namespace Go.Ax
open Go
def yKC (op:Int):Bool:=decide (8<=op) && decide (op<=19)
theorem qJA {nv:Nat}{es:List Xp}{i:Nat}{x:Xp}(h:iV nv es i x=true)(h1:3<=x.op)(h7:x.op<=7) :
  bH x.op=1/\(x.op=3->isS x.kind=true/\bF es x.a=7)/\(x.op=4->isK x.kind=true/\isK (bF es x.a)=true)/\(x.op=5\/x.op=6->isK x.kind=true/\bF es x.a=x.kind):=by
 have ar:dO x.op=1:=by unfold dO; rw [if_neg (by omega),if_pos (by omega)]
 unfold iV at h;rw [aC] at h;have hx:=h.2;rw [if_neg (by omega),if_pos ar,aC] at hx;have hx:=hx.2;unfold qHJ at hx;refine ⟨by unfold bH; rw [if_neg (by omega),if_pos (by omega)],fun e=>?_,fun e=>?_,fun e=>?_⟩
 ·rw [if_pos e] at hx
  simpa only [aC,decide_eq_true_eq] using hx
 ·rw [if_neg (by omega),if_pos e] at hx
  simpa only [aC] using hx
 ·rw [if_neg (by omega),if_neg (by omega),if_neg (by omega)] at hx
  simpa only [aC,decide_eq_true_eq] using hx
theorem qJB {nv:Nat}{es:List Xp}{i:Nat}{x:Xp}(h:iV nv es i x=true)(h8:8<=x.op) :
  bH x.op=2/\(x.op=20->bF es x.a=7/\bF es x.b=6)/\(x.op=21\/x.op=22->bF es x.a=7/\bF es x.b=7)/\(x.op<=19->yKC x.op=true/\isK (bF es x.a)=true/\bF es x.b=bF es x.a):=by
 obtain ⟨_,o22,_⟩:=oD h;have ar:dO x.op=2:=by unfold dO; rw [if_neg (by omega),if_neg (by omega),if_pos (by omega)]
 unfold iV at h;rw [aC] at h;have hx:=h.2;rw [if_neg (by omega),if_neg (by omega),aC] at hx;have hx:=hx.2;unfold qHG at hx;refine ⟨by unfold bH; rw [if_neg (by omega),if_neg (by omega)],fun e=>?_,fun e=>?_,fun e=>⟨by simp [yKC]; omega,?_⟩⟩
 ·rw [if_neg (by omega),if_pos e] at hx;simp only [aC,decide_eq_true_eq] at hx;exact ⟨hx.1.2,hx.2⟩
 ·rw [if_neg (by omega),if_neg (by omega),if_pos e] at hx;simp only [aC,decide_eq_true_eq] at hx;exact ⟨hx.1.2,hx.2⟩
 ·by_cases e18:x.op=18\/x.op=19
  ·rw [if_pos e18] at hx;simp only [aC,decide_eq_true_eq] at hx;exact ⟨hx.1.2,hx.2.symm⟩
  ·rw [if_neg e18,if_neg (by omega),if_neg (by omega)] at hx;simp only [aC,decide_eq_true_eq] at hx;rw [hx.1.2,hx.2];exact ⟨hx.1.1,rfl⟩
end Go.Ax
namespace Go.Proofs.Tryz.K
open Go Go.Ax Go.Proofs.Tryz.S
variable (F:Fz) (M:Hp)
theorem wGC {r:Int × Int}(h:r.2=0):qWK r=(⟨false,r.1,0,0⟩,0):=by unfold qWK; rw [if_pos h]
theorem wGE {r:Int × Int}(h:¬r.2=0):qWK r=(z0,r.2):=by unfold qWK; rw [if_neg h]
theorem dXZ (p:Pg)(a:Option Addr)(c:Nat)(m:List Bl)(i:Nat)(x:Xp)(u v:Sc)(hp:p.rd F)(h:dF 2 Bl.cs F M (.slice a m.length c) m)(hr:∀y∈m,y.rd F M)(hold:Old F M)(hc:wY p=true)(hfm:iP p m)(hx:iV p.vars.length p.exprs i x=true)
  (hi:i<=p.exprs.length)(hu:0 < bH x.op->GoodS p (bF p.exprs x.a) u)(hv:1 < bH x.op->GoodS p (bF p.exprs x.b) v) :
  aI prog 129 [p.val,.slice a m.length c,x.val,u.val,v.val] F M (Same F M (.tuple #[(iJ p m x u v).1.val,.int .i64 (iJ p m x u v).2])):=by
 refine qZ hm func129 e129 (aA rfl) ?_;obtain ⟨o1,o22,hpa,hpb⟩:=oD hx;have few:=hp.few;simp only [zQJ,go_sem];intro r5 lM gU;generalize eQ:M.upd r5 ⟨p.cs,43,7⟩=M1 at *;obtain ⟨eH,dB,f5⟩:=nw eQ hold lM gU;clear eQ;simp only [go_sem];intro r7 wU qB;generalize eQ:M1.upd r7 ⟨x.cs,119,5⟩=M2 at *;obtain ⟨lY,iO,f7⟩:=nw eQ dB wU qB;clear eQ;simp only [go_sem];intro r8 hF8 rQ;generalize eQ:M2.upd r8 ⟨u.cs,90,4⟩=M3 at *;obtain ⟨nU,iE,f8⟩:=nw eQ iO hF8 rQ;clear eQ;simp only [go_sem];intro r9 hF9 hM9;generalize eQ:M3.upd r9 ⟨v.cs,90,4⟩=M4 at *;obtain ⟨xE,mZ,f9⟩:=nw eQ iE hF9 hM9;clear eQ;simp only [go_sem];intro r10 qJG uF;have n10:M r10=none:=(((eH.trans lY).trans nU).trans xE).free uF;generalize eQ:M4.upd r10 ⟨[.bool false,.int .i64 0,.int .i64 0,.int .i64 0],90,4⟩=M5 at *;obtain ⟨pO,uS,f10⟩:=nw eQ mZ qJG uF;clear eQ;have kp:=(((eH.trans lY).trans nU).trans xE).trans pO;have b5:=qG (F:=F) (pO _ _ (xE _ _ (nU _ _ (lY _ _ f5))));have b7:=qG (F:=F) (pO _ _ (xE _ _ (nU _ _ f7)));have b8:=qG (F:=F) (pO _ _ (xE _ _ f8));have b9:=qG (F:=F) (pO _ _ f9);have h5:=h.keep kp uS;have hr5:∀y∈m,y.rd F M5:=fun y hy=>dF.keep (hr y hy) kp uS
 have hexp:=hp.exprs M5 uS;clear eH lY nU xE pO dB iO iE mZ f5 f7 f8 f9 gU qB rQ hM9 uF;have fin:∀(r:Sc × Int),lK F (M5.upd r10 ⟨r.1.cs,90,4⟩) (Same F M (.tuple #[r.1.val,.int .i64 r.2])) (.tuple #[r.1.val,.int .i64 r.2]):=fun r=>qX (kp.new n10) ⟨rfl,rfl,rfl⟩
 have row:0 < bH x.op->∃b o cs,p.eA=some ⟨b,o,none⟩/\blk F M5 b=some cs/\(∃j:Nat,x.a=j/\(0:Int)<=j/\(j:Int) < p.exprs.length/\cs[o+j * 5+1]? = some (.int .i64 (bF p.exprs x.a))):=fun h0=>by
  obtain ⟨j,hj⟩:=aG (hpa h0).1;have hjl:j < p.exprs.length:=by have:=hpa h0; omega
  obtain ⟨b,o,cs,e1,e2,d1,d2⟩:=dF.at hexp hjl;obtain ⟨_,d3,_⟩:=Xp.row d2;exact ⟨b,o,cs,e1,e2,j,hj,by omega,by omega,by rw [hj,qXB hjl]; exact d3⟩
 by_cases e1:x.op=1
 ·have e:iJ p m x u v=(⟨decide (x.kind=7),x.n,0,0⟩,0):=by unfold iJ; rw [if_pos e1]
  rw [e];simp only [setH,go_sem,b7,e1,f10];exact fin (⟨decide (x.kind=7),x.n,0,0⟩,0)
 by_cases e2:x.op=2
 ·have e:iJ p m x u v=(⟨true,0,x.n,0⟩,0):=by unfold iJ; rw [if_neg e1,if_pos e2]
  rw [e];simp only [setH,go_sem,b7,e2,f10];exact fin (⟨true,0,x.n,0⟩,0)
 by_cases e3:x.op=3
 ·obtain ⟨mn,hx3,_,_⟩:=qJA hx (by omega) (by omega);have hu:=hu (by omega);rw [(hx3 e3).2] at hu;have e:iJ p m x u v=rE p.big p.ptr x.kind m u:=by unfold iJ; rw [if_neg e1,if_neg e2,if_pos e3]
  rw [e];have kl:=zYA F M5 p x.kind a c m u h5 hr5 uS hc hfm (hx3 e3).1 hu;simp only [go_sem,b5,b7,b8,e3];with_reducible refine qQ kl ?_;simp only [setH,go_sem,f10];exact fin _
 by_cases e20:x.op=20
 ·obtain ⟨mn,jHZ,_,_⟩:=qJB hx (by omega);have hu:=hu (by omega);have hv:=hv (by omega);rw [(jHZ e20).1] at hu;rw [(jHZ e20).2] at hv;obtain ⟨b,off,rfl,hb,ho,_⟩:=wM hu hfm hc;have hn:=jO (kZ (show isK 6=true by decide) hv).2.2.2;rw [w6] at hn;have e:iJ p m x ⟨true,0,b,off⟩ v=rU m ⟨true,0,b,off⟩ v.n:=by unfold iJ; simp [e20]
  rw [e];have km:=dXX F M5 a c m b off v.n h5 uS hb (by omega) hn.1 hn.2;simp only [go_sem,b7,b8,b9,e20];with_reducible refine qQ km ?_;simp only [setH,go_sem,f10];exact fin _
 by_cases e21:x.op=21
 ·obtain ⟨mn,_,yKE,_⟩:=qJB hx (by omega);have hu:=hu (by omega);have hv:=hv (by omega);rw [(yKE (.inl e21)).1] at hu;rw [(yKE (.inl e21)).2] at hv;have s1:=jE hc u.b;have s2:=jE hc v.b;obtain ⟨_,_,_,u0,u1⟩:=nI hu;obtain ⟨_,_,_,v0,v1⟩:=nI hv;have e:iJ p m x u v=qWK (nD u v):=by unfold iJ; simp [e21]
  rw [e];have ka:=dXW F M5 u v ⟨u0,by omega⟩ ⟨v0,by omega⟩;simp only [go_sem,b7,b8,b9,e21];with_reducible refine qQ ka ?_;generalize nD u v=r at *;by_cases h0:r.2=0
  ·rw [wGC h0];simp only [setH,go_sem,h0,f10];exact fin (⟨false,r.1,0,0⟩,0)
  ·rw [wGE h0];simp only [setH,go_sem,h0,f10];exact fin (z0,r.2)
 by_cases e22:x.op=22
 ·have e:iJ p m x u v=(⟨false,if u=v then 1 else 0,0,0⟩,0):=by unfold iJ; simp [e22]
  rw [e];simp only [go_sem,b7,b8,b9,e22];with_reducible refine qQ (zYC F M5 u v) ?_;simp only [setH,go_sem,f10];exact fin (⟨false,if u=v then 1 else 0,0,0⟩,0)
 by_cases e4:x.op=4
 ·obtain ⟨mn,_,hx4,_⟩:=qJA hx (by omega) (by omega);have hu:=hu (by omega);obtain ⟨bb,oo,cs,ea,hbk,j,hj,j0,j1,hkd⟩:=row (by omega);have hn:=jO (kZ (hx4 e4).2 hu).2.2.2;have e:iJ p m x u v=(⟨false,yX (bF p.exprs x.a) u.n % 2 ^ (iF x.kind).toNat,0,0⟩,0):=by unfold iJ; simp [e4]
  rw [e];have kc:=kGE F M5 (bF p.exprs x.a) x.kind u.n (hx4 e4).1 hn.1 hn.2;rw [hj] at hkd kc ⊢;simp only [go_sem,b5,b7,b8,e4,ea,hj,j0,j1,aB,hbk,hkd];with_reducible refine qQ kc ?_;simp only [setH,go_sem,f10];exact fin (⟨false,yX (bF p.exprs j) u.n % 2 ^ (iF x.kind).toNat,0,0⟩,0)
 by_cases e7:x.op=7
 ·obtain ⟨mn,_,_,_⟩:=qJA hx (by omega) (by omega);have hu:=hu (by omega);by_cases k7:bF p.exprs x.a=7
  ·have e:iJ p m x u v=(⟨false,if u.b=0 then 1 else 0,0,0⟩,0):=by unfold iJ; simp [e7,k7]
   rw [k7] at hu;obtain ⟨g1,g2,g3,g4,g5⟩:=nI hu;have hs:=zYC F M5 u ⟨true,0,0,0⟩;have he:(if u=⟨true,0,0,0⟩ then (1:Int) else 0)=if u.b=0 then 1 else 0:=by
    by_cases hb:u.b=0
    ·have:u=⟨true,0,0,0⟩:=by
      rw [hb,xKD] at g5;obtain ⟨up,un,ub,uo⟩:=u;simp only at g1 g2 g4 g5 hb;have:uo=0:=by omega
      rw [g1,g2,hb,this]
     rw [if_pos this,if_pos hb]
    ·rw [if_neg hb,if_neg (fun h=>hb (by rw [h]))]
   rw [he] at hs;rw [e];have ev:Value.agg #[.bool true,.int .i64 0,.int .i64 0,.int .i64 0]=(Sc.mk true 0 0 0).val:=rfl;simp only [go_sem,b7,b8,e7,g1,ev];with_reducible refine qQ hs ?_;simp only [setH,go_sem,f10];exact fin (⟨false,if u.b=0 then 1 else 0,0,0⟩,0)
  ·have hk:isK (bF p.exprs x.a)=true:=by
    rcases hu with ⟨h,_⟩ | ⟨h,_⟩
    ·exact absurd h k7
    ·exact h
   obtain ⟨g1,_,_,g2⟩:=kZ hk hu;have hn:=jO g2;obtain ⟨bb,oo,cs,ea,hbk,j,hj,j0,j1,hkd⟩:=row (by omega);have e:iJ p m x u v=qWK (qWW 7 (bF p.exprs x.a) u.n):=by unfold iJ; simp [e7,k7]
   rw [e];have ko:=zYG F M5 7 (bF p.exprs x.a) u.n hk rfl hn.1 hn.2;rw [hj] at hkd ko ⊢;simp only [go_sem,b5,b7,b8,e7,g1,ea,hj,j0,j1,aB,hbk,hkd];with_reducible refine qQ ko ?_;generalize qWW 7 (bF p.exprs j) u.n=r at *;by_cases h0:r.2=0
   ·rw [wGC h0];simp only [fQ,setH,go_sem,h0,f10];exact fin (⟨false,r.1,0,0⟩,0)
   ·rw [wGE h0];simp only [fQ,setH,go_sem,h0,f10];exact fin (z0,r.2)
 by_cases e56:x.op=5\/x.op=6
 ·obtain ⟨mn,_,_,hx5⟩:=qJA hx (by omega) (by omega);have hu:=hu (by omega);obtain ⟨hk,hka⟩:=hx5 e56;rw [hka] at hu;have hn:=jO (kZ hk hu).2.2.2;have e:iJ p m x u v=qWK (qWW x.op x.kind u.n):=by unfold iJ; rw [if_neg e1,if_neg e2,if_neg e3,if_neg e4,if_neg e7,if_pos e56]
  rw [e];have ko:=zYG F M5 x.op x.kind u.n hk (by simp [yHQ]; omega) hn.1 hn.2;generalize qWW x.op x.kind u.n=r at *;rcases e56 with e5 | e5
  all_goals
   rw [e5] at ko;simp only [go_sem,b7,b8,e5];with_reducible refine qQ ko ?_;by_cases h0:r.2=0
   ·rw [wGC h0];simp only [fQ,setH,go_sem,h0,f10];exact fin (⟨false,r.1,0,0⟩,0)
   ·rw [wGE h0];simp only [fQ,setH,go_sem,h0,f10];exact fin (z0,r.2)
 obtain ⟨mn,_,_,hx8⟩:=qJB hx (by omega);have hu:=hu (by omega);have hv:=hv (by omega);obtain ⟨dXK,hk,hkb⟩:=hx8 (by omega);rw [hkb] at hv;have hn:=jO (kZ hk hu).2.2.2;have hn2:=jO (kZ hk hv).2.2.2;obtain ⟨bb,oo,cs,ea,hbk,j,hj,j0,j1,hkd⟩:=row (by omega);have e:iJ p m x u v=qWK (rO x.op (bF p.exprs x.a) u.n v.n):=by unfold iJ; rw [if_neg e1,if_neg e2,if_neg e3,if_neg e4,if_neg e7,if_neg e56,if_neg e20,if_neg e21,if_neg e22]
 rw [e];have kt:=zHV F M5 x.op (bF p.exprs x.a) u.n v.n hk dXK hn.1 hn.2 hn2.1 hn2.2;have e5:¬x.op=5:=fun h=>e56 (.inl h)
 have e6:¬x.op=6:=fun h=>e56 (.inr h)
 rw [hj] at hkd kt ⊢;simp only [go_sem,b5,b7,b8,b9,e1,e2,e3,e20,e21,e22,e4,e7,e5,e6,ea,hj,j0,j1,aB,hbk,hkd];with_reducible refine qQ kt ?_;generalize rO x.op (bF p.exprs j) u.n v.n=r at *;by_cases h0:r.2=0
 ·rw [wGC h0];simp only [fQ,setH,go_sem,h0,f10];exact fin (⟨false,r.1,0,0⟩,0)
 ·rw [wGE h0];simp only [fQ,setH,go_sem,h0,f10];exact fin (z0,r.2)
end Go.Proofs.Tryz.K
namespace Go.Ax
open Go
def vsL (p:Pg)(m:List Bl)(n i:Nat):List Sc:=(evL p m i).map (·.1)++List.replicate (n - i) z0
def bsL (p:Pg)(m:List Bl)(n i:Nat)(β:Int):List Int:=(evL p m i).map (·.2)++(if i < n then β :: List.replicate (n - (i+1)) 0 else [])
theorem wGF {p:Pg}{m:List Bl}{n i:Nat}(h:i<=n):(vsL p m n i).length=n:=by
 unfold vsL; rw [aO,bJ,jU,bD]; omega
theorem qQE {p:Pg}{m:List Bl}{n i:Nat}{β:Int}(h:i<=n):(bsL p m n i β).length=n:=by
 unfold bsL; rw [aO,bJ,jU];split
 ·rw [fF,bD]; omega
 ·simp; omega
theorem wVQ (p:Pg)(m:List Bl){n j:Nat}(h:j < n):(evL p m n)[j]? = some (lJ p m (j:Int)):=by
 have:=yKY p m n j h;unfold vAt at this;rw [aB,List.getElem?_eq_getElem (by rw [jU]; exact h)] at this;rw [List.getElem?_eq_getElem (by rw [jU]; exact h)];exact congrArg some this
theorem wVW {p:Pg}{m:List Bl}{n i j:Nat}(h:j < i):(vsL p m n i)[j]? = some (lJ p m (j:Int)).1:=by
 unfold vsL;rw [List.getElem?_append_left (by rw [bJ,jU]; exact h),List.getElem?_map,wVQ p m h]; rfl
theorem wVX {p:Pg}{m:List Bl}{n i j:Nat}{β:Int}(h:j < i):(bsL p m n i β)[j]? = some (lJ p m (j:Int)).2:=by
 unfold bsL;rw [List.getElem?_append_left (by rw [bJ,jU]; exact h),List.getElem?_map,wVQ p m h]; rfl
theorem jHK {p:Pg}{m:List Bl}{n i:Nat}{β:Int}(h:i < n):(bsL p m n i β)[i]? = some β:=by
 unfold bsL;rw [List.getElem?_append_right (by rw [bJ,jU]; omega),bJ,jU,fM,if_pos h]; rfl
theorem vKQ {p:Pg}{m:List Bl}{n i:Nat}(h:i < n):(vsL p m n i)[i]? = some z0:=by
 unfold vsL;rw [List.getElem?_append_right (by rw [bJ,jU]; omega),bJ,jU,fM];obtain ⟨k,hk⟩:∃k,n - i=k+1:=⟨n - i - 1,by omega⟩
 rw [hk]; rfl
theorem wVZ {p:Pg}{m:List Bl}{n i:Nat}{β γ:Int}(h:i < n):(bsL p m n i β).set i γ=bsL p m n i γ:=by
 unfold bsL;rw [List.set_append,if_neg (by rw [bJ,jU]; omega),bJ,jU,fM,if_pos h,if_pos h]; rfl
theorem yQQ {p:Pg}{m:List Bl}{i:Nat}:evL p m (i+1)=evL p m i++[lJ p m (i:Int)]:=by
 have h:=wVQ p m (n:=i+1) (j:=i) (by omega);rw [evL,List.getElem?_append_right (by rw [jU]; omega),jU,fM] at h;rw [evL]
 congr 1
 injection h with h
 rw [<-h]
theorem qKJ {p:Pg}{m:List Bl}{n i:Nat}(h:i < n):bsL p m n i (lJ p m (i:Int)).2=bsL p m n (i+1) 0:=by
 unfold bsL;rw [yQQ,if_pos h,bP,fG]
 congr 1
 by_cases h1:i+1 < n
 ·rw [if_pos h1];obtain ⟨k,hk⟩:∃k,n - (i+1)=k+1:=⟨n - (i+1) - 1,by omega⟩
  have hk2:n - (i+1+1)=k:=by omega
  rw [hk,hk2,dS]; rfl
 ·rw [if_neg h1];have:n - (i+1)=0:=by omega
  rw [this]; rfl
theorem yQW {p:Pg}{m:List Bl}{n i:Nat}(h:i < n):(vsL p m n i).set i (lJ p m (i:Int)).1=vsL p m n (i+1):=by
 unfold vsL;rw [List.set_append,if_neg (by rw [bJ,jU]; omega),bJ,jU,fM,yQQ,bP,fG]
 congr 1
 obtain ⟨k,hk⟩:∃k,n - i=k+1:=⟨n - i - 1,by omega⟩
 have hk2:n - (i+1)=k:=by omega
 rw [hk,hk2,dS]; rfl
theorem yQX {p:Pg}{m:List Bl}{n i:Nat}(h:i < n)(hz:(lJ p m (i:Int)).1=z0):vsL p m n i=vsL p m n (i+1):=by
 rw [<-yQW h,hz];apply List.ext_getElem?;intro j;rw [List.getElem?_set];by_cases e:i=j
 ·subst e; rw [if_pos rfl,vKQ h,if_pos (by rw [wGF (by omega)]; exact h)]
 ·rw [if_neg e]
theorem zYE {p:Pg}{m:List Bl}{n:Nat}:vsL p m n 0=List.replicate n z0:=by simp [vsL,evL]
theorem zYF {p:Pg}{m:List Bl}{n:Nat}(h:0 < n):bsL p m n 0 0=List.replicate n 0:=by
 unfold bsL;rw [if_pos h];obtain ⟨k,hk⟩:∃k,n=k+1:=⟨n - 1,by omega⟩
 subst hk;simp [evL,dS]
end Go.Ax
