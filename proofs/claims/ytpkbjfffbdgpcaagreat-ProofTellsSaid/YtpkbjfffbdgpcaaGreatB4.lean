/- Parts B4: the machine's runs of small codes, contracts of functions, plain facts. -/
import Derived.Test.YtpkbjfffbdgpcaaGreatB3
open Nat renaming add_zero->aK,le_of_ble_eq_true->aA,le_refl->aN
open Int renaming eq_ofNat_of_zero_le->aG,toNat_natCast->aB
open Bool renaming and_assoc->fE,and_eq_true->aC,eq_iff_iff->dG,true_and->bQ
open List renaming all_eq_false->dP,all_eq_true->bW,drop_eq_getElem_cons->dH,drop_eq_nil_of_le->dL,getElem_mem->aH,length_map->bJ,length_set->aZ,mem_cons->aQ,not_mem_nil->aV,take_of_length_le->aJ,take_succ_eq_append_getElem->aF
open Option renaming bind_some->bY,isSome_some->aU
open Go.Proofs.Tryz
open Go.IntKind (i64)
set_option maxRecDepth 100000
set_option linter.unusedSimpArgs false
set_option linter.unusedVariables false
set_option maxHeartbeats 4000000
namespace Go.Ax
open Go
set_option linter.unusedVariables false
set_option linter.unusedSimpArgs false
structure By where
 st:Int
 n:Int
 b:Int
 o:Int
 i:Int
def By.cs (s:By):List Value:=[.int .i64 s.st,.int .i64 s.n,.int .i64 s.b,.int .i64 s.o,.int .i64 s.i]
def By.val (s:By):Value:=.agg s.cs.toArray
@[go_sem] theorem By.oW {s:By}:Value.agg s.cs.toArray=s.val:=rfl
@[go_sem] theorem By.jM {s:By}:Value.cells.match_1 (fun _=>Array Value) s.val (fun cs=>cs) (fun u=>#[u])=s.cs.toArray:=rfl
@[go_sem] theorem By.gI {s:By}:s.val.cells=s.cs.toArray:=rfl
@[go_sem] theorem By.iY {s:By}:s.cs.toArray.size=5:=rfl
@[go_sem] theorem By.lU {s:By}:s.cs.length=5:=rfl
@[go_sem] theorem By.yD {s:By}:wQ s.cs=True:=by
 apply eq_true;intro u hu;simp only [By.cs,aQ,aV,or_false] at hu;rcases hu with rfl | rfl | rfl | rfl | rfl <;> rfl
theorem By.plain (s:By):wQ s.cs:=of_eq_true By.yD
theorem By.len (s:By):s.cs.length=5:=rfl
@[go_sem] theorem By.fK {s:By}:s.cs.take 5=s.cs:=rfl
@[go_sem] theorem By.take0 {s:By}:s.cs.take 0=[]:=rfl
@[go_sem] theorem By.jC {s:By}:s.cs.drop 5=[]:=rfl
@[go_sem] theorem By.ld {s:By}:rd true 5 s.cs 0=some s.val:=rfl
@[go_sem] theorem By.xG {s:By}:s.cs[0]? = some (.int .i64 s.st):=rfl
@[go_sem] theorem By.ld0 {s:By}:rd false 1 s.cs 0=some (.int .i64 s.st):=rfl
@[go_sem] theorem By.xH {s:By}:s.cs[1]? = some (.int .i64 s.n):=rfl
@[go_sem] theorem By.ld1 {s:By}:rd false 1 s.cs 1=some (.int .i64 s.n):=rfl
@[go_sem] theorem By.qWQ {s:By}:s.cs[2]? = some (.int .i64 s.b):=rfl
@[go_sem] theorem By.ld2 {s:By}:rd false 1 s.cs 2=some (.int .i64 s.b):=rfl
@[go_sem] theorem By.qZV {s:By}:s.cs[3]? = some (.int .i64 s.o):=rfl
@[go_sem] theorem By.ld3 {s:By}:rd false 1 s.cs 3=some (.int .i64 s.o):=rfl
@[go_sem] theorem By.get4 {s:By}:s.cs[4]? = some (.int .i64 s.i):=rfl
@[go_sem] theorem By.ld4 {s:By}:rd false 1 s.cs 4=some (.int .i64 s.i):=rfl
theorem By.row {cs:List Value}{p:Nat}{s:By}(h:(cs.drop p).take 5=s.cs):cs[p]? = some (.int .i64 s.st)/\cs[p+1]? = some (.int .i64 s.n)/\cs[p+2]? = some (.int .i64 s.b)/\cs[p+3]? = some (.int .i64 s.o)/\cs[p+4]? = some (.int .i64 s.i):=by
 have key:∀j,j < 5->cs[p+j]? = s.cs[j]?:=fun j hj=>by
  rw [<-h,List.getElem?_take_of_lt hj,List.getElem?_drop]
 exact ⟨key 0 (by decide),key 1 (by decide),key 2 (by decide),key 3 (by decide),key 4 (by decide)⟩
theorem By.fold {x0:Int}{x1:Int}{x2:Int}{x3:Int}{x4:Int}:Value.agg [.int .i64 x0,.int .i64 x1,.int .i64 x2,.int .i64 x3,.int .i64 x4].toArray=By.val ⟨x0,x1,x2,x3,x4⟩:=rfl
instance By.dec:DecidableEq By:=fun x y=>decidable_of_iff (x.st=y.st/\x.n=y.n/\x.b=y.b/\x.o=y.o/\x.i=y.i) (by cases x; cases y; simp)
theorem jGQ (a b:By):decide (a=b)=(decide (a.st=b.st) && (decide (a.n=b.n) && (decide (a.b=b.b) && (decide (a.o=b.o) && (decide (a.i=b.i) && true))))):=by
 rw [dG];cases a; cases b;simp
@[go_sem] theorem kHF (a b:By):eqV (.st [(false,0,1,.i),(false,1,1,.i),(false,2,1,.i),(false,3,1,.i),(false,4,1,.i)]) a.val b.val=some (decide (a=b)):=by
 rw [jGQ]; rfl
structure Al where
 p:Int
 w:Int
def Al.cs (s:Al):List Value:=[.int .i64 s.p,.int .i64 s.w]
def Al.val (s:Al):Value:=.agg s.cs.toArray
@[go_sem] theorem Al.oW {s:Al}:Value.agg s.cs.toArray=s.val:=rfl
@[go_sem] theorem Al.jM {s:Al}:Value.cells.match_1 (fun _=>Array Value) s.val (fun cs=>cs) (fun u=>#[u])=s.cs.toArray:=rfl
@[go_sem] theorem Al.gI {s:Al}:s.val.cells=s.cs.toArray:=rfl
@[go_sem] theorem Al.iY {s:Al}:s.cs.toArray.size=2:=rfl
@[go_sem] theorem Al.lU {s:Al}:s.cs.length=2:=rfl
@[go_sem] theorem Al.yD {s:Al}:wQ s.cs=True:=by
 apply eq_true;intro u hu;simp only [Al.cs,aQ,aV,or_false] at hu;rcases hu with rfl | rfl <;> rfl
theorem Al.plain (s:Al):wQ s.cs:=of_eq_true Al.yD
theorem Al.len (s:Al):s.cs.length=2:=rfl
@[go_sem] theorem Al.fK {s:Al}:s.cs.take 2=s.cs:=rfl
@[go_sem] theorem Al.take0 {s:Al}:s.cs.take 0=[]:=rfl
@[go_sem] theorem Al.jC {s:Al}:s.cs.drop 2=[]:=rfl
@[go_sem] theorem Al.ld {s:Al}:rd true 2 s.cs 0=some s.val:=rfl
@[go_sem] theorem Al.xG {s:Al}:s.cs[0]? = some (.int .i64 s.p):=rfl
@[go_sem] theorem Al.ld0 {s:Al}:rd false 1 s.cs 0=some (.int .i64 s.p):=rfl
@[go_sem] theorem Al.xH {s:Al}:s.cs[1]? = some (.int .i64 s.w):=rfl
@[go_sem] theorem Al.ld1 {s:Al}:rd false 1 s.cs 1=some (.int .i64 s.w):=rfl
theorem Al.row {cs:List Value}{p:Nat}{s:Al}(h:(cs.drop p).take 2=s.cs):cs[p]? = some (.int .i64 s.p)/\cs[p+1]? = some (.int .i64 s.w):=by
 have key:∀j,j < 2->cs[p+j]? = s.cs[j]?:=fun j hj=>by
  rw [<-h,List.getElem?_take_of_lt hj,List.getElem?_drop]
 exact ⟨key 0 (by decide),key 1 (by decide)⟩
instance Al.dec:DecidableEq Al:=fun x y=>decidable_of_iff (x.p=y.p/\x.w=y.w) (by cases x; cases y; simp)
theorem jGW (a b:Al):decide (a=b)=(decide (a.p=b.p) && (decide (a.w=b.w) && true)):=by
 rw [dG];cases a; cases b;simp
@[go_sem] theorem kDQ (a b:Al):eqV (.st [(false,0,1,.i),(false,1,1,.i)]) a.val b.val=some (decide (a=b)):=by
 rw [jGW]; rfl
structure Bl where
 st:Int
 lA:Option Addr
 lC:Nat
 l:List By
def Bl.cs (s:Bl):List Value:=[.int .i64 s.st,.slice s.lA s.l.length s.lC]
def Bl.val (s:Bl):Value:=.agg s.cs.toArray
@[go_sem] theorem Bl.oW {s:Bl}:Value.agg s.cs.toArray=s.val:=rfl
@[go_sem] theorem Bl.jM {s:Bl}:Value.cells.match_1 (fun _=>Array Value) s.val (fun cs=>cs) (fun u=>#[u])=s.cs.toArray:=rfl
@[go_sem] theorem Bl.gI {s:Bl}:s.val.cells=s.cs.toArray:=rfl
@[go_sem] theorem Bl.iY {s:Bl}:s.cs.toArray.size=2:=rfl
@[go_sem] theorem Bl.lU {s:Bl}:s.cs.length=2:=rfl
@[go_sem] theorem Bl.yD {s:Bl}:wQ s.cs=True:=by
 apply eq_true;intro u hu;simp only [Bl.cs,aQ,aV,or_false] at hu;rcases hu with rfl | rfl <;> rfl
theorem Bl.plain (s:Bl):wQ s.cs:=of_eq_true Bl.yD
theorem Bl.len (s:Bl):s.cs.length=2:=rfl
@[go_sem] theorem Bl.fK {s:Bl}:s.cs.take 2=s.cs:=rfl
@[go_sem] theorem Bl.take0 {s:Bl}:s.cs.take 0=[]:=rfl
@[go_sem] theorem Bl.jC {s:Bl}:s.cs.drop 2=[]:=rfl
@[go_sem] theorem Bl.ld {s:Bl}:rd true 2 s.cs 0=some s.val:=rfl
@[go_sem] theorem Bl.xG {s:Bl}:s.cs[0]? = some (.int .i64 s.st):=rfl
@[go_sem] theorem Bl.ld0 {s:Bl}:rd false 1 s.cs 0=some (.int .i64 s.st):=rfl
@[go_sem] theorem Bl.xH {s:Bl}:s.cs[1]? = some (.slice s.lA s.l.length s.lC):=rfl
@[go_sem] theorem Bl.ld1 {s:Bl}:rd false 1 s.cs 1=some (.slice s.lA s.l.length s.lC):=rfl
theorem Bl.row {cs:List Value}{p:Nat}{s:Bl}(h:(cs.drop p).take 2=s.cs):cs[p]? = some (.int .i64 s.st)/\cs[p+1]? = some (.slice s.lA s.l.length s.lC):=by
 have key:∀j,j < 2->cs[p+j]? = s.cs[j]?:=fun j hj=>by
  rw [<-h,List.getElem?_take_of_lt hj,List.getElem?_drop]
 exact ⟨key 0 (by decide),key 1 (by decide)⟩
structure dM where
 bG:Option Addr
 bV:Nat
 blocks:List Bl
 dV:Option Addr
 dD:Nat
 next:List Int
 inp:Int
 p:Int
 w:Int
def dM.cs (s:dM):List Value:=[.slice s.bG s.blocks.length s.bV,.slice s.dV s.next.length s.dD,.int .i64 s.inp,.int .i64 s.p,.int .i64 s.w]
def dM.val (s:dM):Value:=.agg s.cs.toArray
@[go_sem] theorem dM.oW {s:dM}:Value.agg s.cs.toArray=s.val:=rfl
@[go_sem] theorem dM.jM {s:dM}:Value.cells.match_1 (fun _=>Array Value) s.val (fun cs=>cs) (fun u=>#[u])=s.cs.toArray:=rfl
@[go_sem] theorem dM.gI {s:dM}:s.val.cells=s.cs.toArray:=rfl
@[go_sem] theorem dM.iY {s:dM}:s.cs.toArray.size=5:=rfl
@[go_sem] theorem dM.lU {s:dM}:s.cs.length=5:=rfl
@[go_sem] theorem dM.yD {s:dM}:wQ s.cs=True:=by
 apply eq_true;intro u hu;simp only [dM.cs,aQ,aV,or_false] at hu;rcases hu with rfl | rfl | rfl | rfl | rfl <;> rfl
theorem dM.plain (s:dM):wQ s.cs:=of_eq_true dM.yD
theorem dM.len (s:dM):s.cs.length=5:=rfl
@[go_sem] theorem dM.fK {s:dM}:s.cs.take 5=s.cs:=rfl
@[go_sem] theorem dM.take0 {s:dM}:s.cs.take 0=[]:=rfl
@[go_sem] theorem dM.jC {s:dM}:s.cs.drop 5=[]:=rfl
@[go_sem] theorem dM.ld {s:dM}:rd true 5 s.cs 0=some s.val:=rfl
@[go_sem] theorem dM.xG {s:dM}:s.cs[0]? = some (.slice s.bG s.blocks.length s.bV):=rfl
@[go_sem] theorem dM.ld0 {s:dM}:rd false 1 s.cs 0=some (.slice s.bG s.blocks.length s.bV):=rfl
@[go_sem] theorem dM.xH {s:dM}:s.cs[1]? = some (.slice s.dV s.next.length s.dD):=rfl
@[go_sem] theorem dM.ld1 {s:dM}:rd false 1 s.cs 1=some (.slice s.dV s.next.length s.dD):=rfl
@[go_sem] theorem dM.qWQ {s:dM}:s.cs[2]? = some (.int .i64 s.inp):=rfl
@[go_sem] theorem dM.ld2 {s:dM}:rd false 1 s.cs 2=some (.int .i64 s.inp):=rfl
@[go_sem] theorem dM.qZV {s:dM}:s.cs[3]? = some (.int .i64 s.p):=rfl
@[go_sem] theorem dM.ld3 {s:dM}:rd false 1 s.cs 3=some (.int .i64 s.p):=rfl
@[go_sem] theorem dM.get4 {s:dM}:s.cs[4]? = some (.int .i64 s.w):=rfl
@[go_sem] theorem dM.ld4 {s:dM}:rd false 1 s.cs 4=some (.int .i64 s.w):=rfl
@[go_sem] theorem dM.gVB {s:dM}:rd true 2 s.cs 3=some (Al.val ⟨s.p,s.w⟩):=rfl
structure Cl where
 b:Int
 p:Int
 k:Int
 v:V
 lA:Option Addr
 lC:Nat
 l:List Ba
def Cl.cs (s:Cl):List Value:=[.int .i64 s.b,.int .i64 s.p,.int .i64 s.k,.int .i64 s.v.w,.bool s.v.no,.int .i64 s.v.low,.int .i64 s.v.high,.int .i64 s.v.free,.int .i64 s.v.bits,.slice s.lA s.l.length s.lC]
def Cl.val (s:Cl):Value:=.agg s.cs.toArray
@[go_sem] theorem Cl.oW {s:Cl}:Value.agg s.cs.toArray=s.val:=rfl
@[go_sem] theorem Cl.jM {s:Cl}:Value.cells.match_1 (fun _=>Array Value) s.val (fun cs=>cs) (fun u=>#[u])=s.cs.toArray:=rfl
@[go_sem] theorem Cl.gI {s:Cl}:s.val.cells=s.cs.toArray:=rfl
@[go_sem] theorem Cl.iY {s:Cl}:s.cs.toArray.size=10:=rfl
@[go_sem] theorem Cl.lU {s:Cl}:s.cs.length=10:=rfl
@[go_sem] theorem Cl.yD {s:Cl}:wQ s.cs=True:=by
 apply eq_true;intro u hu;simp only [Cl.cs,aQ,aV,or_false] at hu;rcases hu with rfl | rfl | rfl | rfl | rfl | rfl | rfl | rfl | rfl | rfl <;> rfl
theorem Cl.plain (s:Cl):wQ s.cs:=of_eq_true Cl.yD
theorem Cl.len (s:Cl):s.cs.length=10:=rfl
@[go_sem] theorem Cl.fK {s:Cl}:s.cs.take 10=s.cs:=rfl
@[go_sem] theorem Cl.take0 {s:Cl}:s.cs.take 0=[]:=rfl
@[go_sem] theorem Cl.jC {s:Cl}:s.cs.drop 10=[]:=rfl
@[go_sem] theorem Cl.ld {s:Cl}:rd true 10 s.cs 0=some s.val:=rfl
@[go_sem] theorem Cl.xG {s:Cl}:s.cs[0]? = some (.int .i64 s.b):=rfl
@[go_sem] theorem Cl.ld0 {s:Cl}:rd false 1 s.cs 0=some (.int .i64 s.b):=rfl
@[go_sem] theorem Cl.xH {s:Cl}:s.cs[1]? = some (.int .i64 s.p):=rfl
@[go_sem] theorem Cl.ld1 {s:Cl}:rd false 1 s.cs 1=some (.int .i64 s.p):=rfl
@[go_sem] theorem Cl.qWQ {s:Cl}:s.cs[2]? = some (.int .i64 s.k):=rfl
@[go_sem] theorem Cl.ld2 {s:Cl}:rd false 1 s.cs 2=some (.int .i64 s.k):=rfl
@[go_sem] theorem Cl.qZV {s:Cl}:s.cs[3]? = some (.int .i64 s.v.w):=rfl
@[go_sem] theorem Cl.ld3 {s:Cl}:rd false 1 s.cs 3=some (.int .i64 s.v.w):=rfl
@[go_sem] theorem Cl.get4 {s:Cl}:s.cs[4]? = some (.bool s.v.no):=rfl
@[go_sem] theorem Cl.ld4 {s:Cl}:rd false 1 s.cs 4=some (.bool s.v.no):=rfl
@[go_sem] theorem Cl.yXY {s:Cl}:s.cs[5]? = some (.int .i64 s.v.low):=rfl
@[go_sem] theorem Cl.ld5 {s:Cl}:rd false 1 s.cs 5=some (.int .i64 s.v.low):=rfl
@[go_sem] theorem Cl.yYF {s:Cl}:s.cs[6]? = some (.int .i64 s.v.high):=rfl
@[go_sem] theorem Cl.ld6 {s:Cl}:rd false 1 s.cs 6=some (.int .i64 s.v.high):=rfl
@[go_sem] theorem Cl.jQJ {s:Cl}:s.cs[7]? = some (.int .i64 s.v.free):=rfl
@[go_sem] theorem Cl.ld7 {s:Cl}:rd false 1 s.cs 7=some (.int .i64 s.v.free):=rfl
@[go_sem] theorem Cl.jGX {s:Cl}:s.cs[8]? = some (.int .i64 s.v.bits):=rfl
@[go_sem] theorem Cl.ld8 {s:Cl}:rd false 1 s.cs 8=some (.int .i64 s.v.bits):=rfl
@[go_sem] theorem Cl.xZH {s:Cl}:s.cs[9]? = some (.slice s.lA s.l.length s.lC):=rfl
@[go_sem] theorem Cl.ld9 {s:Cl}:rd false 1 s.cs 9=some (.slice s.lA s.l.length s.lC):=rfl
@[go_sem] theorem Cl.xZD {s:Cl}:rd true 7 s.cs 3=some (abV s.v (.slice s.lA s.l.length s.lC)):=rfl
@[go_sem] theorem Cl.yVJ {s:Cl}:rd true 6 s.cs 3=some (s.v.val):=rfl
theorem Cl.row {cs:List Value}{p:Nat}{s:Cl}(h:(cs.drop p).take 10=s.cs):cs[p]? = some (.int .i64 s.b)/\cs[p+1]? = some (.int .i64 s.p)/\cs[p+2]? = some (.int .i64 s.k)/\cs[p+3]? = some (.int .i64 s.v.w)/\cs[p+4]? = some (.bool s.v.no)/\cs[p+5]? = some (.int .i64 s.v.low)/\cs[p+6]? = some (.int .i64 s.v.high)/\cs[p+7]? = some (.int .i64 s.v.free)/\cs[p+8]? = some (.int .i64 s.v.bits)/\cs[p+9]? = some (.slice s.lA s.l.length s.lC):=by
 have key:∀j,j < 10->cs[p+j]? = s.cs[j]?:=fun j hj=>by
  rw [<-h,List.getElem?_take_of_lt hj,List.getElem?_drop]
 exact ⟨key 0 (by decide),key 1 (by decide),key 2 (by decide),key 3 (by decide),key 4 (by decide),key 5 (by decide),key 6 (by decide),key 7 (by decide),key 8 (by decide),key 9 (by decide)⟩
structure En where
 no:Bool
 cellsA:Option Addr
 zX:Nat
 cells:List Cl
 mG:Option Addr
 mJ:Nat
 news:List Int
def En.cs (s:En):List Value:=[.bool s.no,.slice s.cellsA s.cells.length s.zX,.slice s.mG s.news.length s.mJ]
def En.val (s:En):Value:=.agg s.cs.toArray
@[go_sem] theorem En.oW {s:En}:Value.agg s.cs.toArray=s.val:=rfl
@[go_sem] theorem En.jM {s:En}:Value.cells.match_1 (fun _=>Array Value) s.val (fun cs=>cs) (fun u=>#[u])=s.cs.toArray:=rfl
@[go_sem] theorem En.gI {s:En}:s.val.cells=s.cs.toArray:=rfl
@[go_sem] theorem En.iY {s:En}:s.cs.toArray.size=3:=rfl
@[go_sem] theorem En.lU {s:En}:s.cs.length=3:=rfl
@[go_sem] theorem En.yD {s:En}:wQ s.cs=True:=by
 apply eq_true;intro u hu;simp only [En.cs,aQ,aV,or_false] at hu;rcases hu with rfl | rfl | rfl <;> rfl
theorem En.plain (s:En):wQ s.cs:=of_eq_true En.yD
theorem En.len (s:En):s.cs.length=3:=rfl
@[go_sem] theorem En.fK {s:En}:s.cs.take 3=s.cs:=rfl
@[go_sem] theorem En.take0 {s:En}:s.cs.take 0=[]:=rfl
@[go_sem] theorem En.jC {s:En}:s.cs.drop 3=[]:=rfl
@[go_sem] theorem En.ld {s:En}:rd true 3 s.cs 0=some s.val:=rfl
@[go_sem] theorem En.xG {s:En}:s.cs[0]? = some (.bool s.no):=rfl
@[go_sem] theorem En.ld0 {s:En}:rd false 1 s.cs 0=some (.bool s.no):=rfl
@[go_sem] theorem En.xH {s:En}:s.cs[1]? = some (.slice s.cellsA s.cells.length s.zX):=rfl
@[go_sem] theorem En.ld1 {s:En}:rd false 1 s.cs 1=some (.slice s.cellsA s.cells.length s.zX):=rfl
@[go_sem] theorem En.qWQ {s:En}:s.cs[2]? = some (.slice s.mG s.news.length s.mJ):=rfl
@[go_sem] theorem En.ld2 {s:En}:rd false 1 s.cs 2=some (.slice s.mG s.news.length s.mJ):=rfl
@[go_sem] theorem Cl.zVQ {s:Cl}:s.cs.drop 3=gG s.v (.slice s.lA s.l.length s.lC):=rfl
structure Pc where
 b:Int
 p:Int
 k:Int
 v:V
 l:List Ba
instance Pc.dec:DecidableEq Pc:=fun x y=>decidable_of_iff (x.b=y.b/\x.p=y.p/\x.k=y.k/\x.v=y.v/\x.l=y.l) (by cases x; cases y; simp)
def Cl.pc (c:Cl):Pc:=⟨c.b,c.p,c.k,c.v,c.l⟩
def Bl.rd (F:Fz)(M:Hp)(s:Bl):Prop:=dF 5 By.cs F M (.slice s.lA s.l.length s.lC) s.l
def Cl.rd (F:Fz)(M:Hp)(s:Cl):Prop:=dF 7 Ba.cs F M (.slice s.lA s.l.length s.lC) s.l
structure dM.rd (F:Fz)(M:Hp)(s:dM):Prop where
 blocks:dF 2 Bl.cs F M (.slice s.bG s.blocks.length s.bV) s.blocks
 bytes:∀b∈s.blocks,b.rd F M
 next:lG F M s.dV s.dD s.next
 zero:(s.bG=none->s.bV=0)/\(s.dV=none->s.dD=0)/\∀b∈s.blocks,b.lA=none->b.lC=0
structure En.rd (F:Fz)(M:Hp)(s:En):Prop where
 cells:dF 10 Cl.cs F M (.slice s.cellsA s.cells.length s.zX) s.cells
 ptrs:∀c∈s.cells,c.rd F M
 news:lG F M s.mG s.mJ s.news
 zero:(s.cellsA=none->s.zX=0)/\(s.mG=none->s.mJ=0)/\∀c∈s.cells,c.lA=none->c.lC=0
theorem dM.rd.keep {F:Fz}{M M':Hp}{s:dM}(h:s.rd F M)(kp:Keep M M')(o:Old F M'):s.rd F M':=⟨h.blocks.keep kp o,fun b hb=>dF.keep (h.bytes b hb) kp o,h.next.keep kp o,h.zero⟩
theorem En.rd.keep {F:Fz}{M M':Hp}{s:En}(h:s.rd F M)(kp:Keep M M')(o:Old F M'):s.rd F M':=⟨h.cells.keep kp o,fun b hb=>dF.keep (h.ptrs b hb) kp o,h.news.keep kp o,h.zero⟩
theorem dM.rd.new {F:Fz}{M:Hp}{s:dM}(h:s.rd F M){r:Nat}{e:nH}(hF:F r=none)(hM:M r=none):s.rd F (M.upd r e):=⟨h.blocks.new hF hM,fun b hb=>dF.new (h.bytes b hb) hF hM,h.next.new hF hM,h.zero⟩
theorem En.rd.new {F:Fz}{M:Hp}{s:En}(h:s.rd F M){r:Nat}{e:nH}(hF:F r=none)(hM:M r=none):s.rd F (M.upd r e):=⟨h.cells.new hF hM,fun b hb=>dF.new (h.ptrs b hb) hF hM,h.news.new hF hM,h.zero⟩
theorem En.rd.yP {F:Fz}{M N:Hp}{s:En}(h:s.rd F M)(hN:Old (F.all M) N):s.rd (F.all M) N:=⟨h.cells.yP hN,fun b hb=>dF.yP (h.ptrs b hb) hN,h.news.yP hN,h.zero⟩
structure Pg.rdM (F:Fz)(M:Hp)(p:Pg):Prop where
 vars:lG F M p.vA p.vC p.vars
 news:lG F M p.nA p.nC p.news
 exprs:dF 5 Xp.cs F M (.slice p.eA p.exprs.length p.eC) p.exprs
 stmts:dF 7 Sm.cs F M (.slice p.sA p.stmts.length p.sC) p.stmts
 main:lG F M p.mA p.mC p.main
 bodies:∀s∈p.stmts,lG F M s.ba s.bc s.body/\lG F M s.ea s.ec s.els
 zero:(p.vA=none->p.vC=0)/\(p.nA=none->p.nC=0)/\∀s∈p.stmts,(s.ba=none->s.bc=0)/\(s.ea=none->s.ec=0)
 few:p.vars.length<=2500/\p.news.length<=2500/\p.exprs.length<=2500/\p.stmts.length<=2500/\p.main.length<=2500/\∀s∈p.stmts,s.body.length<=2500/\s.els.length<=2500
theorem Pg.rdM.yP {F:Fz}{M:Hp}{p:Pg}(h:p.rdM F M):p.rd (F.all M):=
 ⟨fun N o=>h.vars.yP o,fun N o=>h.news.yP o,fun N o=>h.exprs.yP o,fun N o=>h.stmts.yP o,fun N o=>h.main.yP o,fun s hs N o=>⟨(h.bodies s hs).1.yP o,(h.bodies s hs).2.yP o⟩,h.zero,h.few⟩
theorem Pg.rd.all {F:Fz}{M:Hp}{p:Pg}(hold:Old F M)(h:p.rd F):p.rdM F M:=
 ⟨h.vars M hold,h.news M hold,h.exprs M hold,h.stmts M hold,h.main M hold,fun s hs=>h.bodies s hs M hold,h.zero,h.few⟩
abbrev Ext (B:Nat->Option (List Value)) (F:Fz) (M:Hp):Prop:=∀b c,B b=some c->blk F M b=some c
theorem Ext.old {F:Fz}{M:Hp}(h:Old F M):Ext F F M:=fun b c hb=>h.blk hb
section
variable {B:Nat->Option (List Value)}
theorem dR {a r:Sh}{cs:List Value}(h:Rd B (.cons 1 a r) cs):∃x cs',cs=x :: cs'/\Rd B a [x]/\Rd B r cs':=by
 obtain ⟨h1,h2,h3⟩:=h;cases cs with
 | nil=>simp at h1
 | cons x cs=>exact ⟨x,cs,rfl,by simpa using h2,by simpa using h3⟩
theorem yR {n:Nat}{a r:Sh}{cs:List Value}(h:Rd B (.cons n a r) cs):∃c1 c2,cs=c1++c2/\c1.length=n/\Rd B a c1/\Rd B r c2:=
 ⟨cs.take n,cs.drop n,(List.take_append_drop _ _).symm,h.1,h.2.1,h.2.2⟩
theorem nO {cs:List Value}(h:Rd B .nil cs):cs=[]:=h
theorem uN {x:Value}(h:Rd B (.int .i64) [x]):∃n:Int,x=.int .i64 n/\yZW n:=by
 obtain ⟨n,e,hw⟩:=h;cases e;refine ⟨n,rfl,?_⟩;simp [Lit.wf,IntKind.min,IntKind.max,IntKind.signed,IntKind.bits] at hw;unfold yZW;omega
theorem vXA {x:Value}(h:Rd B .bool [x]):∃b:Bool,x=.bool b:=by
 obtain ⟨n,e⟩:=h;cases e;exact ⟨n,rfl⟩
theorem qZE {α:Type}{sz bytes:Nat}{e:Sh}{f:α->List Value}{Q:α->Prop}{v:Value}(h:Rd B (.slice sz bytes e) [v])(hb:0 < bytes)(hsz:0 < sz)(hx:∀x:List Value,x.length=sz->Rd B e x->∃a:α,x=f a/\Q a) :
  ∃(a:Option Addr) (cap:Nat) (l:List α),v=.slice a l.length cap/\(a=none->cap=0)/\l.length<=140737488351232/\(∀x∈l,Q x)/\∀(F:Fz) (M:Hp),Ext B F M->dF sz f F M (.slice a l.length cap) l:=by
 obtain ⟨a,cap,l,rfl,h1,h2,h3⟩:=vWE h hb hsz hx;exact ⟨a,cap,l,rfl,yYA h,h1,h2,h3⟩
theorem wQZ {v:Value}(h:Rd B uJ [v]):∃(a:Option Addr) (cap:Nat) (l:List Int),v=.slice a l.length cap/\(a=none->cap=0)/\l.length<=140737488351232/\(∀x∈l,yZW x)/\∀(F:Fz) (M:Hp),Ext B F M->lG F M a cap l:=
 qZE (Q:=yZW) h (by decide) (by decide) (fun x hl hx=>by
  match x,hl with
  | [x],_=>
   obtain ⟨n,rfl,hn⟩:=uN hx;exact ⟨n,rfl,hn⟩)
abbrev xZY:Sh:=.cons 1 (.int .i64) (.cons 1 (.int .i64) (.cons 1 (.int .i64) (.cons 1 (.int .i64) (.cons 1 (.int .i64) .nil))))
abbrev vXB:Sh:=.cons 1 (.int .i64) (.cons 1 (.int .i64) .nil)
abbrev zVW:Sh:=.cons 1 (.int .i64) (.cons 1 (.slice 5 40 xZY) .nil)
abbrev zVX:Sh:=.cons 1 (.slice 2 32 zVW) (.cons 1 uJ (.cons 1 (.int .i64) (.cons 2 vXB .nil)))
abbrev zVZ:Sh:=.cons 1 (.int .i64) (.cons 1 (.int .i64) (.cons 1 (.int .i64) (.cons 7 kVA .nil)))
abbrev zVK:Sh:=.cons 1 .bool (.cons 1 (.slice 10 96 zVZ) (.cons 1 uJ .nil))
abbrev zVJ:Sh:=.cons 1 (.int .i64) (.cons 1 (.int .i64) (.cons 1 (.int .i64) (.cons 1 (.int .i64) (.cons 1 (.int .i64) (.cons 1 uJ (.cons 1 uJ .nil))))))
abbrev zVG:Sh:=.cons 1 .bool (.cons 1 (.int .i64) .nil)
abbrev zVV:Sh:=.cons 2 zVG (.cons 1 uJ (.cons 1 uJ (.cons 1 (.slice 5 40 xZY) (.cons 1 (.slice 7 88 zVJ) (.cons 1 uJ .nil)))))
theorem xVY {x:List Value}(h:Rd B xZY x):∃s:By,x=s.cs:=by
 obtain ⟨x0,c,rfl,h0,h⟩:=dR h;obtain ⟨x1,c,rfl,h1,h⟩:=dR h;obtain ⟨x2,c,rfl,h2,h⟩:=dR h;obtain ⟨x3,c,rfl,h3,h⟩:=dR h;obtain ⟨x4,c,rfl,h4,h⟩:=dR h;obtain rfl:=nO h;obtain ⟨n0,rfl,_⟩:=uN h0;obtain ⟨n1,rfl,_⟩:=uN h1;obtain ⟨n2,rfl,_⟩:=uN h2;obtain ⟨n3,rfl,_⟩:=uN h3;obtain ⟨n4,rfl,_⟩:=uN h4;exact ⟨⟨n0,n1,n2,n3,n4⟩,rfl⟩
theorem zVH {x:List Value}(h:Rd B xZY x):∃s:Xp,x=s.cs:=by
 obtain ⟨s,rfl⟩:=xVY h;exact ⟨⟨s.st,s.n,s.b,s.o,s.i⟩,rfl⟩
def Bl.inB (B:Nat->Option (List Value))(s:Bl):Prop:=(s.lA=none->s.lC=0)/\s.l.length<=140737488351232/\∀F M,Ext B F M->s.rd F M
theorem zVD {x:List Value}(h:Rd B zVW x):∃s:Bl,x=s.cs/\s.inB B:=by
 obtain ⟨x0,c,rfl,h0,h⟩:=dR h;obtain ⟨x1,c,rfl,h1,h⟩:=dR h;obtain rfl:=nO h;obtain ⟨n0,rfl,_⟩:=uN h0;obtain ⟨a,cap,l,rfl,g1,g2,g3,g4⟩:=qZE (f:=By.cs) (Q:=fun _=>True) h1 (by decide) (by decide) (fun x _ hx=>by obtain ⟨s,hs⟩:=xVY hx; exact ⟨s,hs,trivial⟩);exact ⟨⟨n0,a,cap,l⟩,rfl,g1,g2,g4⟩
structure dM.inB (B:Nat->Option (List Value))(s:dM):Prop where
 many:s.blocks.length<=140737488351232/\s.next.length<=140737488351232
 bytes:∀b∈s.blocks,b.l.length<=140737488351232
 rd:∀F M,Ext B F M->s.rd F M
theorem vXC {x:List Value}(h:Rd B zVX x):∃s:dM,x=s.cs/\s.inB B:=by
 obtain ⟨x0,c,rfl,h0,h⟩:=dR h;obtain ⟨x1,c,rfl,h1,h⟩:=dR h;obtain ⟨x2,c,rfl,h2,h⟩:=dR h;obtain ⟨y,c,rfl,hy,h3,h⟩:=yR h;obtain rfl:=nO h;obtain ⟨x3,c,rfl,h4,h⟩:=dR h3;obtain ⟨x4,c,rfl,h5,h⟩:=dR h;obtain rfl:=nO h;obtain ⟨n2,rfl,_⟩:=uN h2;obtain ⟨n3,rfl,_⟩:=uN h4;obtain ⟨n4,rfl,_⟩:=uN h5;obtain ⟨a,cap,l,rfl,g1,g2,g3,g4⟩:=qZE (f:=Bl.cs) (Q:=Bl.inB B) h0 (by decide) (by decide) (fun x _ hx=>zVD hx);obtain ⟨a',cap',l',rfl,k1,k2,k3,k4⟩:=wQZ h1;exact ⟨⟨a,cap,l,a',cap',l',n2,n3,n4⟩,rfl,⟨g2,k2⟩,fun b hb=>(g3 b hb).2.1,fun F M hB=>⟨g4 F M hB,fun b hb=>(g3 b hb).2.2 F M hB,k4 F M hB,g1,k1,fun b hb=>(g3 b hb).1⟩⟩
def Cl.inB (B:Nat->Option (List Value))(s:Cl):Prop:=(s.lA=none->s.lC=0)/\s.l.length<=140737488351232/\∀F M,Ext B F M->s.rd F M
theorem zVY {x:List Value}(h:Rd B zVZ x):∃s:Cl,x=s.cs/\s.inB B:=by
 obtain ⟨x0,c,rfl,h0,h⟩:=dR h;obtain ⟨x1,c,rfl,h1,h⟩:=dR h;obtain ⟨x2,c,rfl,h2,h⟩:=dR h;obtain ⟨y,c,rfl,hy,h3,h⟩:=yR h;obtain rfl:=nO h;obtain ⟨z,c,rfl,hz,h4,h⟩:=yR h3;obtain ⟨x4,c,rfl,h5,h⟩:=dR h;obtain rfl:=nO h;obtain ⟨v,rfl⟩:=zGZ hz h4;obtain ⟨n0,rfl,_⟩:=uN h0;obtain ⟨n1,rfl,_⟩:=uN h1;obtain ⟨n2,rfl,_⟩:=uN h2;obtain ⟨a,cap,l,rfl,g1,g2,g3,g4⟩:=qZE (f:=Ba.cs) (Q:=fun _=>True) h5 (by decide) (by decide) (fun x hl hx=>by obtain ⟨s,hs⟩:=zGK hl hx; exact ⟨s,hs,trivial⟩);exact ⟨⟨n0,n1,n2,v,a,cap,l⟩,rfl,g1,g2,g4⟩
structure En.inB (B:Nat->Option (List Value))(s:En):Prop where
 many:s.cells.length<=140737488351232/\s.news.length<=140737488351232
 ptrs:∀b∈s.cells,b.l.length<=140737488351232
 rd:∀F M,Ext B F M->s.rd F M
theorem zVA {x:List Value}(h:Rd B zVK x):∃s:En,x=s.cs/\s.inB B:=by
 obtain ⟨x0,c,rfl,h0,h⟩:=dR h;obtain ⟨x1,c,rfl,h1,h⟩:=dR h;obtain ⟨x2,c,rfl,h2,h⟩:=dR h;obtain rfl:=nO h;obtain ⟨n0,rfl⟩:=vXA h0;obtain ⟨a,cap,l,rfl,g1,g2,g3,g4⟩:=qZE (f:=Cl.cs) (Q:=Cl.inB B) h1 (by decide) (by decide) (fun x _ hx=>zVY hx);obtain ⟨a',cap',l',rfl,k1,k2,k3,k4⟩:=wQZ h2;exact ⟨⟨n0,a,cap,l,a',cap',l'⟩,rfl,⟨g2,k2⟩,fun b hb=>(g3 b hb).2.1,fun F M hB=>⟨g4 F M hB,fun b hb=>(g3 b hb).2.2 F M hB,k4 F M hB,g1,k1,fun b hb=>(g3 b hb).1⟩⟩
def Sm.inB (B:Nat->Option (List Value))(s:Sm):Prop:=((s.ba=none->s.bc=0)/\(s.ea=none->s.ec=0))/\(s.body.length<=140737488351232/\s.els.length<=140737488351232)/\∀F M,Ext B F M->lG F M s.ba s.bc s.body/\lG F M s.ea s.ec s.els
theorem zVB {x:List Value}(h:Rd B zVJ x):∃s:Sm,x=s.cs/\s.inB B:=by
 obtain ⟨x0,c,rfl,h0,h⟩:=dR h;obtain ⟨x1,c,rfl,h1,h⟩:=dR h;obtain ⟨x2,c,rfl,h2,h⟩:=dR h;obtain ⟨x3,c,rfl,h3,h⟩:=dR h;obtain ⟨x4,c,rfl,h4,h⟩:=dR h;obtain ⟨x5,c,rfl,h5,h⟩:=dR h;obtain ⟨x6,c,rfl,h6,h⟩:=dR h;obtain rfl:=nO h;obtain ⟨n0,rfl,_⟩:=uN h0;obtain ⟨n1,rfl,_⟩:=uN h1;obtain ⟨n2,rfl,_⟩:=uN h2;obtain ⟨n3,rfl,_⟩:=uN h3;obtain ⟨n4,rfl,_⟩:=uN h4;obtain ⟨a,cap,l,rfl,g1,g2,g3,g4⟩:=wQZ h5;obtain ⟨a',cap',l',rfl,k1,k2,k3,k4⟩:=wQZ h6;exact ⟨⟨n0,n1,n2,n3,n4,a,cap,l,a',cap',l'⟩,rfl,⟨g1,k1⟩,⟨g2,k2⟩,fun F M hB=>⟨g4 F M hB,k4 F M hB⟩⟩
structure Pg.inB (B:Nat->Option (List Value))(p:Pg):Prop where
 many:p.vars.length<=140737488351232/\p.news.length<=140737488351232/\p.exprs.length<=140737488351232/\p.stmts.length<=140737488351232/\p.main.length<=140737488351232/\∀s∈p.stmts,s.body.length<=140737488351232/\s.els.length<=140737488351232
 vars:∀F M,Ext B F M->lG F M p.vA p.vC p.vars
 news:∀F M,Ext B F M->lG F M p.nA p.nC p.news
 exprs:∀F M,Ext B F M->dF 5 Xp.cs F M (.slice p.eA p.exprs.length p.eC) p.exprs
 stmts:∀F M,Ext B F M->dF 7 Sm.cs F M (.slice p.sA p.stmts.length p.sC) p.stmts
 main:∀F M,Ext B F M->lG F M p.mA p.mC p.main
 bodies:∀s∈p.stmts,∀F M,Ext B F M->lG F M s.ba s.bc s.body/\lG F M s.ea s.ec s.els
 zero:(p.vA=none->p.vC=0)/\(p.nA=none->p.nC=0)/\∀s∈p.stmts,(s.ba=none->s.bc=0)/\(s.ea=none->s.ec=0)
 ints:(∀x∈p.vars,yZW x)/\(∀x∈p.news,yZW x)
theorem zVC {x:List Value}(h:Rd B zVV x):∃p:Pg,x=p.cs/\p.inB B:=by
 obtain ⟨y,c,rfl,hy,ha,h⟩:=yR h;obtain ⟨x2,c,rfl,h2,h⟩:=dR h;obtain ⟨x3,c,rfl,h3,h⟩:=dR h;obtain ⟨x4,c,rfl,h4,h⟩:=dR h;obtain ⟨x5,c,rfl,h5,h⟩:=dR h;obtain ⟨x6,c,rfl,h6,h⟩:=dR h;obtain rfl:=nO h;obtain ⟨x0,c,rfl,h0,h⟩:=dR ha;obtain ⟨x1,c,rfl,h1,h⟩:=dR h;obtain rfl:=nO h;obtain ⟨n0,rfl⟩:=vXA h0;obtain ⟨n1,rfl,_⟩:=uN h1;obtain ⟨a2,c2,l2,rfl,p1,p2,p3,p4⟩:=wQZ h2;obtain ⟨a3,c3,l3,rfl,q1,q2,q3,q4⟩:=wQZ h3;obtain ⟨a4,c4,l4,rfl,r1,r2,r3,r4⟩:=qZE (f:=Xp.cs) (Q:=fun _=>True) h4 (by decide) (by decide) (fun x _ hx=>by obtain ⟨s,hs⟩:=zVH hx; exact ⟨s,hs,trivial⟩);obtain ⟨a5,c5,l5,rfl,s1,s2,s3,s4⟩:=qZE (f:=Sm.cs) (Q:=Sm.inB B) h5 (by decide) (by decide) (fun x _ hx=>zVB hx);obtain ⟨a6,c6,l6,rfl,t1,t2,t3,t4⟩:=wQZ h6;exact ⟨⟨n0,n1,a2,c2,l2,a3,c3,l3,a4,c4,l4,a5,c5,l5,a6,c6,l6⟩,rfl,⟨p2,q2,r2,s2,t2,fun s hs=>(s3 s hs).2.1⟩,p4,q4,r4,s4,t4,fun s hs=>(s3 s hs).2.2,⟨p1,q1,fun s hs=>(s3 s hs).1⟩,p3,q3⟩
theorem Pg.inB.rd {F:Fz}{p:Pg}(h:p.inB F)(hf:p.vars.length<=2500/\p.news.length<=2500/\p.exprs.length<=2500/\p.stmts.length<=2500/\p.main.length<=2500/\∀s∈p.stmts,s.body.length<=2500/\s.els.length<=2500):p.rd F:=
 ⟨fun M o=>h.vars F M (Ext.old o),fun M o=>h.news F M (Ext.old o),fun M o=>h.exprs F M (Ext.old o),fun M o=>h.stmts F M (Ext.old o),fun M o=>h.main F M (Ext.old o),fun s hs M o=>h.bodies s hs F M (Ext.old o),h.zero,hf⟩
structure iL where
 p:Pg
 sA:Option Addr
 sC:Nat
 s:List dM
 eA:Option Addr
 eC:Nat
 e:List En
 xA:Option Addr
 xC:Nat
 x:List Ab
def iL.cs (q:iL):List Value:=q.p.cs++[.slice q.sA q.s.length q.sC,.slice q.eA q.e.length q.eC,.slice q.xA q.x.length q.xC]
end
end Go.Ax
namespace Go.Proofs.Tryz.K
open Go Go.Ax Go.Proofs.Tryz.S
variable (F:Fz) (M:Hp)
theorem k48 (op:Int):aI prog 48 [.int .i64 op] F M (Same F M (.int .i64 (bH op))):=by
 refine qZ hm func48 e48 (aA rfl) ?_;simp only [c48,go_sem]
 repeat' first
  | simp only [go_sem, *]
  | (with_reducible first | apply cD | apply cN | apply cB | apply cO | apply tD | apply fD | apply tN | apply fN | apply tB | apply fB | apply tO | apply fO) <;> intro hc
  | (intro rx hFx lD; (try simp only [qD] at lD))
  | refine qQ (k47 _ _ _ _ _) ?_
 all_goals (refine qX (M:=M) (by repeat' first | exact Keep.refl _ | (refine Keep.new ?_ (by simp only [*]))) ⟨?_,rfl,rfl⟩)
 all_goals simp_all [bH]
theorem k50 (k:Int):aI prog 50 [.int .i64 k] F M (Same F M (.bool (decide (0 < wK k)))):=by
 refine qZ hm func50 e50 (aA rfl) ?_;simp only [c50,go_sem]
 repeat' first
  | simp only [go_sem, *]
  | (with_reducible first | apply cD | apply cN | apply cB | apply cO | apply tD | apply fD | apply tN | apply fN | apply tB | apply fB | apply tO | apply fO) <;> intro hc
  | (intro rx hFx lD; (try simp only [qD] at lD))
  | refine qQ (k52 _ _ _) ?_
 all_goals (refine qX (M:=M) (by repeat' first | exact Keep.refl _ | (refine Keep.new ?_ (by simp only [*]))) ⟨?_,rfl,rfl⟩)
 all_goals rfl
theorem k20 (big:Bool)(ptr:Int):aI prog 20 [.agg #[.bool big,.int .i64 ptr]] F M (Same F M (.bool (decide (ptr=2) || decide (ptr=4)))):=by
 refine qZ hm func20 e20 (aA rfl) ?_;simp only [c20,go_sem]
 repeat' first
  | simp only [go_sem, *]
  | (with_reducible first | apply cD | apply cN | apply cB | apply cO | apply tD | apply fD | apply tN | apply fN | apply tB | apply fB | apply tO | apply fO) <;> intro hc
  | (intro rx hFx lD; (try simp only [qD] at lD))
 all_goals (refine qX (M:=M) (by repeat' first | exact Keep.refl _ | (refine Keep.new ?_ (by simp only [*]))) ⟨?_,rfl,rfl⟩)
 all_goals simp_all
def nZ (ptr k:Int):Int:=if k=7 then ptr else (wK k).tdiv 8
theorem k89 (big:Bool)(ptr k:Int):aI prog 89 [.agg #[.bool big,.int .i64 ptr],.int .i64 k] F M (Same F M (.int .i64 (nZ ptr k))):=by
 refine qZ hm func89 e89 (aA rfl) ?_;have hw:0<=wK k/\wK k<=32:=by
  unfold wK iF;split
  ·split
   ·omega
   split <;> omega
  ·omega
 have hd:i64.wrap ((wK k).tdiv 8)=(wK k).tdiv 8:=by
  rw [Int.tdiv_eq_ediv_of_nonneg hw.1];exact dQ (by omega) (by omega)
 simp only [c89,go_sem]
 repeat' first
  | simp only [go_sem, *]
  | (with_reducible first | apply cD | apply cN | apply cB | apply cO | apply tD | apply fD | apply tN | apply fN | apply tB | apply fB | apply tO | apply fO) <;> intro hc
  | (intro rx hFx lD; (try simp only [qD] at lD))
  | refine qQ (k52 _ _ _) ?_
 all_goals (refine qX (M:=M) (by repeat' first | exact Keep.refl _ | (refine Keep.new ?_ (by simp only [*]))) ⟨?_,rfl,rfl⟩)
 all_goals simp_all [nZ]
theorem xZA (big:Bool)(ptr k:Int)(hk:isS k=true):aI prog 154 [.agg #[.bool big,.int .i64 ptr],.int .i64 k] F M (Same F M (.int .i64 (nZ ptr k))):=by
 refine qZ hm func154 e154 (aA rfl) ?_;have hw:0<=iF k/\iF k<=32:=by
  unfold iF;split
  ·omega
  split <;> omega
 have hd:i64.wrap ((iF k).tdiv 8)=(iF k).tdiv 8:=by
  rw [Int.tdiv_eq_ediv_of_nonneg hw.1];exact dQ (by omega) (by omega)
 have hkk:k=7\/isK k=true:=by
  simp [isS,isK] at hk ⊢; omega
 by_cases h7:k=7
 ·simp only [c154,go_sem]
  repeat' first
  | simp only [go_sem, *]
  | (with_reducible first | apply cD | apply cN | apply cB | apply cO | apply tD | apply fD | apply tN | apply fN | apply tB | apply fB | apply tO | apply fO) <;> intro hc
  | (intro rx hFx lD; (try simp only [qD] at lD))
  all_goals (refine qX (M:=M) (by repeat' first | exact Keep.refl _ | (refine Keep.new ?_ (by simp only [*]))) ⟨?_,rfl,rfl⟩)
  all_goals simp_all [nZ]
 ·have hk6:isK k=true:=by simpa [h7] using hkk
  simp only [c154,go_sem]
  repeat' first
  | simp only [go_sem, *]
  | (with_reducible first | apply cD | apply cN | apply cB | apply cO | apply tD | apply fD | apply tN | apply fN | apply tB | apply fB | apply tO | apply fO) <;> intro hc
  | (intro rx hFx lD; (try simp only [qD] at lD))
   | refine qQ (qHZ _ _ _ hk6) ?_
  all_goals (refine qX (M:=M) (by repeat' first | exact Keep.refl _ | (refine Keep.new ?_ (by simp only [*]))) ⟨?_,rfl,rfl⟩)
  all_goals simp_all [nZ,wK]
theorem k54 (p:Pg)(e k:Int)(hp:p.rd F)(hold:Old F M):aI prog 54 [p.val,.int .i64 e,.int .i64 k] F M (Same F M (.bool (qYE p.exprs e k))):=by
 refine qZ hm func54 e54 (aA rfl) ?_;have hl:=hp.few.2.2.1;have ew:i64.wrap ((p.exprs.length:Int) - 1)=p.exprs.length - 1:=dQ (by omega) (by omega);by_cases hn:uX e ((p.exprs.length:Int) - 1)=true
 ·have hn':=hn;simp only [uX,aC,decide_eq_true_eq] at hn';obtain ⟨i,rfl⟩:=aG hn'.1;have hi:i < p.exprs.length:=by omega
  have hi0:(0:Int)<=i:=by omega
  have hil:(i:Int) < p.exprs.length:=by omega
  have jGZ:(i:Int)<=p.exprs.length - 1:=by omega
  simp only [c54,go_sem];intro r3 hF3 dN;obtain ⟨b,o,cs,ea,hb,d1,d2,d3⟩:=yVW F (M.upd r3 ⟨p.cs,43,7⟩) hp (hold.upd hF3) hi;have hk:bF p.exprs i=p.exprs[i].kind:=by
   unfold bF;rw [aB,List.getElem?_eq_getElem hi]; rfl
  generalize p.exprs[i].kind=q at *;simp only [go_sem,ew];refine qQ (k49 _ _ _ _) ?_;simp only [go_sem,hi0,hil,jGZ,ea,aB,hb,d3];refine qX (M:=M) ((Keep.refl M).new dN) ⟨?_,rfl,rfl⟩;simp [qYE,hn,hk]
 ·simp only [c54,go_sem];intro r3 hF3 dN;simp only [go_sem,ew];refine qQ (k49 _ _ _ _) ?_;have hn':(decide (0<=e) && decide (e<=(p.exprs.length:Int) - 1))=false:=by simpa [uX] using hn
  simp only [go_sem,hn'];refine qX (M:=M) ((Keep.refl M).new dN) ⟨?_,rfl,rfl⟩;simp [qYE,hn]
theorem k88 (a1 a2:Option Addr)(c1 c2:Nat)(l1 l2:List Int)(h1:lG F M a1 c1 l1)(h2:lG F M a2 c2 l2) :
  aI prog 88 [.slice a1 l1.length c1,.slice a2 l2.length c2] F M (Same F M (.bool (decide (l1=l2)))):=by
 refine qZ hm func88 e88 (aA rfl) ?_;have hm:=h1.1;by_cases hlen:(l1.length:Int)=l2.length;rotate_left
 ·simp only [c88,go_sem,hlen];exact qW ⟨by rw [decide_eq_false (by rintro rfl; exact hlen rfl)],rfl,rfl⟩
 simp only [c88,go_sem,hlen];refine wV l1.length (fun i σ F' M'=>F=F'/\M=M'/\Ax.look σ 5=some (.int .i64 i)/\l1.take i=l2.take i) ⟨rfl,rfl,(by simp only [go_sem, *] <;> rfl),by simp⟩ ?_;rintro i σ F' M' hi hs ⟨rfl,rfl,h5,he⟩;have s0:=hs 0 rfl;have s1:=hs 1 rfl;by_cases hil:(i:Int) < l2.length;rotate_left
 ·have:l1=l2:=by
   rw [aJ (by omega),aJ (by omega)] at he;exact he
  repeat' first
  | simp only [go_sem, *]
  | (with_reducible first | apply cD | apply cN | apply cB | apply cO | apply tD | apply fD | apply tN | apply fN | apply tB | apply fB | apply tO | apply fO) <;> intro hc
  | (intro rx hFx lD; (try simp only [qD] at lD))
  all_goals (refine qX (M:=M) (by repeat' first | exact Keep.refl _ | (refine Keep.new ?_ (by simp only [*]))) ⟨?_,rfl,rfl⟩)
  simp []
 have hi0:(0:Int)<=i:=by omega
 have hi1:i < l1.length:=by omega
 have hi2:i < l2.length:=by omega
 have ei:i64.wrap ((i:Int)+1)=i+1:=dQ (by omega) (by omega);obtain ⟨b,o,cs,rfl,hb,d1⟩:=gW h1 hi1;obtain ⟨b',o',cs',rfl,hb',d2⟩:=gW h2 hi2;have t1:=aF hi1;have t2:=aF hi2;have hne:¬l1[i]=l2[i]->¬l1=l2:=by
  rintro h rfl; exact h rfl
 generalize l1[i]=x at *;generalize l2[i]=y at *;by_cases hxy:x=y
 ·simp only [go_sem,s0,s1,h5,hlen,hil,hi0,aB,hb,hb',d1,d2,hxy,ei];exact ⟨hi1,rfl,rfl,(by simp only [go_sem, *] <;> rfl),by rw [t1,t2,he,hxy]⟩
 ·simp only [go_sem,s0,s1,h5,hlen,hil,hi0,aB,hb,hb',d1,d2,hxy];exact qW ⟨by rw [decide_eq_false (hne hxy)],rfl,rfl⟩
theorem k55 (s t:Sm)(h1:lG F M s.ba s.bc s.body)(h2:lG F M s.ea s.ec s.els)(h3:lG F M t.ba t.bc t.body)(h4:lG F M t.ea t.ec t.els) :
  aI prog 55 [s.val,t.val] F M (Same F M (.bool (decide (s.op=t.op) && decide (s.to=t.to) && decide (s.kind=t.kind) && decide (s.e=t.e) && decide (s.n=t.n) && decide (s.body=t.body) && decide (s.els=t.els)))):=by
 refine qZ hm func55 e55 (aA rfl) ?_;simp only [c55,go_sem];intro r2 hF2 hM2;simp only [go_sem];intro r3 hF3 dN;simp only [qD] at dN;have b1:=(h1.new hF2 hM2 (e:=⟨s.cs,80,7⟩)).new hF3 (by simp only [qD,not_false_eq_true,and_self, *]) (e:=⟨t.cs,80,7⟩);have b2:=(h2.new hF2 hM2 (e:=⟨s.cs,80,7⟩)).new hF3 (by simp only [qD,not_false_eq_true,and_self, *]) (e:=⟨t.cs,80,7⟩);have b3:=(h3.new hF2 hM2 (e:=⟨s.cs,80,7⟩)).new hF3 (by simp only [qD,not_false_eq_true,and_self, *]) (e:=⟨t.cs,80,7⟩);have b4:=(h4.new hF2 hM2 (e:=⟨s.cs,80,7⟩)).new hF3 (by simp only [qD,not_false_eq_true,and_self, *]) (e:=⟨t.cs,80,7⟩)
 repeat' first
  | simp only [go_sem,wX,aU,aK, *]
  | (with_reducible first | apply cD | apply cN | apply cB | apply cO | apply tD | apply fD | apply tN | apply fN | apply tB | apply fB | apply tO | apply fO) <;> intro hc
  | (intro rx hFx lD; (try simp only [qD] at lD))
  | refine qQ (k88 _ _ _ _ _ _ _ _ b1 b3) ?_
  | refine qQ (k88 _ _ _ _ _ _ _ _ b2 b4) ?_
 all_goals (refine qX (M:=M) (by repeat' first | exact Keep.refl _ | (refine Keep.new ?_ (by simp only [*]))) ⟨?_,rfl,rfl⟩)
 all_goals simp_all
theorem k21 (a:Option Addr)(c:Nat)(l:List Int)(most:Int)(h:lG F M a c l)(h0:0<=most)(h100:most<=100) :
  aI prog 21 [.slice a l.length c,.int .i64 most] F M (Same F M (.bool (rC l most.toNat))):=by
 refine qZ hm func21 e21 (aA rfl) ?_;have hl:=h.1;simp only [c21,go_sem];refine wV l.length (fun i σ F' M'=>F=F'/\M=M'/\Ax.look σ 5=some (.int .i64 i)/\(l.take i).all vO=true) ⟨rfl,rfl,(by simp only [go_sem, *] <;> rfl),by simp⟩ ?_;rintro i σ F' M' hi hs ⟨rfl,rfl,h5,he⟩;have s0:=hs 0 rfl;have s1:=hs 1 rfl;by_cases hil:(i:Int) < l.length;rotate_left
 ·simp only [go_sem,s0,s1,h5,hil];refine qW ⟨?_,rfl,rfl⟩;rw [aJ (by omega)] at he;simp only [rC,he,Bool.and_true]
  congr 1
  exact decide_eq_decide.2 (by omega)
 have hi0:(0:Int)<=i:=by omega
 have hi1:i < l.length:=by omega
 have ei:i64.wrap ((i:Int)+1)=i+1:=dQ (by omega) (by omega);obtain ⟨b,o,cs,rfl,hb,d1⟩:=gW h hi1;have t1:=aF hi1;have hno:vO l[i]=false->l.all vO=false:=fun h=>by
  rw [dP]; exact ⟨_,aH hi1,by simp [h]⟩
 generalize l[i]=x at *;by_cases him:(i:Int)<=most;rotate_left
 ·simp only [go_sem,s0,s1,h5,hil,him];refine qW ⟨?_,rfl,rfl⟩;have e1:¬(l.length:Int)<=most:=by omega
  have e2:¬l.length<=most.toNat:=by omega
  simp [rC,e1,e2]
 simp only [go_sem,s0,s1,h5,hil,hi0,him,aB,hb,d1];refine qQ (k47 _ _ x 1 32) ?_;cases hx:vO x
 ·have hx':(decide (1<=x) && decide (x<=32))=false:=hx;simp only [go_sem,hx'];exact qW ⟨by simp [rC,hno hx],rfl,rfl⟩
 ·have hx':(decide (1<=x) && decide (x<=32))=true:=hx;simp only [go_sem,hx',h5,ei];exact ⟨hi1,rfl,rfl,(by simp only [go_sem, *] <;> rfl),by rw [t1,List.all_append,he]; simp [hx]⟩
theorem xVA (k:Int):0<=wK k/\wK k<=62:=by
 unfold wK iF;split
 ·split
  ·omega
  split <;> omega
 ·omega
theorem yKW:bH 1=0/\bH 2=0/\bH 3=1/\bH 4=1/\bH 5=1/\bH 6=1/\bH 7=1/\bH 18=2/\bH 19=2/\bH 20=2/\bH 21=2/\bH 22=2:=by decide
theorem k22 (p:Pg)(i:Nat)(hp:p.rd F)(hold:Old F M)(hi:i < p.exprs.length) :
  aI prog 22 [p.val,.int .i64 i] F M (Same F M (.bool (jS p.vars.length p.exprs i p.exprs[i]))):=by
 refine qZ hm func22 e22 (aA rfl) ?_;have hfew:=hp.few;have ew:i64.wrap ((i:Int) - 1)=i - 1:=dQ (by omega) (by omega);have hi0:(0:Int)<=i:=by omega
 have hil:(i:Int) < p.exprs.length:=by omega
 simp only [c22,go_sem];intro r2 hF2 hM2;obtain ⟨b,o,cs,ea,hb,rows⟩:=(hp.exprs M hold).rows (by omega);obtain ⟨d1,d2⟩:=rows i hi;have kinds:∀j:Nat,j < i->cs[o+j * 5+1]? = some (.int .i64 (bF p.exprs j)):=fun j hj=>by
  have hk:bF p.exprs j=p.exprs[j].kind:=by
   unfold bF;rw [aB,List.getElem?_eq_getElem (by omega)]; rfl
  rw [hk];exact (Xp.row (rows j (by omega)).2).2.1
 clear rows;generalize p.exprs[i]=x at *;simp only [go_sem,hi0,hil,ea,aB,hb,d1,d2,jT hb hF2 hM2];intro r5 lM gU;simp only [qD] at gU;have hw:=xVA x.kind;have hw0:=hw.1;have hw1:=hw.2;have fa:uX x.a ((i:Int) - 1)=true->0<=x.a/\x.a < p.exprs.length/\cs[o+x.a.toNat * 5+1]? = some (.int .i64 (bF p.exprs x.a)):=fun h=>by
  simp only [uX,aC,decide_eq_true_eq] at h;have:=kinds x.a.toNat (by omega);rw [Int.toNat_of_nonneg h.1] at this;exact ⟨h.1,by omega,this⟩
 have fb:uX x.b ((i:Int) - 1)=true->0<=x.b/\x.b < p.exprs.length/\cs[o+x.b.toNat * 5+1]? = some (.int .i64 (bF p.exprs x.b)):=fun h=>by
  simp only [uX,aC,decide_eq_true_eq] at h;have:=kinds x.b.toNat (by omega);rw [Int.toNat_of_nonneg h.1] at this;exact ⟨h.1,by omega,this⟩
 have uO:∀(q:Prop),(uX x.a ((i:Int) - 1)=true->0<=x.a->x.a < p.exprs.length->cs[o+x.a.toNat * 5+1]? = some (.int .i64 (bF p.exprs x.a))->q)->(uX x.a ((i:Int) - 1)=false->q)->q:=fun q h1 h2=>by
  cases h:uX x.a ((i:Int) - 1)
  ·exact h2 h
  ·obtain ⟨a1,a2,a3⟩:=fa h; exact h1 h a1 a2 a3
 have xR:∀(q:Prop),(uX x.b ((i:Int) - 1)=true->0<=x.b->x.b < p.exprs.length->cs[o+x.b.toNat * 5+1]? = some (.int .i64 (bF p.exprs x.b))->q)->(uX x.b ((i:Int) - 1)=false->q)->q:=fun q h1 h2=>by
  cases h:uX x.b ((i:Int) - 1)
  ·exact h2 h
  ·obtain ⟨a1,a2,a3⟩:=fb h; exact h1 h a1 a2 a3
 have kN:∀F M (n m:Int),aI prog 49 [.int .i64 n,.int .i64 m] F M (Same F M (.bool (uX n m))):=fun F M n m=>k49 F M n m
 clear kinds fa fb hw hfew hold hp;have em:=yKW;obtain ⟨op,kind,n,a,b'⟩:=x;by_cases hop:(decide (1<=op) && decide (op<=22))=true;rotate_left
 ·have hop':(decide (1<=op) && decide (op<=22))=false:=by simpa using hop
  clear uO xR
  repeat' first
  | simp only [go_sem,aK, *]
  | (with_reducible first | apply cD | apply cN | apply cB | apply cO | apply tD | apply fD | apply tN | apply fN | apply tB | apply fB | apply tO | apply fO) <;> intro hc
  | (intro rx hFx lD; (try simp only [qD] at lD))
   | refine qQ (k47 _ _ _ _ _) ?_
  all_goals (refine qX (M:=M) (by repeat' first | exact Keep.refl _ | (refine Keep.new ?_ (by simp only [*]))) ⟨?_,rfl,rfl⟩)
  all_goals simp only [jS,hop',Bool.false_and]
 have hop':=hop;simp only [aC,decide_eq_true_eq] at hop';have e7:wK 7=0:=rfl;rcases xVK hop'.1 hop'.2 with rfl | rfl | rfl | rfl | rfl | rfl | rfl | e | rfl | rfl | rfl | rfl | rfl
 ·clear hop hop' uO xR
  repeat' first
  | simp only [go_sem,aK, *]
  | (with_reducible first | apply cD | apply cN | apply cB | apply cO | apply tD | apply fD | apply tN | apply fN | apply tB | apply fB | apply tO | apply fO) <;> intro hc
  | (intro rx hFx lD; (try simp only [qD] at lD))
   | refine qQ (k47 _ _ _ _ _) ?_
   | refine qQ (k48 _ _ _) ?_
   | refine qQ (kN _ _ _ _) ?_
   | refine qQ (k50 _ _ _) ?_
   | refine qQ (k52 _ _ _) ?_
   | refine qQ (k53 _ _ _) ?_
   | refine qQ (k51 _ _ _ _ hw0 hw1) ?_
  all_goals (refine qX (M:=M) (by repeat' first | exact Keep.refl _ | (refine Keep.new ?_ (by simp only [*]))) ⟨?_,rfl,rfl⟩)
  all_goals clear kN d1 d2 hb hF2 hM2 lM gU
  all_goals (simp [jS,lZ, *]; done)
 ·clear hop hop' uO xR
  repeat' first
  | simp only [go_sem,wX,aU,aK, *]
  | (with_reducible first | apply cD | apply cN | apply cB | apply cO | apply tD | apply fD | apply tN | apply fN | apply tB | apply fB | apply tO | apply fO) <;> intro hc
  | (intro rx hFx lD; (try simp only [qD] at lD))
   | refine qQ (k47 _ _ _ _ _) ?_
   | refine qQ (k48 _ _ _) ?_
   | refine qQ (kN _ _ _ _) ?_
   | refine qQ (k50 _ _ _) ?_
   | refine qQ (k52 _ _ _) ?_
   | refine qQ (k53 _ _ _) ?_
   | refine qQ (k51 _ _ _ _ hw0 hw1) ?_
  all_goals (refine qX (M:=M) (by repeat' first | exact Keep.refl _ | (refine Keep.new ?_ (by simp only [*]))) ⟨?_,rfl,rfl⟩)
  all_goals clear kN d1 d2 hb hF2 hM2 lM gU
  all_goals (simp [jS,lZ, *]; done)
 ·clear hop hop' xR;refine uO _ (fun na a0 a1 ak=>?_) (fun na=>?_) <;> clear uO
  all_goals (
   repeat' first
  | simp only [go_sem,wX,aU,aK, *]
  | (with_reducible first | apply cD | apply cN | apply cB | apply cO | apply tD | apply fD | apply tN | apply fN | apply tB | apply fB | apply tO | apply fO) <;> intro hc
  | (intro rx hFx lD; (try simp only [qD] at lD))
    | refine qQ (k47 _ _ _ _ _) ?_
    | refine qQ (k48 _ _ _) ?_
    | refine qQ (kN _ _ _ _) ?_
    | refine qQ (k50 _ _ _) ?_
    | refine qQ (k52 _ _ _) ?_
    | refine qQ (k53 _ _ _) ?_
    | refine qQ (k51 _ _ _ _ hw0 hw1) ?_
   all_goals (refine qX (M:=M) (by repeat' first | exact Keep.refl _ | (refine Keep.new ?_ (by simp only [*]))) ⟨?_,rfl,rfl⟩)
   all_goals clear kN d1 d2 hb hF2 hM2 lM gU
   all_goals (simp [jS,lZ,kA, *]; done))
 ·clear hop hop' xR;refine uO _ (fun na a0 a1 ak=>?_) (fun na=>?_) <;> clear uO
  all_goals (
   repeat' first
  | simp only [go_sem,wX,aU,aK, *]
  | (with_reducible first | apply cD | apply cN | apply cB | apply cO | apply tD | apply fD | apply tN | apply fN | apply tB | apply fB | apply tO | apply fO) <;> intro hc
  | (intro rx hFx lD; (try simp only [qD] at lD))
    | refine qQ (k47 _ _ _ _ _) ?_
    | refine qQ (k48 _ _ _) ?_
    | refine qQ (kN _ _ _ _) ?_
    | refine qQ (k50 _ _ _) ?_
    | refine qQ (k52 _ _ _) ?_
    | refine qQ (k53 _ _ _) ?_
    | refine qQ (k51 _ _ _ _ hw0 hw1) ?_
   all_goals (refine qX (M:=M) (by repeat' first | exact Keep.refl _ | (refine Keep.new ?_ (by simp only [*]))) ⟨?_,rfl,rfl⟩)
   all_goals clear kN d1 d2 hb hF2 hM2 lM gU
   all_goals (simp [jS,lZ,kA, *]; done))
 ·clear hop hop' xR;refine uO _ (fun na a0 a1 ak=>?_) (fun na=>?_) <;> clear uO
  all_goals (
   repeat' first
  | simp only [go_sem,wX,aU,aK, *]
  | (with_reducible first | apply cD | apply cN | apply cB | apply cO | apply tD | apply fD | apply tN | apply fN | apply tB | apply fB | apply tO | apply fO) <;> intro hc
  | (intro rx hFx lD; (try simp only [qD] at lD))
    | refine qQ (k47 _ _ _ _ _) ?_
    | refine qQ (k48 _ _ _) ?_
    | refine qQ (kN _ _ _ _) ?_
    | refine qQ (k50 _ _ _) ?_
    | refine qQ (k52 _ _ _) ?_
    | refine qQ (k53 _ _ _) ?_
    | refine qQ (k51 _ _ _ _ hw0 hw1) ?_
   all_goals (refine qX (M:=M) (by repeat' first | exact Keep.refl _ | (refine Keep.new ?_ (by simp only [*]))) ⟨?_,rfl,rfl⟩)
   all_goals clear kN d1 d2 hb hF2 hM2 lM gU
   all_goals (simp [jS,lZ,kA, *]; done))
 ·clear hop hop' xR;refine uO _ (fun na a0 a1 ak=>?_) (fun na=>?_) <;> clear uO
  all_goals (
   repeat' first
  | simp only [go_sem,wX,aU,aK, *]
  | (with_reducible first | apply cD | apply cN | apply cB | apply cO | apply tD | apply fD | apply tN | apply fN | apply tB | apply fB | apply tO | apply fO) <;> intro hc
  | (intro rx hFx lD; (try simp only [qD] at lD))
    | refine qQ (k47 _ _ _ _ _) ?_
    | refine qQ (k48 _ _ _) ?_
    | refine qQ (kN _ _ _ _) ?_
    | refine qQ (k50 _ _ _) ?_
    | refine qQ (k52 _ _ _) ?_
    | refine qQ (k53 _ _ _) ?_
    | refine qQ (k51 _ _ _ _ hw0 hw1) ?_
   all_goals (refine qX (M:=M) (by repeat' first | exact Keep.refl _ | (refine Keep.new ?_ (by simp only [*]))) ⟨?_,rfl,rfl⟩)
   all_goals clear kN d1 d2 hb hF2 hM2 lM gU
   all_goals (simp [jS,lZ,kA, *]; done))
 ·clear hop hop' xR;refine uO _ (fun na a0 a1 ak=>?_) (fun na=>?_) <;> clear uO
  all_goals (
   repeat' first
  | simp only [go_sem,wX,aU,aK, *]
  | (with_reducible first | apply cD | apply cN | apply cB | apply cO | apply tD | apply fD | apply tN | apply fN | apply tB | apply fB | apply tO | apply fO) <;> intro hc
  | (intro rx hFx lD; (try simp only [qD] at lD))
    | refine qQ (k47 _ _ _ _ _) ?_
    | refine qQ (k48 _ _ _) ?_
    | refine qQ (kN _ _ _ _) ?_
    | refine qQ (k50 _ _ _) ?_
    | refine qQ (k52 _ _ _) ?_
    | refine qQ (k53 _ _ _) ?_
    | refine qQ (k51 _ _ _ _ hw0 hw1) ?_
   all_goals (refine qX (M:=M) (by repeat' first | exact Keep.refl _ | (refine Keep.new ?_ (by simp only [*]))) ⟨?_,rfl,rfl⟩)
   all_goals clear kN d1 d2 hb hF2 hM2 lM gU
   all_goals (simp [jS,lZ,kA, *]; done))
 ·have em2:bH op=2:=by unfold bH; rw [if_neg (by omega),if_neg (by omega)]
  have n1:¬op=1:=by omega
  have n2:¬op=2:=by omega
  have n3:¬op=3:=by omega
  have n4:¬op=4:=by omega
  have n5:¬op=5:=by omega
  have n6:¬op=6:=by omega
  have n7:¬op=7:=by omega
  have n18:¬op=18:=by omega
  have n19:¬op=19:=by omega
  have n20:¬op=20:=by omega
  have n21:¬op=21:=by omega
  have n22:¬op=22:=by omega
  have l1:=hop'.1;have l2:=hop'.2;clear e;clear hop hop';refine uO _ (fun na a0 a1 ak=>xR _ (fun nb b0 b1 bk=>?_) (fun nb=>?_)) (fun na=>?_) <;> clear uO xR
  all_goals (
   repeat' first
  | simp only [go_sem,wX,aU,aK, *]
  | (with_reducible first | apply cD | apply cN | apply cB | apply cO | apply tD | apply fD | apply tN | apply fN | apply tB | apply fB | apply tO | apply fO) <;> intro hc
  | (intro rx hFx lD; (try simp only [qD] at lD))
    | refine qQ (k47 _ _ _ _ _) ?_
    | refine qQ (k48 _ _ _) ?_
    | refine qQ (kN _ _ _ _) ?_
    | refine qQ (k50 _ _ _) ?_
    | refine qQ (k52 _ _ _) ?_
    | refine qQ (k53 _ _ _) ?_
    | refine qQ (k51 _ _ _ _ hw0 hw1) ?_
   all_goals (refine qX (M:=M) (by repeat' first | exact Keep.refl _ | (refine Keep.new ?_ (by simp only [*]))) ⟨?_,rfl,rfl⟩)
   all_goals clear kN d1 d2 hb hF2 hM2 lM gU
   all_goals (simp [jS,lZ,kA,kB, *]; done))
 ·clear hop hop';refine uO _ (fun na a0 a1 ak=>xR _ (fun nb b0 b1 bk=>?_) (fun nb=>?_)) (fun na=>?_) <;> clear uO xR
  all_goals (
   repeat' first
  | simp only [go_sem,wX,aU,aK, *]
  | (with_reducible first | apply cD | apply cN | apply cB | apply cO | apply tD | apply fD | apply tN | apply fN | apply tB | apply fB | apply tO | apply fO) <;> intro hc
  | (intro rx hFx lD; (try simp only [qD] at lD))
    | refine qQ (k47 _ _ _ _ _) ?_
    | refine qQ (k48 _ _ _) ?_
    | refine qQ (kN _ _ _ _) ?_
    | refine qQ (k50 _ _ _) ?_
    | refine qQ (k52 _ _ _) ?_
    | refine qQ (k53 _ _ _) ?_
    | refine qQ (k51 _ _ _ _ hw0 hw1) ?_
   all_goals (refine qX (M:=M) (by repeat' first | exact Keep.refl _ | (refine Keep.new ?_ (by simp only [*]))) ⟨?_,rfl,rfl⟩)
   all_goals clear kN d1 d2 hb hF2 hM2 lM gU
   all_goals (simp [jS,lZ,kA,kB, *]; done))
 ·clear hop hop';refine uO _ (fun na a0 a1 ak=>xR _ (fun nb b0 b1 bk=>?_) (fun nb=>?_)) (fun na=>?_) <;> clear uO xR
  all_goals (
   repeat' first
  | simp only [go_sem,wX,aU,aK, *]
  | (with_reducible first | apply cD | apply cN | apply cB | apply cO | apply tD | apply fD | apply tN | apply fN | apply tB | apply fB | apply tO | apply fO) <;> intro hc
  | (intro rx hFx lD; (try simp only [qD] at lD))
    | refine qQ (k47 _ _ _ _ _) ?_
    | refine qQ (k48 _ _ _) ?_
    | refine qQ (kN _ _ _ _) ?_
    | refine qQ (k50 _ _ _) ?_
    | refine qQ (k52 _ _ _) ?_
    | refine qQ (k53 _ _ _) ?_
    | refine qQ (k51 _ _ _ _ hw0 hw1) ?_
   all_goals (refine qX (M:=M) (by repeat' first | exact Keep.refl _ | (refine Keep.new ?_ (by simp only [*]))) ⟨?_,rfl,rfl⟩)
   all_goals clear kN d1 d2 hb hF2 hM2 lM gU
   all_goals (simp [jS,lZ,kA,kB, *]; done))
 ·clear hop hop';refine uO _ (fun na a0 a1 ak=>xR _ (fun nb b0 b1 bk=>?_) (fun nb=>?_)) (fun na=>?_) <;> clear uO xR
  all_goals (
   repeat' first
  | simp only [go_sem,wX,aU,aK, *]
  | (with_reducible first | apply cD | apply cN | apply cB | apply cO | apply tD | apply fD | apply tN | apply fN | apply tB | apply fB | apply tO | apply fO) <;> intro hc
  | (intro rx hFx lD; (try simp only [qD] at lD))
    | refine qQ (k47 _ _ _ _ _) ?_
    | refine qQ (k48 _ _ _) ?_
    | refine qQ (kN _ _ _ _) ?_
    | refine qQ (k50 _ _ _) ?_
    | refine qQ (k52 _ _ _) ?_
    | refine qQ (k53 _ _ _) ?_
    | refine qQ (k51 _ _ _ _ hw0 hw1) ?_
   all_goals (refine qX (M:=M) (by repeat' first | exact Keep.refl _ | (refine Keep.new ?_ (by simp only [*]))) ⟨?_,rfl,rfl⟩)
   all_goals clear kN d1 d2 hb hF2 hM2 lM gU
   all_goals (simp [jS,lZ,kA,kB, *]; done))
 ·clear hop hop';refine uO _ (fun na a0 a1 ak=>xR _ (fun nb b0 b1 bk=>?_) (fun nb=>?_)) (fun na=>?_) <;> clear uO xR
  all_goals (
   repeat' first
  | simp only [go_sem,wX,aU,aK, *]
  | (with_reducible first | apply cD | apply cN | apply cB | apply cO | apply tD | apply fD | apply tN | apply fN | apply tB | apply fB | apply tO | apply fO) <;> intro hc
  | (intro rx hFx lD; (try simp only [qD] at lD))
    | refine qQ (k47 _ _ _ _ _) ?_
    | refine qQ (k48 _ _ _) ?_
    | refine qQ (kN _ _ _ _) ?_
    | refine qQ (k50 _ _ _) ?_
    | refine qQ (k52 _ _ _) ?_
    | refine qQ (k53 _ _ _) ?_
    | refine qQ (k51 _ _ _ _ hw0 hw1) ?_
   all_goals (refine qX (M:=M) (by repeat' first | exact Keep.refl _ | (refine Keep.new ?_ (by simp only [*]))) ⟨?_,rfl,rfl⟩)
   all_goals clear kN d1 d2 hb hF2 hM2 lM gU
   all_goals (simp [jS,lZ,kA,kB, *]; done))
 ·clear hop hop';refine uO _ (fun na a0 a1 ak=>xR _ (fun nb b0 b1 bk=>?_) (fun nb=>?_)) (fun na=>?_) <;> clear uO xR
  all_goals (
   repeat' first
  | simp only [go_sem,wX,aU,aK, *]
  | (with_reducible first | apply cD | apply cN | apply cB | apply cO | apply tD | apply fD | apply tN | apply fN | apply tB | apply fB | apply tO | apply fO) <;> intro hc
  | (intro rx hFx lD; (try simp only [qD] at lD))
    | refine qQ (k47 _ _ _ _ _) ?_
    | refine qQ (k48 _ _ _) ?_
    | refine qQ (kN _ _ _ _) ?_
    | refine qQ (k50 _ _ _) ?_
    | refine qQ (k52 _ _ _) ?_
    | refine qQ (k53 _ _ _) ?_
    | refine qQ (k51 _ _ _ _ hw0 hw1) ?_
   all_goals (refine qX (M:=M) (by repeat' first | exact Keep.refl _ | (refine Keep.new ?_ (by simp only [*]))) ⟨?_,rfl,rfl⟩)
   all_goals clear kN d1 d2 hb hF2 hM2 lM gU
   all_goals (simp [jS,lZ,kA,kB, *]; done))
theorem k23 (p:Pg)(s:Sm)(hp:p.rd F)(hold:Old F M)(hs1:lG F M s.ba s.bc s.body)(hs2:lG F M s.ea s.ec s.els) :
  aI prog 23 [p.val,s.val] F M (Same F M (.bool (pF p.vars.length p.news.length p.exprs s))):=by
 refine qZ hm func23 e23 (aA rfl) ?_;have hfew:=hp.few;have ew1:i64.wrap ((p.vars.length:Int)+1)=p.vars.length+1:=dQ (by omega) (by omega);have ew2:i64.wrap ((p.vars.length:Int)+p.news.length)=p.vars.length+p.news.length:=dQ (by omega) (by omega);simp only [c23,go_sem];intro r2 hF2 hM2;simp only [go_sem];intro r3 hF3 dN;simp only [qD] at dN;simp only [go_sem];intro r5 lM gU;simp only [qD] at gU;clear hfew;by_cases n1:s.op=1
 ·simp only [setH,go_sem,dN,gU,n1]
  repeat' first
  | simp only [go_sem,wX,aU, *]
  | (with_reducible first | apply cD | apply cN | apply cB | apply cO | apply tD | apply fD | apply tN | apply fN | apply tB | apply fB | apply tO | apply fO) <;> intro hc
  | (intro rx hFx lD; (try simp only [qD] at lD))
   | simp only [setH,go_sem, *]
   | refine qQ (k54 _ _ p _ _ hp (by repeat' first | assumption | (refine Old.upd ?_ (by assumption)))) ?_
   | refine qQ (k53 _ _ _) ?_
   | refine qQ (k50 _ _ _) ?_
   | refine qQ (k47 _ _ _ _ _) ?_
   | refine qQ (k55 _ _ s ⟨1,s.to,s.kind,s.e,0,none,0,[],none,0,[]⟩ (hs1.keep (by repeat' first | exact Keep.refl _ | (refine Keep.new ?_ (by simp only [*]))) (by repeat' first | assumption | (refine Old.upd ?_ (by assumption)))) (hs2.keep (by repeat' first | exact Keep.refl _ | (refine Keep.new ?_ (by simp only [*]))) (by repeat' first | assumption | (refine Old.upd ?_ (by assumption)))) jX jX) ?_
  all_goals (refine qX (M:=M) (by repeat' first | exact Keep.refl _ | (refine Keep.new ?_ (by simp only [*]))) ⟨?_,rfl,rfl⟩)
  all_goals simp [pF,dZ,yQ,iH,iI, *]
 by_cases n2:s.op=2
 ·simp only [setH,go_sem,dN,gU,n2]
  repeat' first
  | simp only [go_sem,wX,aU, *]
  | (with_reducible first | apply cD | apply cN | apply cB | apply cO | apply tD | apply fD | apply tN | apply fN | apply tB | apply fB | apply tO | apply fO) <;> intro hc
  | (intro rx hFx lD; (try simp only [qD] at lD))
   | simp only [setH,go_sem, *]
   | refine qQ (k54 _ _ p _ _ hp (by repeat' first | assumption | (refine Old.upd ?_ (by assumption)))) ?_
   | refine qQ (k53 _ _ _) ?_
   | refine qQ (k50 _ _ _) ?_
   | refine qQ (k47 _ _ _ _ _) ?_
   | refine qQ (k55 _ _ s ⟨2,s.to,s.kind,0,0,none,0,[],none,0,[]⟩ (hs1.keep (by repeat' first | exact Keep.refl _ | (refine Keep.new ?_ (by simp only [*]))) (by repeat' first | assumption | (refine Old.upd ?_ (by assumption)))) (hs2.keep (by repeat' first | exact Keep.refl _ | (refine Keep.new ?_ (by simp only [*]))) (by repeat' first | assumption | (refine Old.upd ?_ (by assumption)))) jX jX) ?_
  all_goals (refine qX (M:=M) (by repeat' first | exact Keep.refl _ | (refine Keep.new ?_ (by simp only [*]))) ⟨?_,rfl,rfl⟩)
  all_goals simp [pF,dZ,yQ,iH,iI, *]
 by_cases n3:s.op=3
 ·simp only [setH,go_sem,dN,gU,n3]
  repeat' first
  | simp only [go_sem,wX,aU, *]
  | (with_reducible first | apply cD | apply cN | apply cB | apply cO | apply tD | apply fD | apply tN | apply fN | apply tB | apply fB | apply tO | apply fO) <;> intro hc
  | (intro rx hFx lD; (try simp only [qD] at lD))
   | simp only [setH,go_sem, *]
   | refine qQ (k54 _ _ p _ _ hp (by repeat' first | assumption | (refine Old.upd ?_ (by assumption)))) ?_
   | refine qQ (k53 _ _ _) ?_
   | refine qQ (k50 _ _ _) ?_
   | refine qQ (k47 _ _ _ _ _) ?_
   | refine qQ (k55 _ _ s ⟨3,s.to,0,0,s.n,none,0,[],none,0,[]⟩ (hs1.keep (by repeat' first | exact Keep.refl _ | (refine Keep.new ?_ (by simp only [*]))) (by repeat' first | assumption | (refine Old.upd ?_ (by assumption)))) (hs2.keep (by repeat' first | exact Keep.refl _ | (refine Keep.new ?_ (by simp only [*]))) (by repeat' first | assumption | (refine Old.upd ?_ (by assumption)))) jX jX) ?_
  all_goals (refine qX (M:=M) (by repeat' first | exact Keep.refl _ | (refine Keep.new ?_ (by simp only [*]))) ⟨?_,rfl,rfl⟩)
  all_goals simp [pF,dZ,yQ,iH,iI, *]
 by_cases n4:s.op=4
 ·simp only [setH,go_sem,dN,gU,n4]
  repeat' first
  | simp only [go_sem,wX,aU, *]
  | (with_reducible first | apply cD | apply cN | apply cB | apply cO | apply tD | apply fD | apply tN | apply fN | apply tB | apply fB | apply tO | apply fO) <;> intro hc
  | (intro rx hFx lD; (try simp only [qD] at lD))
   | simp only [setH,go_sem, *]
   | refine qQ (k54 _ _ p _ _ hp (by repeat' first | assumption | (refine Old.upd ?_ (by assumption)))) ?_
   | refine qQ (k53 _ _ _) ?_
   | refine qQ (k50 _ _ _) ?_
   | refine qQ (k47 _ _ _ _ _) ?_
   | refine qQ (k55 _ _ s ⟨4,0,0,s.e,0,none,0,[],none,0,[]⟩ (hs1.keep (by repeat' first | exact Keep.refl _ | (refine Keep.new ?_ (by simp only [*]))) (by repeat' first | assumption | (refine Old.upd ?_ (by assumption)))) (hs2.keep (by repeat' first | exact Keep.refl _ | (refine Keep.new ?_ (by simp only [*]))) (by repeat' first | assumption | (refine Old.upd ?_ (by assumption)))) jX jX) ?_
  all_goals (refine qX (M:=M) (by repeat' first | exact Keep.refl _ | (refine Keep.new ?_ (by simp only [*]))) ⟨?_,rfl,rfl⟩)
  all_goals simp [pF,dZ,yQ,iH,iI, *]
 by_cases n5:s.op=5
 ·simp only [setH,go_sem,dN,gU,n5]
  repeat' first
  | simp only [go_sem,wX,aU, *]
  | (with_reducible first | apply cD | apply cN | apply cB | apply cO | apply tD | apply fD | apply tN | apply fN | apply tB | apply fB | apply tO | apply fO) <;> intro hc
  | (intro rx hFx lD; (try simp only [qD] at lD))
   | simp only [setH,go_sem, *]
   | refine qQ (k54 _ _ p _ _ hp (by repeat' first | assumption | (refine Old.upd ?_ (by assumption)))) ?_
   | refine qQ (k53 _ _ _) ?_
   | refine qQ (k50 _ _ _) ?_
   | refine qQ (k47 _ _ _ _ _) ?_
   | refine qQ (k55 _ _ s ⟨5,0,0,s.e,0,s.ba,s.bc,s.body,s.ea,s.ec,s.els⟩ (hs1.keep (by repeat' first | exact Keep.refl _ | (refine Keep.new ?_ (by simp only [*]))) (by repeat' first | assumption | (refine Old.upd ?_ (by assumption)))) (hs2.keep (by repeat' first | exact Keep.refl _ | (refine Keep.new ?_ (by simp only [*]))) (by repeat' first | assumption | (refine Old.upd ?_ (by assumption)))) (hs1.keep (by repeat' first | exact Keep.refl _ | (refine Keep.new ?_ (by simp only [*]))) (by repeat' first | assumption | (refine Old.upd ?_ (by assumption)))) (hs2.keep (by repeat' first | exact Keep.refl _ | (refine Keep.new ?_ (by simp only [*]))) (by repeat' first | assumption | (refine Old.upd ?_ (by assumption))))) ?_
  all_goals (refine qX (M:=M) (by repeat' first | exact Keep.refl _ | (refine Keep.new ?_ (by simp only [*]))) ⟨?_,rfl,rfl⟩)
  all_goals simp [pF,dZ,yQ,iH,iI, *]
 by_cases n6:s.op=6
 ·simp only [setH,go_sem,dN,gU,n6]
  repeat' first
  | simp only [go_sem,wX,aU, *]
  | (with_reducible first | apply cD | apply cN | apply cB | apply cO | apply tD | apply fD | apply tN | apply fN | apply tB | apply fB | apply tO | apply fO) <;> intro hc
  | (intro rx hFx lD; (try simp only [qD] at lD))
   | simp only [setH,go_sem, *]
   | refine qQ (k54 _ _ p _ _ hp (by repeat' first | assumption | (refine Old.upd ?_ (by assumption)))) ?_
   | refine qQ (k53 _ _ _) ?_
   | refine qQ (k50 _ _ _) ?_
   | refine qQ (k47 _ _ _ _ _) ?_
   | refine qQ (k55 _ _ s ⟨6,0,0,s.e,0,s.ba,s.bc,s.body,none,0,[]⟩ (hs1.keep (by repeat' first | exact Keep.refl _ | (refine Keep.new ?_ (by simp only [*]))) (by repeat' first | assumption | (refine Old.upd ?_ (by assumption)))) (hs2.keep (by repeat' first | exact Keep.refl _ | (refine Keep.new ?_ (by simp only [*]))) (by repeat' first | assumption | (refine Old.upd ?_ (by assumption)))) (hs1.keep (by repeat' first | exact Keep.refl _ | (refine Keep.new ?_ (by simp only [*]))) (by repeat' first | assumption | (refine Old.upd ?_ (by assumption)))) jX) ?_
  all_goals (refine qX (M:=M) (by repeat' first | exact Keep.refl _ | (refine Keep.new ?_ (by simp only [*]))) ⟨?_,rfl,rfl⟩)
  all_goals simp [pF,dZ,yQ,iH,iI, *]
 by_cases n7:s.op=7
 ·simp only [setH,go_sem,gU,n7]
  repeat' first
  | simp only [go_sem, *]
  | (with_reducible first | apply cD | apply cN | apply cB | apply cO | apply tD | apply fD | apply tN | apply fN | apply tB | apply fB | apply tO | apply fO) <;> intro hc
  | (intro rx hFx lD; (try simp only [qD] at lD))
   | simp only [setH,go_sem, *]
   | refine qQ (k54 _ _ p _ _ hp (by repeat' first | assumption | (refine Old.upd ?_ (by assumption)))) ?_
   | refine qQ (k53 _ _ _) ?_
   | refine qQ (k50 _ _ _) ?_
   | refine qQ (k47 _ _ _ _ _) ?_
   | refine qQ (k55 _ _ s ⟨7,0,0,0,0,none,0,[],none,0,[]⟩ (hs1.keep (by repeat' first | exact Keep.refl _ | (refine Keep.new ?_ (by simp only [*]))) (by repeat' first | assumption | (refine Old.upd ?_ (by assumption)))) (hs2.keep (by repeat' first | exact Keep.refl _ | (refine Keep.new ?_ (by simp only [*]))) (by repeat' first | assumption | (refine Old.upd ?_ (by assumption)))) jX jX) ?_
  all_goals (refine qX (M:=M) (by repeat' first | exact Keep.refl _ | (refine Keep.new ?_ (by simp only [*]))) ⟨?_,rfl,rfl⟩)
  all_goals simp [pF,dZ,yQ,iH,iI, *]
 have h:¬(1<=s.op/\s.op<=7):=by omega
 simp only [setH,go_sem,gU,n1,n2,n3,n4,n5,n6,n7]
 all_goals (refine qX (M:=M) (by repeat' first | exact Keep.refl _ | (refine Keep.new ?_ (by simp only [*]))) ⟨?_,rfl,rfl⟩)
 simp only [pF,h,if_false]
end Go.Proofs.Tryz.K
namespace Go.Ax
open Go
theorem gJ {P:Program}{a b:SC}{Q:Post}{σ:Env}{F:Fz}{M:Hp}{o:Option Value}(I:Env->Fz->Hp->Prop)(h:zI P a b (yZK (At I) Q) σ F M o)
  (hn:∀σ' F' M',sD (a.defs++b.defs) σ σ'->I σ' F' M'->Q .n σ' F' M'):zI P a b Q σ F M o:=by
 obtain ⟨t,h1,h2,h3⟩:=h;refine ⟨t,h1,fun ht=>?_,fun ht=>?_⟩
 ·refine rX (fun x σ2 F2 M2 hx=>?_) (wGJ (h2 ht));cases x with
  | n=>exact hn _ _ _ (hx.1.mono (by intros; simp [*])) hx.2.h
  | r=>exact hx.2
  | e j=>exact hx.2
 ·refine rX (fun x σ2 F2 M2 hx=>?_) (wGJ (h3 ht));cases x with
  | n=>exact hn _ _ _ (hx.1.mono (by intros; simp [*])) hx.2.h
  | r=>exact hx.2
  | e j=>exact hx.2
theorem tK.lK {α:Type}{sz:Nat}{f:α->List Value}{e:TypeId}{l:List α}{F F':Fz}{M M3 M4:Hp}{u:Value}(h:tK sz f e l F M3 u F' M4)(kp:Keep M M3):lK F' M4 (tK sz f e l F M) u:=by
 obtain ⟨rfl,h⟩:=h;rcases h with ⟨h1,h2,rfl⟩ | ⟨g,cap,h1,h2,h3,h4,rfl⟩
 ·exact qX kp ⟨rfl,.inl ⟨h1,h2,rfl⟩⟩
 ·exact qX kp.both ⟨rfl,.inr ⟨g,cap,h1,kp.free h2,h3,h4,rfl⟩⟩
theorem yW.one {α:Type}{sz:Nat}{f:α->List Value}{e:TypeId}{F:Fz}{M0 M:Hp}{r:Nat}{x:α}(hF:F r=none)(h0:M0 r=none)(hx:(f x).length=sz):yW sz f e F M0 (M.upd r ⟨f x,e,sz⟩) (.slice (some ⟨r,0,none⟩) 1 1) [x]:=
 ⟨.inr ⟨r,1,rfl,hF,by rw [Hp.qV]; simp,by simp,by decide⟩,fun g n c h=>by cases h; exact h0⟩
def yK (p:Pg):List Int:=[0]++p.vars++p.news
end Go.Ax
namespace Go.Proofs.Tryz.K
open Go Go.Ax Go.Proofs.Tryz.S
theorem yVG {xs:List Value}{n z:Nat}{v:Value}(h:xs.length=n)(hz:z < n):(xs.take (z * 1)++[v]++xs.drop (z * 1+1)).length=n:=by
 simp; omega
structure pG (p:Pg)(r0 ri rl rn:Nat)(seen:Int)(made:List Int)(br:Bool)(M:Hp):Prop where
 f0:M r0=some ⟨[.bool p.big,.int .i64 p.ptr,.slice p.vA p.vars.length p.vC,.slice p.nA p.news.length p.nC,.slice p.eA p.exprs.length p.eC,.slice p.sA p.stmts.length p.sC,.slice p.mA p.main.length p.mC,
  .slice (some ⟨ri,0,none⟩) p.stmts.length p.stmts.length,.slice (some ⟨rl,0,none⟩) p.stmts.length p.stmts.length,.int .i64 seen,.slice (some ⟨rn,0,none⟩) p.news.length p.news.length,.bool br],126,12⟩
 fi:∃xs,xs.length=p.stmts.length/\M ri=some ⟨xs,3,p.stmts.length * 1⟩
 fl:∃xs,xs.length=p.stmts.length/\M rl=some ⟨xs,4,p.stmts.length * 1⟩
 fn:∃nw:List Bool,nw.length=p.news.length/\M rn=some ⟨nw.map Value.bool,4,p.news.length * 1⟩/\∀j,j < p.news.length->nw[j]? = some (decide ((j:Int)+p.vars.length+1∈made))
 ne:((¬r0=ri/\¬r0=rl/\¬r0=rn/\¬ri=rl/\¬ri=rn/\¬rl=rn)/\(¬ri=r0/\¬rl=r0/\¬rn=r0/\¬rl=ri/\¬rn=ri/\¬rn=rl))
theorem pG.new {p:Pg}{r0 ri rl rn:Nat}{seen:Int}{made:List Int}{br:Bool}{M:Hp}(s:pG p r0 ri rl rn seen made br M){r:Nat}{e:nH}(hr:M r=none):pG p r0 ri rl rn seen made br (M.upd r e):=by
 have k:∀b x,M b=some x->(M.upd r e) b=some x:=(Keep.refl M).new hr;obtain ⟨xs,h1,h2⟩:=s.fi;obtain ⟨ys,h3,h4⟩:=s.fl;obtain ⟨nw,h5,h6,h7⟩:=s.fn;exact ⟨k _ _ s.f0,⟨xs,h1,k _ _ h2⟩,⟨ys,h3,k _ _ h4⟩,⟨nw,h5,k _ _ h6,h7⟩,s.ne⟩
def FrS (r0 ri rl rn:Nat)(M M':Hp):Prop:=∀r x,M r=some x->(¬r=r0/\¬r=ri/\¬r=rl/\¬r=rn)->M' r=some x
theorem FrS.refl {r0 ri rl rn:Nat}(M:Hp):FrS r0 ri rl rn M M:=fun _ _ h _=>h
theorem FrS.trans {r0 ri rl rn:Nat}{A B C:Hp}(h:FrS r0 ri rl rn A B)(k:FrS r0 ri rl rn B C):FrS r0 ri rl rn A C:=fun r x hr hn=>k r x (h r x hr hn) hn
theorem FrS.new {r0 ri rl rn:Nat}{A B:Hp}(h:FrS r0 ri rl rn A B){r:Nat}{e:nH}(hr:B r=none):FrS r0 ri rl rn A (B.upd r e):=fun b x hb hn=>(Keep.refl B).new hr _ _ (h b x hb hn)
theorem FrS.own {r0 ri rl rn:Nat}{A B:Hp}(h:FrS r0 ri rl rn A B){r:Nat}{e:nH}(hr:r=r0\/r=ri\/r=rl\/r=rn):FrS r0 ri rl rn A (B.upd r e):=fun b x hb hn=>by
 rw [Hp.qK (by rintro rfl; omega)]; exact h b x hb hn
theorem pG.set0 {p:Pg}{r0 ri rl rn:Nat}{seen:Int}{made:List Int}{br:Bool}{M:Hp}(s:pG p r0 ri rl rn seen made br M)(seen':Int)(br':Bool) :
  pG p r0 ri rl rn seen' made br' (M.upd r0 ⟨[.bool p.big,.int .i64 p.ptr,.slice p.vA p.vars.length p.vC,.slice p.nA p.news.length p.nC,.slice p.eA p.exprs.length p.eC,.slice p.sA p.stmts.length p.sC,.slice p.mA p.main.length p.mC,
  .slice (some ⟨ri,0,none⟩) p.stmts.length p.stmts.length,.slice (some ⟨rl,0,none⟩) p.stmts.length p.stmts.length,.int .i64 seen',.slice (some ⟨rn,0,none⟩) p.news.length p.news.length,.bool br'],126,12⟩):=by
 have ne:=s.ne;exact ⟨Hp.qV _ _ _,by simpa only [Hp.qK ne.2.1] using s.fi,by simpa only [Hp.qK ne.2.2.1] using s.fl,by simpa only [Hp.qK ne.2.2.2.1] using s.fn,ne⟩
theorem pG.kDX {p:Pg}{r0 ri rl rn:Nat}{seen:Int}{made:List Int}{br:Bool}{M:Hp}(s:pG p r0 ri rl rn seen made br M){xs:List Value}(h:xs.length=p.stmts.length) :
  pG p r0 ri rl rn seen made br (M.upd ri ⟨xs,3,p.stmts.length * 1⟩):=by
 have ne:=s.ne;exact ⟨by rw [Hp.qK ne.1.1]; exact s.f0,⟨xs,h,Hp.qV _ _ _⟩,by simpa only [Hp.qK ne.2.2.2.2.1] using s.fl,by simpa only [Hp.qK ne.2.2.2.2.2.1] using s.fn,ne⟩
theorem pG.kDZ {p:Pg}{r0 ri rl rn:Nat}{seen:Int}{made:List Int}{br:Bool}{M:Hp}(s:pG p r0 ri rl rn seen made br M){xs:List Value}(h:xs.length=p.stmts.length) :
  pG p r0 ri rl rn seen made br (M.upd rl ⟨xs,4,p.stmts.length * 1⟩):=by
 have ne:=s.ne;exact ⟨by rw [Hp.qK ne.1.2.1]; exact s.f0,by simpa only [Hp.qK ne.1.2.2.2.1] using s.fi,⟨xs,h,Hp.qV _ _ _⟩,by simpa only [Hp.qK ne.2.2.2.2.2.2] using s.fn,ne⟩
theorem pG.kDK {p:Pg}{r0 ri rl rn:Nat}{seen:Int}{made:List Int}{br:Bool}{M:Hp}(s:pG p r0 ri rl rn seen made br M){nw:List Bool}(h:nw.length=p.news.length)(made':List Int)(h2:∀j,j < p.news.length->nw[j]? = some (decide ((j:Int)+p.vars.length+1∈made'))) :
  pG p r0 ri rl rn seen made' br (M.upd rn ⟨nw.map Value.bool,4,p.news.length * 1⟩):=by
 have ne:=s.ne;exact ⟨by rw [Hp.qK ne.1.2.2.1]; exact s.f0,by simpa only [Hp.qK ne.1.2.2.2.2.1] using s.fi,by simpa only [Hp.qK ne.1.2.2.2.2.2] using s.fl,⟨nw,h,Hp.qV _ _ _,h2⟩,ne⟩
def zVF (p:Pg)(r0 ri rl rn:Nat)(k:Nat)(l:List Int)(lp:Bool)(q:Sq)(br:Bool)(F:Fz)(M:Hp)(u:Value)(F':Fz)(M':Hp):Prop:=
 F'=F/\FrS r0 ri rl rn M M'/\Old F M'/\∃(last seen:Int) (made:List Int) (br':Bool),u=.int .i64 last/\pG p r0 ri rl rn seen made br' M'/\
  if br=true then br'=true else match kW p.stmts k l lp q with
   | none=>br'=true
   | some q'=>br'=false/\last=q'.last/\seen=q'.seen/\made=q'.made
def seatW (p:Pg)(r0 ri rl rn:Nat)(k:Nat)(l:List Int)(lp:Bool)(q:Sq)(F:Fz)(M:Hp)(i:Nat)(σ:Env)(F':Fz)(M':Hp):Prop:=
 F=F'/\FrS r0 ri rl rn M M'/\Old F M'/\Ax.look σ 11=some (.int .i64 i)/\∃(last seen:Int) (made:List Int) (br:Bool),Ax.look σ 4=some (.int .i64 last)/\pG p r0 ri rl rn seen made br M'/\
  if br=true then kW p.stmts (k+1) l lp q=none else ∃q':Sq,last=q'.last/\seen=q'.seen/\made=q'.made/\-1<=q'.last/\(q'.seen:Int)<=q'.last+1/\q'.last < p.stmts.length/\kW p.stmts (k+1) l lp q=(l.drop i).foldlM (qR p.stmts (kW p.stmts k) lp) q'
def zHQ (p:Pg)(r0 ri rl rn:Nat)(lp:Bool)(q':Sq)(y:Sm)(r12:Nat)(F:Fz)(M:Hp)(σ':Env)(F':Fz)(M':Hp):Prop:=
 F=F'/\∃qVG,pG p r0 ri rl rn (q'.seen+1) qVG false M'/\FrS r0 ri rl rn M M'/\Old F M'/\M' r12=some ⟨y.cs,80,7⟩/\qVG=(if y.op=3 then y.n :: q'.made else q'.made)/\¬(y.op=3/\(lp=true\/y.n∈q'.made))
def yKX (p:Pg):Prop:=∀s∈p.stmts,s.op=3->(p.vars.length:Int) < s.n/\s.n<=p.vars.length+p.news.length
theorem k56 (p:Pg)(hm3:yKX p):∀(k:Nat),k<=6->∀(F:Fz) (M:Hp) (la:Option Addr) (lc:Nat) (l:List Int) (lp:Bool) (q:Sq) (br:Bool) (seen:Int) (made:List Int) (last:Int) (r0 ri rl rn:Nat),p.rd F->Old F M->(∀M,Old F M->lG F M la lc l)->l.length<=2500->
  pG p r0 ri rl rn seen made br M->(br=false->last=q.last/\seen=q.seen/\made=q.made/\-1<=q.last/\(q.seen:Int)<=q.last+1/\q.last < p.stmts.length)->
  aI prog 56 [.pointer (some ⟨r0,0,none⟩),.slice la l.length lc,.int .i64 (6 - k),.bool lp,.int .i64 last] F M (zVF p r0 ri rl rn k l lp q br F M):=by
 intro k
 induction k with
 | zero=>
  intro hk F M la lc l lp q br seen made last r0 ri rl rn hp hold hl hll s hq;refine qZ hm func56 e56 (aA rfl) ?_;have e6:(5:Int) < 6 - ((0:Nat):Int):=by omega
  have f0:=s.f0;by_cases h0:(0:Int) < l.length
  ·have hne:¬l=[]:=by rintro rfl; simp at h0
   simp only [c56,go_sem,h0,f0];simp only [setH];have s':=s.set0 seen true;have old':=hold.upd (e:=⟨[.bool p.big,.int .i64 p.ptr,.slice p.vA p.vars.length p.vC,.slice p.nA p.news.length p.nC,.slice p.eA p.exprs.length p.eC,.slice p.sA p.stmts.length p.sC,.slice p.mA p.main.length p.mC,
  .slice (some ⟨ri,0,none⟩) p.stmts.length p.stmts.length,.slice (some ⟨rl,0,none⟩) p.stmts.length p.stmts.length,.int .i64 seen,.slice (some ⟨rn,0,none⟩) p.news.length p.news.length,.bool true],126,12⟩) (hold.free f0)
   have fr':FrS r0 ri rl rn M (M.upd r0 ⟨[.bool p.big,.int .i64 p.ptr,.slice p.vA p.vars.length p.vC,.slice p.nA p.news.length p.nC,.slice p.eA p.exprs.length p.eC,.slice p.sA p.stmts.length p.sC,.slice p.mA p.main.length p.mC,
  .slice (some ⟨ri,0,none⟩) p.stmts.length p.stmts.length,.slice (some ⟨rl,0,none⟩) p.stmts.length p.stmts.length,.int .i64 seen,.slice (some ⟨rn,0,none⟩) p.news.length p.news.length,.bool true],126,12⟩):=(FrS.refl M).own (.inl rfl)
   generalize M.upd r0 _=M1 at s' old' fr' ⊢;have f0':=s'.f0;have b0:=qG (F:=F) f0';refine wQX ?_;simp only [go_sem,b0,h0];refine qW ⟨rfl,fr',old',last,seen,made,true,rfl,s',?_⟩;split
   ·rfl
   ·simp [kW,hne]
  ·have hnil:l=[]:=lV h0;subst hnil;have b0:=qG (F:=F) f0;simp only [c56,go_sem];refine wQX ?_;simp only [go_sem];refine qW ⟨rfl,FrS.refl _,hold,last,seen,made,br,rfl,s,?_⟩;split
   ·assumption
   ·rename_i hb;have hb':br=false:=by simpa using hb
    obtain ⟨h1,h2,h3,_⟩:=hq hb';simp only [kW,if_true];exact ⟨hb',h1,h2,h3⟩
 | succ k ih=>
  intro hk F M la lc l lp q br seen made last r0 ri rl rn hp hold hl hll s hq;refine qZ hm func56 e56 (aA rfl) ?_;have hfew:=hp.few;have ek:(6:Int) - ((k+1:Nat):Int)=5 - k:=by omega
  have e6:¬(5:Int) < 5 - k:=by omega
  have f0:=s.f0;have b0:=qG (F:=F) f0;rw [ek];simp only [c56,go_sem,e6];cases br;rotate_left
  ·refine wQX ?_;by_cases h0:(0:Int) < l.length
   ·simp only [go_sem,b0,h0];exact qW ⟨rfl,FrS.refl _,hold,last,seen,made,true,rfl,s,by simp⟩
   ·simp only [go_sem,h0];exact qW ⟨rfl,FrS.refl _,hold,last,seen,made,true,rfl,s,by simp⟩
  obtain ⟨q1,q2,q3,q4,q5,q6⟩:=hq rfl;refine wV l.length (seatW p r0 ri rl rn k l lp q F M) ⟨rfl,FrS.refl _,hold,(by simp only [go_sem, *] <;> rfl),last,seen,made,false,(by simp only [go_sem, *] <;> rfl),s,q,q1,q2,q3,q4,q5,q6,rfl⟩ ?_;clear q1 q2 q3 q4 q5 q6 hq f0 b0 s;rintro i σ F' M1 hiN hs ⟨rfl,fr,old,h11,last',seen',made',br',h4,s,hw⟩;have s0:=hs 0 rfl;have s1:=hs 1 rfl;have s2:=hs 2 rfl;have s3:=hs 3 rfl;clear hs;simp only [go_sem] at s0 s1 s2 s3;have f0:=s.f0;have b0:=qG (F:=F) f0;by_cases hil:(i:Int) < l.length;rotate_left
  ·simp only [go_sem,s1,h4,h11,hil];refine qW ⟨rfl,fr,old,last',seen',made',br',rfl,s,?_⟩;simp only [Bool.false_eq_true,if_false];cases br'
   ·simp only [Bool.false_eq_true,if_false] at hw;obtain ⟨q',h1,h2,h3,_,_,_,h⟩:=hw;have:l.drop i=[]:=dL (by omega);rw [this] at h;rw [h];exact ⟨rfl,h1,h2,h3⟩
   ·simp only [if_true] at hw;rw [hw]
  cases br';rotate_left
  ·simp only [if_true] at hw;simp only [go_sem,s0,s1,h4,h11,hil,b0];refine qW ⟨rfl,fr,old,last',seen',made',true,rfl,s,?_⟩;simp only [Bool.false_eq_true,if_false,hw]
  simp only [Bool.false_eq_true,if_false] at hw;obtain ⟨q',rfl,rfl,rfl,g1,g2,g3,hw⟩:=hw;have hi0:(0:Int)<=i:=by omega
  have hi1:i < l.length:=by omega
  have ei:i64.wrap ((i:Int)+1)=i+1:=dQ (by omega) (by omega);have es:i64.wrap ((q'.seen:Int)+1)=q'.seen+1:=dQ (by omega) (by omega);have ed:i64.wrap (5 - (k:Int)+1)=6 - k:=by rw [dQ (by omega) (by omega)]; omega
  obtain ⟨b,o,cs,ea,hb,d1⟩:=gW (hl M1 old) hi1;rw [dH hi1,List.foldlM_cons] at hw;generalize l[i]=x at *;rw [ea] at s1;have stop:¬(q'.last < x/\x < p.stmts.length)->kW p.stmts (k+1) l lp q=none:=fun h=>by
   rw [hw]; unfold qR; rw [if_neg h]; rfl
  by_cases hx1:x<=q'.last
  ·simp only [go_sem,s0,s1,h4,h11,hil,b0,hi0,aB,hb,d1,hx1,f0];simp only [setH];refine qW ⟨rfl,fr.own (.inl rfl),old.upd (old.free f0),_,_,_,true,rfl,s.set0 q'.seen true,?_⟩;rw [if_neg (by simp),stop (by omega)]
  by_cases hx2:(p.stmts.length:Int)<=x
  ·simp only [go_sem,s0,s1,h4,h11,hil,b0,hi0,aB,hb,d1,hx1,hx2,f0];simp only [setH];refine qW ⟨rfl,fr.own (.inl rfl),old.upd (old.free f0),_,_,_,true,rfl,s.set0 q'.seen true,?_⟩;rw [if_neg (by simp),stop (by omega)]
  have hxl:q'.last < x/\x < p.stmts.length:=by omega
  clear stop;obtain ⟨z,rfl⟩:=aG (by omega:(0:Int)<=x);have hz:z < p.stmts.length:=by omega
  have hz0:(0:Int)<=z:=by omega
  have hzl:(z:Int) < p.stmts.length:=by omega
  obtain ⟨b',o',cs',ea',hb',d1',d2',d3',d4'⟩:=sm_at hp old hz;have hbody:=qXV hz;have hels:=qJZ hz;have hop:opAt p.stmts z=p.stmts[z].op:=by unfold opAt; rw [List.getElem?_eq_getElem hz]; rfl
  have hn:nAt p.stmts z=p.stmts[z].n:=by unfold nAt; rw [List.getElem?_eq_getElem hz]; rfl
  have hbd:=hp.bodies _ (aH hz);have hbf:=hfew.2.2.2.2.2 _ (aH hz);have kDG:=hm3 _ (aH hz);generalize p.stmts[z]=y at *;obtain ⟨xs,x1,x2⟩:=s.fi;obtain ⟨ys,y1,y2⟩:=s.fl;obtain ⟨nw,w1,w2,w3⟩:=s.fn;have ne:=s.ne;have hxz:z * 1+1<=xs.length:=by omega
  have hyz:z * 1+1<=ys.length:=by omega
  simp only [go_sem,s0,s1,h4,h11,hil,b0,hi0,aB,hb,d1,hx1,hx2];simp only [go_sem,aB,ea',hz0,hzl,hb',d1',d2'];intro r12 qHV sH;have n0:=qJ sH f0;have ni:=qJ sH x2;have nl:=qJ sH y2;have nn:=qJ sH w2;have wGG:¬r12=r0/\¬r12=ri/\¬r12=rl/\¬r12=rn:=⟨n0.2,ni.2,nl.2,nn.2⟩
  simp only [setH,Hp.wZ,go_sem,s0,s2,s3,b0,n0,ni,nl,ne,f0,x2,y2,aB,hz0,hzl,hxz,hyz,es];have l1:=yVG (v:=.int .i64 (5 - k)) x1 hz;have l2:=yVG (v:=.bool lp) y1 hz;have s5:=(((s.new (e:=⟨y.cs,80,7⟩) sH).kDX l1).kDZ l2).set0 (q'.seen+1) false;have fr5:=(((fr.new (e:=⟨y.cs,80,7⟩) sH).own (r:=ri) (e:=⟨xs.take (z * 1)++[.int .i64 (5 - k)]++xs.drop (z * 1+1),3,p.stmts.length * 1⟩) (.inr (.inl rfl))).own (r:=rl) (e:=⟨ys.take (z * 1)++[.bool lp]++ys.drop (z * 1+1),4,p.stmts.length * 1⟩) (.inr (.inr (.inl rfl)))).own (r:=r0) (e:=⟨[.bool p.big,.int .i64 p.ptr,.slice p.vA p.vars.length p.vC,.slice p.nA p.news.length p.nC,.slice p.eA p.exprs.length p.eC,.slice p.sA p.stmts.length p.sC,.slice p.mA p.main.length p.mC,.slice (some ⟨ri,0,none⟩) p.stmts.length p.stmts.length,.slice (some ⟨rl,0,none⟩) p.stmts.length p.stmts.length,.int .i64 (q'.seen+1),.slice (some ⟨rn,0,none⟩) p.news.length p.news.length,.bool false],126,12⟩) (.inl rfl);have dB:=(((old.upd (e:=⟨y.cs,80,7⟩) qHV).upd (r:=ri) (e:=⟨xs.take (z * 1)++[.int .i64 (5 - k)]++xs.drop (z * 1+1),3,p.stmts.length * 1⟩) (old.free x2)).upd (r:=rl) (e:=⟨ys.take (z * 1)++[.bool lp]++ys.drop (z * 1+1),4,p.stmts.length * 1⟩) (old.free y2)).upd (r:=r0) (e:=⟨[.bool p.big,.int .i64 p.ptr,.slice p.vA p.vars.length p.vC,.slice p.nA p.news.length p.nC,.slice p.eA p.exprs.length p.eC,.slice p.sA p.stmts.length p.sC,.slice p.mA p.main.length p.mC,.slice (some ⟨ri,0,none⟩) p.stmts.length p.stmts.length,.slice (some ⟨rl,0,none⟩) p.stmts.length p.stmts.length,.int .i64 (q'.seen+1),.slice (some ⟨rn,0,none⟩) p.news.length p.news.length,.bool false],126,12⟩) (old.free f0);have f12:((((M1.upd r12 ⟨y.cs,80,7⟩).upd ri ⟨xs.take (z * 1)++[.int .i64 (5 - k)]++xs.drop (z * 1+1),3,p.stmts.length * 1⟩).upd rl ⟨ys.take (z * 1)++[.bool lp]++ys.drop (z * 1+1),4,p.stmts.length * 1⟩).upd r0 ⟨[.bool p.big,.int .i64 p.ptr,.slice p.vA p.vars.length p.vC,.slice p.nA p.news.length p.nC,.slice p.eA p.exprs.length p.eC,.slice p.sA p.stmts.length p.sC,.slice p.mA p.main.length p.mC,.slice (some ⟨ri,0,none⟩) p.stmts.length p.stmts.length,.slice (some ⟨rl,0,none⟩) p.stmts.length p.stmts.length,.int .i64 (q'.seen+1),.slice (some ⟨rn,0,none⟩) p.news.length p.news.length,.bool false],126,12⟩) r12=some ⟨y.cs,80,7⟩:=by
   rw [Hp.qK wGG.1,Hp.qK wGG.2.2.1,Hp.qK wGG.2.1]; exact Hp.qV _ _ _
  generalize M1.upd r12 _=Mx at s5 fr5 dB f12 ⊢;generalize (((Mx.upd ri _).upd rl _).upd r0 _)=M5 at s5 fr5 dB f12 ⊢;clear n0 ni nl nn qHV sH l1 l2 x1 x2 y1 y2 w1 w2 w3 hxz hyz hb' d1' d2' d3' d4' hb d1 f0 b0 fr old s xs ys nw Mx;refine gJ (zHQ p r0 ri rl rn lp q' y r12 F M) ?_ ?_
  ·have f0:=s5.f0;have b0:=qG (F:=F) f0;have b12:=qG (F:=F) f12;by_cases h3:y.op=3;rotate_left
   ·simp only [go_sem,h3];exact ⟨rfl,q'.made,s5,fr5,dB,f12,by simp [h3],by simp [h3]⟩
   obtain ⟨nl1,nl2⟩:=kDG h3;obtain ⟨j,hj⟩:=aG (by omega:(0:Int)<=y.n - p.vars.length - 1);have hjl:j < p.news.length:=by omega
   have hj0:(0:Int)<=j:=by omega
   have jQX:(j:Int) < p.news.length:=by omega
   have en1:i64.wrap (y.n - p.vars.length)=y.n - p.vars.length:=dQ (by omega) (by omega);have en2:i64.wrap (y.n - p.vars.length - 1)=j:=by rw [dQ (by omega) (by omega)]; exact hj
   obtain ⟨nw,w1,w2,w3⟩:=s5.fn;have bn:=qG (F:=F) w2;have hstop:(lp=true\/y.n∈q'.made)->kW p.stmts (k+1) l lp q=none:=fun h=>by
    rw [hw]; unfold qR; rw [if_pos hxl,aB,hop,hn,if_pos ⟨h3,h⟩]; rfl
   cases lp;rotate_left
   ·simp only [setH,go_sem,s0,s3,b0,b12,h3,en1,en2,f0];refine qW ⟨rfl,fr5.own (.inl rfl),dB.upd (dB.free f0),_,_,_,true,rfl,s5.set0 (q'.seen+1) true,?_⟩;rw [if_neg (by simp),hstop (.inl rfl)]
   have hwj:(nw.map Value.bool)[j * 1]? = some (.bool (decide (y.n∈q'.made))):=by
    rw [Nat.mul_one,List.getElem?_map,w3 j hjl];have:(j:Int)+p.vars.length+1=y.n:=by omega
    rw [this]; rfl
   by_cases hmd:y.n∈q'.made
   ·simp only [setH,go_sem,s0,s3,b0,b12,bn,h3,en1,en2,f0,hj0,jQX,aB,hwj,hmd];refine qW ⟨rfl,fr5.own (.inl rfl),dB.upd (dB.free f0),_,_,_,true,rfl,s5.set0 (q'.seen+1) true,?_⟩;rw [if_neg (by simp),hstop (.inr hmd)]
   ·have hjn:j * 1+1<=(nw.map Value.bool).length:=by rw [bJ]; omega
    have jJE:(nw.map Value.bool).take (j * 1)++[Value.bool true]++(nw.map Value.bool).drop (j * 1+1)=(nw.set j true).map Value.bool:=yVK (by omega);simp only [setH,go_sem,s0,s3,b0,b12,bn,h3,en1,en2,hj0,jQX,aB,hwj,hmd,w2,hjn,jJE];refine ⟨rfl,y.n :: q'.made,s5.kDK (by rw [aZ]; exact w1) _ ?_,fr5.own (.inr (.inr (.inr rfl))),dB.upd (dB.free w2),by rw [Hp.qK wGG.2.2.2]; exact f12,by simp [h3],by simp [hmd]⟩;intro i' hi';by_cases hij:i'=j
    ·subst hij;rw [List.getElem?_set_self (by omega)];have:(i':Int)+p.vars.length+1=y.n:=by omega
     simp [this]
    ·rw [List.getElem?_set_ne (fun e=>hij e.symm),w3 i' hi'];have:¬(i':Int)+p.vars.length+1=y.n:=by omega
     simp [this]
  clear s5 fr5 dB f12;rintro σ' F' M5 hs ⟨rfl,qVG,s5,fr5,dB,f12,xVB,hno⟩;have t0:=hs 0 rfl;have t1:=hs 1 rfl;have t2:=hs 2 rfl;have t3:=hs 3 rfl;have t4:=hs 4 rfl;have t11:=hs 11 rfl;have t12:=hs 12 rfl;clear hs;simp only [go_sem,s0,s1,s2,s3,h11] at t0 t1 t2 t3 t4 t11 t12;have hw':kW p.stmts (k+1) l lp q=(kW p.stmts k y.body (lp || decide (y.op=6)) ⟨z,q'.seen+1,qVG⟩).bind fun a=>(kW p.stmts k y.els lp a).bind fun a=>List.foldlM (qR p.stmts (kW p.stmts k) lp) a (l.drop (i+1)):=by
   rw [hw]; unfold qR; rw [if_pos hxl,aB,hop,hn,hbody,hels,if_neg hno,<-xVB];cases kW p.stmts k y.body (lp || decide (y.op=6)) ⟨z,q'.seen+1,qVG⟩ <;> rfl
  clear hw hno xVB hop hn hbody hels;have b12:=qG (F:=F) f12;have fin:∀(σ':Env) (M8:Hp) (qVV qVH:Int) (qVD:List Int) (br8:Bool),FrS r0 ri rl rn M M8->Old F M8->pG p r0 ri rl rn qVH qVD br8 M8->
    (if br8=true then kW p.stmts (k+1) l lp q=none else ∃q8:Sq,qVV=q8.last/\qVH=q8.seen/\qVD=q8.made/\-1<=q8.last/\(q8.seen:Int)<=q8.last+1/\q8.last < p.stmts.length/\kW p.stmts (k+1) l lp q=(l.drop (i+1)).foldlM (qR p.stmts (kW p.stmts k) lp) q8)->
    Ax.look σ' 11=some (.int .i64 ((i+1:Nat):Int))->Ax.look σ' 4=some (.int .i64 qVV)->Nxt (seatW p r0 ri rl rn k l lp q F M) l.length i σ' F M8:=
   fun σ' M8 qVV qVH qVD br8 f o s8 h e11 e4=>⟨hi1,rfl,f,o,e11,qVV,qVH,qVD,br8,e4,s8,h⟩
  obtain ⟨lp',hlp⟩:∃b,b=(lp || decide (y.op=6)):=⟨_,rfl⟩
  rw [<-hlp] at hw';have jGK:=ih (by omega) F M5 y.ba y.bc y.body lp' ⟨z,q'.seen+1,qVG⟩ false (q'.seen+1) qVG z r0 ri rl rn hp dB (fun M o=>(hbd M o).1) hbf.1 s5 (fun _=>⟨rfl,by simp,rfl,by simp only []; omega,by simp only [Int.natCast_add,Int.cast_ofNat_Int]; omega,by simp only []; omega⟩);cases lp
  all_goals
   first | have e:lp'=decide (y.op=6):=hlp | have e:lp'=true:=hlp
   rw [e] at jGK hw';clear hlp e lp';simp only [go_sem,t0,t2,t3,t4,t12,b12,ed];refine wW jGK ?_;clear jGK;rintro u G M7 ⟨hG,fr7,iO,xVE,xVF,xHQ,br7,rfl,s7,hres⟩;rw [hG];refine ⟨(fun h=>by cases h),?_⟩;rw [if_neg (by simp)] at hres;have f127:=fr7 _ _ f12 wGG;have zHW:=qG (F:=F) f127;generalize hR:kW p.stmts k y.body _ ⟨z,q'.seen+1,qVG⟩=R at hres hw';cases R with
   | none=>
    simp only [] at hres;subst hres;simp only [Option.bind_none] at hw';simp only [go_sem,t0,t2,t3,t12,zHW,ed];refine wW (ih (by omega) F M7 y.ea y.ec y.els _ q' true xVF xHQ xVE r0 ri rl rn hp iO (fun M o=>(hbd M o).2) hbf.2 s7 (fun h=>by cases h)) ?_;rintro u G M8 ⟨hG,fr8,iE,qVV,qVH,qVD,br8,rfl,s8,qZF⟩;rw [hG];refine ⟨(fun h=>by cases h),?_⟩;simp only [if_true] at qZF;subst qZF;simp only [go_sem,t11,ei];exact fin _ M8 qVV qVH qVD true ((fr5.trans fr7).trans fr8) iE s8 (by simp only [if_true]; exact hw') (by simp only [go_sem, *] <;> rfl) (by simp only [go_sem, *] <;> rfl)
   | some q7=>
    obtain ⟨j1,j2,j3,j4,_⟩:=tX p.stmts k _ _ _ _ hR;simp only [Int.natCast_add,Int.cast_ofNat_Int] at j1 j2 j3 j4;have j5:=j4 (by omega);simp only [] at hres;obtain ⟨rfl,rfl,rfl,rfl⟩:=hres;simp only [bY] at hw';simp only [go_sem,t0,t2,t3,t12,zHW,ed];refine wW (ih (by omega) F M7 y.ea y.ec y.els _ q7 false q7.seen q7.made q7.last r0 ri rl rn hp iO (fun M o=>(hbd M o).2) hbf.2 s7 (fun _=>⟨rfl,rfl,rfl,by omega,by omega,j5⟩)) ?_;rintro u G M8 ⟨hG,fr8,iE,qVV,qVH,qVD,br8,rfl,s8,qZF⟩;rw [hG];refine ⟨(fun h=>by cases h),?_⟩;rw [if_neg (by simp)] at qZF;simp only [go_sem,t11,ei];generalize hR2:kW p.stmts k y.els _ q7=R2 at qZF hw';cases R2 with
    | none=>
     simp only [] at qZF;subst qZF;exact fin _ M8 qVV qVH qVD true ((fr5.trans fr7).trans fr8) iE s8 (by simp only [if_true]; exact hw') (by simp only [go_sem, *] <;> rfl) (by simp only [go_sem, *] <;> rfl)
    | some q8=>
     obtain ⟨i1,i2,i3,i4,_⟩:=tX p.stmts k _ _ _ _ hR2;have i5:=i4 j5;simp only [] at qZF;obtain ⟨rfl,rfl,rfl,rfl⟩:=qZF;exact fin _ M8 q8.last q8.seen q8.made false ((fr5.trans fr7).trans fr8) iE s8 (by rw [if_neg (by simp)]; exact ⟨q8,rfl,rfl,rfl,by omega,by omega,i5,hw'⟩) (by simp only [go_sem, *] <;> rfl) (by simp only [go_sem, *] <;> rfl)
end Go.Proofs.Tryz.K
namespace Go.Proofs.Tryz.K
open Go Go.Ax Go.Proofs.Tryz.S
variable (F:Fz) (M:Hp)
theorem k24 (p:Pg)(hp:p.rd F)(hold:Old F M)(hm3:yKX p):aI prog 24 [p.val] F M (fun u F' M'=>F'=F/\M'=M/\∃w,u=.tuple #[w,.bool (zW p.stmts p.main)]):=by
 refine qZ hm func24 e24 (aA rfl) ?_;have hfew:=hp.few;simp only [c24,go_sem];intro r1 hF1 hM1;simp only [go_sem];refine rY (aN _) (by simp only [maxLen]; omega) (by omega) ?_;intro ri hFi hMi;simp only [qD] at hMi;simp only [go_sem];refine rY (aN _) (by simp only [maxLen]; omega) (by omega) ?_;intro rl hFl hMl;simp only [qD] at hMl;simp only [go_sem];refine rY (aN _) (by simp only [maxLen]; omega) (by omega) ?_;intro rn hFn hMn;simp only [qD] at hMn;simp only [go_sem,Pg.cs];intro r0 hF0 hM0;simp only [qD] at hM0;simp only [go_sem,hM0,hMn,hMl,hMi];have s0:pG p r0 ri rl rn 0 [] false (((((M.upd r1 ⟨[.bool p.big,.int .i64 p.ptr,.slice p.vA p.vars.length p.vC,.slice p.nA p.news.length p.nC,.slice p.eA p.exprs.length p.eC,.slice p.sA p.stmts.length p.sC,.slice p.mA p.main.length p.mC],43,7⟩).upd ri ⟨(List.replicate p.stmts.length [Value.int .i64 0]).flatten,3,p.stmts.length * 1⟩).upd rl ⟨(List.replicate p.stmts.length [Value.bool false]).flatten,4,p.stmts.length * 1⟩).upd rn ⟨(List.replicate p.news.length [Value.bool false]).flatten,4,p.news.length * 1⟩).upd r0
   ⟨[.bool p.big,.int .i64 p.ptr,.slice p.vA p.vars.length p.vC,.slice p.nA p.news.length p.nC,.slice p.eA p.exprs.length p.eC,.slice p.sA p.stmts.length p.sC,.slice p.mA p.main.length p.mC,
  .slice (some ⟨ri,0,none⟩) p.stmts.length p.stmts.length,.slice (some ⟨rl,0,none⟩) p.stmts.length p.stmts.length,.int .i64 0,.slice (some ⟨rn,0,none⟩) p.news.length p.news.length,.bool false],126,12⟩):=by
  refine ⟨Hp.qV _ _ _,⟨_,?_,by simp only [Hp.qK,Hp.qV,hM0,hMn,hMl,not_false_eq_true]; rfl⟩,⟨_,?_,by simp only [Hp.qK,Hp.qV,hM0,hMn,not_false_eq_true]; rfl⟩,⟨List.replicate p.news.length false,by simp,by simp only [Hp.qK,Hp.qV,hM0,not_false_eq_true,wYQ],fun j hj=>by simp [hj]⟩,by simp only [hM0,hMn,hMl,not_false_eq_true,and_self]⟩
  ·simp
  ·simp
 have jJB:Old F (((((M.upd r1 ⟨[.bool p.big,.int .i64 p.ptr,.slice p.vA p.vars.length p.vC,.slice p.nA p.news.length p.nC,.slice p.eA p.exprs.length p.eC,.slice p.sA p.stmts.length p.sC,.slice p.mA p.main.length p.mC],43,7⟩).upd ri ⟨(List.replicate p.stmts.length [Value.int .i64 0]).flatten,3,p.stmts.length * 1⟩).upd rl ⟨(List.replicate p.stmts.length [Value.bool false]).flatten,4,p.stmts.length * 1⟩).upd rn ⟨(List.replicate p.news.length [Value.bool false]).flatten,4,p.news.length * 1⟩).upd r0
   ⟨[.bool p.big,.int .i64 p.ptr,.slice p.vA p.vars.length p.vC,.slice p.nA p.news.length p.nC,.slice p.eA p.exprs.length p.eC,.slice p.sA p.stmts.length p.sC,.slice p.mA p.main.length p.mC,
  .slice (some ⟨ri,0,none⟩) p.stmts.length p.stmts.length,.slice (some ⟨rl,0,none⟩) p.stmts.length p.stmts.length,.int .i64 0,.slice (some ⟨rn,0,none⟩) p.news.length p.news.length,.bool false],126,12⟩):=(by repeat' first | assumption | (refine Old.upd ?_ (by assumption)))
 have call:=k56 p hm3 6 (by omega) F _ p.mA p.mC p.main false ⟨-1,0,[]⟩ false 0 [] (-1) r0 ri rl rn hp jJB hp.main hfew.2.2.2.2.1 s0 (fun _=>⟨rfl,rfl,rfl,by decide,by decide,by simp only []; omega⟩);have m1:∀b x,M b=some x->(¬b=r0/\¬b=ri/\¬b=rl/\¬b=rn)/\(((((M.upd r1 ⟨[.bool p.big,.int .i64 p.ptr,.slice p.vA p.vars.length p.vC,.slice p.nA p.news.length p.nC,.slice p.eA p.exprs.length p.eC,.slice p.sA p.stmts.length p.sC,.slice p.mA p.main.length p.mC],43,7⟩).upd ri ⟨(List.replicate p.stmts.length [Value.int .i64 0]).flatten,3,p.stmts.length * 1⟩).upd rl ⟨(List.replicate p.stmts.length [Value.bool false]).flatten,4,p.stmts.length * 1⟩).upd rn ⟨(List.replicate p.news.length [Value.bool false]).flatten,4,p.news.length * 1⟩).upd r0
   ⟨[.bool p.big,.int .i64 p.ptr,.slice p.vA p.vars.length p.vC,.slice p.nA p.news.length p.nC,.slice p.eA p.exprs.length p.eC,.slice p.sA p.stmts.length p.sC,.slice p.mA p.main.length p.mC,
  .slice (some ⟨ri,0,none⟩) p.stmts.length p.stmts.length,.slice (some ⟨rl,0,none⟩) p.stmts.length p.stmts.length,.int .i64 0,.slice (some ⟨rn,0,none⟩) p.news.length p.news.length,.bool false],126,12⟩) b=some x:=fun b x hb=>by
  have hn:∀r,M r=none->¬b=r:=fun r hr e=>by rw [e,hr] at hb; cases hb
  have n0:=hn r0 hM0.2.2.2.2;have n1:=hn r1 hM1;have ni:=hn ri hMi.2;have nl:=hn rl hMl.2.2;have nn:=hn rn hMn.2.2.2;exact ⟨⟨n0,ni,nl,nn⟩,by simp only [Hp.qK,n0,n1,ni,nl,nn,not_false_eq_true]; exact hb⟩
 have f1:(((((M.upd r1 ⟨[.bool p.big,.int .i64 p.ptr,.slice p.vA p.vars.length p.vC,.slice p.nA p.news.length p.nC,.slice p.eA p.exprs.length p.eC,.slice p.sA p.stmts.length p.sC,.slice p.mA p.main.length p.mC],43,7⟩).upd ri ⟨(List.replicate p.stmts.length [Value.int .i64 0]).flatten,3,p.stmts.length * 1⟩).upd rl ⟨(List.replicate p.stmts.length [Value.bool false]).flatten,4,p.stmts.length * 1⟩).upd rn ⟨(List.replicate p.news.length [Value.bool false]).flatten,4,p.news.length * 1⟩).upd r0
   ⟨[.bool p.big,.int .i64 p.ptr,.slice p.vA p.vars.length p.vC,.slice p.nA p.news.length p.nC,.slice p.eA p.exprs.length p.eC,.slice p.sA p.stmts.length p.sC,.slice p.mA p.main.length p.mC,
  .slice (some ⟨ri,0,none⟩) p.stmts.length p.stmts.length,.slice (some ⟨rl,0,none⟩) p.stmts.length p.stmts.length,.int .i64 0,.slice (some ⟨rn,0,none⟩) p.news.length p.news.length,.bool false],126,12⟩) r1=some ⟨[.bool p.big,.int .i64 p.ptr,.slice p.vA p.vars.length p.vC,.slice p.nA p.news.length p.nC,.slice p.eA p.exprs.length p.eC,.slice p.sA p.stmts.length p.sC,.slice p.mA p.main.length p.mC],43,7⟩:=by
  simp only [Hp.qK,Hp.qV,hM0,hMn,hMl,hMi,not_false_eq_true]
 have n1:¬r1=r0/\¬r1=ri/\¬r1=rl/\¬r1=rn:=by simp only [hM0,hMn,hMl,hMi,not_false_eq_true,and_self]
 refine wW call ?_;clear call;rintro u G M7 ⟨hG,fr7,iO,xVE,xVF,xHQ,br7,rfl,s7,hres⟩;rw [hG];refine ⟨(fun h=>by cases h),?_⟩;have kp:Keep M M7:=fun b x hb=>fr7 _ _ (m1 b x hb).2 (m1 b x hb).1
 have b1:=qG (F:=F) (fr7 _ _ f1 n1);have b0:=qG (F:=F) s7.f0;clear fr7 m1 f1 s0 jJB;rw [if_neg (by simp)] at hres;unfold zW;cases hR:kW p.stmts 6 p.main false ⟨-1,0,[]⟩ with
 | none=>
  rw [hR] at hres;simp only [] at hres;subst hres;simp only [go_sem,b0];exact qX kp ⟨rfl,rfl,_,rfl⟩
 | some q=>
  rw [hR] at hres;simp only [] at hres;obtain ⟨rfl,rfl,rfl,rfl⟩:=hres;simp only [go_sem,b0,b1];refine qX kp ⟨rfl,rfl,.pointer (some ⟨r0,0,none⟩),?_⟩;have:decide (q.seen=p.stmts.length)=decide ((q.seen:Int)=p.stmts.length):=decide_eq_decide.2 (by omega);rw [this]
theorem xZB {p:Pg}(h:p.stmts.all (pF p.vars.length p.news.length p.exprs)=true):yKX p:=by
 intro s hs h3;have:=bW.1 h s hs;simp [pF,h3] at this;omega
theorem k6 (p:Pg)(hp:p.rd F)(hold:Old F M):aI prog 6 [p.val] F M (Same F M (.bool (zK p))):=by
 refine qZ hm func6 e6 (aA rfl) ?_;have hfew:=hp.few;simp only [c6,go_sem];intro r1 hF1 hM1;have kY:=hold.upd (e:=⟨p.cs,43,7⟩) hF1;have f1:(M.upd r1 ⟨p.cs,43,7⟩) r1=some ⟨p.cs,43,7⟩:=Hp.qV _ _ _;have hv:=hp.vars _ kY;have hn:=hp.news _ kY;have ks1:=k21 F _ p.vA p.vC p.vars 4 hv (by decide) (by decide);have ks2:=k21 F _ p.nA p.nC p.news 2 hn (by decide) (by decide);have oV:Keep M (M.upd r1 ⟨p.cs,43,7⟩):=(Keep.refl M).new hM1;generalize M.upd r1 ⟨p.cs,43,7⟩=M1 at *;have b1:=qG (F:=F) f1;have no:∀v:Bool,(zK p=v)->lK F M1 (Same F M (.bool (zK p))) (.bool v):=fun v h=>qX oV ⟨by rw [h],rfl,rfl⟩
 simp only [go_sem,b1];refine qQ (k20 _ _ p.big p.ptr) ?_;cases h1:(decide (p.ptr=2) || decide (p.ptr=4))
 ·simp only [go_sem];exact no _ (by unfold zK; rw [h1]; rfl)
 simp only [go_sem,b1];refine qQ ks1 ?_;have e4:Int.toNat 4=4:=rfl;have e2:Int.toNat 2=2:=rfl;rw [e4];cases h2:rC p.vars 4
 ·simp only [go_sem];exact no _ (by unfold zK; rw [h1,h2]; rfl)
 simp only [go_sem,b1];refine qQ ks2 ?_;rw [e2];cases h3:rC p.news 2
 ·simp only [go_sem];exact no _ (by unfold zK; rw [h1,h2,h3]; rfl)
 by_cases h4:(120:Int) < p.exprs.length
 ·have:¬p.exprs.length<=120:=by omega
  simp only [go_sem,b1,h4];exact no _ (by unfold zK; rw [h1,h2,h3,decide_eq_false this]; rfl)
 by_cases h5:(40:Int) < p.stmts.length
 ·have:¬p.stmts.length<=40:=by omega
  simp only [go_sem,b1,h4,h5];exact no _ (by unfold zK; rw [h1,h2,h3,decide_eq_false this]; simp)
 have h4':p.exprs.length<=120:=by omega
 have h5':p.stmts.length<=40:=by omega
 have hR:zK p=(wR p.vars.length p.exprs p.exprs.length && (p.stmts.all (pF p.vars.length p.news.length p.exprs) && zW p.stmts p.main)):=by
  unfold zK; rw [h1,h2,h3,decide_eq_true h4',decide_eq_true h5']; simp [fE]
 simp only [go_sem,b1,h4,h5];clear ks1 ks2 hv hn;refine wV p.exprs.length (fun i σ' F' M'=>F=F'/\M1=M'/\Ax.look σ' 3=some (.int .i64 i)/\wR p.vars.length p.exprs i=true) ⟨rfl,rfl,(by simp only [go_sem, *] <;> rfl),rfl⟩ ?_;rintro i σ F' M' hi hs ⟨rfl,rfl,q3,he⟩;have q1:=hs 1 rfl;simp only [go_sem] at q1;clear hs;by_cases hil:(i:Int) < p.exprs.length
 ·have hi1:i < p.exprs.length:=by omega
  have ei:i64.wrap ((i:Int)+1)=i+1:=dQ (by omega) (by omega);have hsucc:=qVK p.vars.length p.exprs hi1;simp only [go_sem,b1,q1,q3,hil];refine qQ (k22 F M1 p i hp kY hi1) ?_;cases hx:jS p.vars.length p.exprs i p.exprs[i]
  ·simp only [go_sem];refine no _ ?_;have:wR p.vars.length p.exprs p.exprs.length=false:=by
    unfold wR;rw [dP];exact ⟨i,by simpa using hi1,by rw [List.getElem?_eq_getElem hi1]; simp [hx]⟩
   rw [hR,this]; rfl
  ·simp only [go_sem,q3,ei];exact ⟨hi1,rfl,rfl,(by simp only [go_sem, *] <;> rfl),by rw [hsucc,he,hx]; rfl⟩
 have hx:wR p.vars.length p.exprs p.exprs.length=true:=by
  have:i=p.exprs.length:=by omega
  rw [<-this]; exact he
 rw [hx,bQ] at hR;simp only [go_sem,b1,q1,q3,hil];clear he q3 hil;refine wV p.stmts.length (fun i σ' F' M'=>F=F'/\M1=M'/\Ax.look σ' 4=some (.int .i64 i)/\(p.stmts.take i).all (pF p.vars.length p.news.length p.exprs)=true) ⟨rfl,rfl,(by simp only [go_sem, *] <;> rfl),rfl⟩ ?_;rintro i σ' F' M' hi hs ⟨rfl,rfl,q4,he⟩;have q1':=hs 1 rfl;simp only [go_sem,q1] at q1';clear hs;by_cases hil:(i:Int) < p.stmts.length
 ·have hi0:(0:Int)<=i:=by omega
  have hi1:i < p.stmts.length:=by omega
  have ei:i64.wrap ((i:Int)+1)=i+1:=dQ (by omega) (by omega);obtain ⟨b,o,cs,ea,hb,d1,d2,_⟩:=sm_at hp kY hi1;have t1:=aF hi1;have hmem:=aH hi1;generalize p.stmts[i]=x at *;obtain ⟨hb1,hb2⟩:=hp.bodies x hmem M1 kY;simp only [go_sem,b1,q1',q4,hil,hi0,ea,aB,hb,d1,d2];refine qQ (k23 F M1 p x hp kY hb1 hb2) ?_;cases hx2:pF p.vars.length p.news.length p.exprs x
  ·simp only [go_sem];refine no _ ?_;have:p.stmts.all (pF p.vars.length p.news.length p.exprs)=false:=by
    rw [dP]; exact ⟨x,hmem,by simp [hx2]⟩
   rw [hR,this]; rfl
  ·simp only [go_sem,q4,ei];exact ⟨hi1,rfl,rfl,(by simp only [go_sem, *] <;> rfl),by rw [t1,List.all_append,he]; simp [hx2]⟩
 have hst:p.stmts.all (pF p.vars.length p.news.length p.exprs)=true:=by
  rw [aJ (by omega)] at he; exact he
 rw [hst,bQ] at hR;simp only [go_sem,b1,q1',q4,hil];refine wW (k24 F M1 p hp kY (xZB hst)) ?_;rintro u G M2 ⟨hG,hM2,w,rfl⟩;rw [hG,hM2];refine ⟨(fun h=>by cases h),?_⟩;simp only [go_sem];exact no _ hR
theorem k65 (p:Pg)(s:Sm)(r1:Nat)(e1:nH)(h1:M r1=some e1)(c1:e1.cells=p.cs)(hp:p.rd F)(hold:Old F M) :
  aI prog 65 [s.val,.pointer (some ⟨r1,0,none⟩)] F M (Same F M (.bool (!tY p.vars.length p.news.length p.exprs s))):=by
 refine qZ hm func65 e65 (aA rfl) ?_;have b1:=qG (F:=F) h1;rw [c1] at b1;simp only [c65,go_sem];intro r2 hF2 hM2;have n1:=qJ hM2 h1;simp only [go_sem,b1,n1];refine qQ (k66 _ _ p s hp (hold.upd hF2)) ?_;simp only [go_sem];exact qH hM2 (qW ⟨rfl,rfl,rfl⟩)
theorem k32 (p:Pg)(hp:p.rd F)(hold:Old F M):aI prog 32 [p.val] F M (Same F M (.bool (wY p))):=by
 refine qZ hm func32 e32 (aA rfl) ?_;have hfew:=hp.few;simp only [c32,go_sem];intro r1 hF1 hM1;simp only [go_sem];intro r3 hF3 dN;simp only [qD] at dN;have dA:Old F ((M.upd r1 ⟨p.cs,43,7⟩).upd r3 ⟨p.cs,135,7⟩):=(by repeat' first | assumption | (refine Old.upd ?_ (by assumption)))
 have f1:((M.upd r1 ⟨p.cs,43,7⟩).upd r3 ⟨p.cs,135,7⟩) r1=some ⟨p.cs,43,7⟩:=by rw [Hp.qK dN.1.2]; exact Hp.qV _ _ _
 have f3:((M.upd r1 ⟨p.cs,43,7⟩).upd r3 ⟨p.cs,135,7⟩) r3=some ⟨p.cs,135,7⟩:=Hp.qV _ _ _;have fC:Keep M ((M.upd r1 ⟨p.cs,43,7⟩).upd r3 ⟨p.cs,135,7⟩):=((Keep.refl M).new hM1).new dN.2;simp only [setH,Hp.wZ,go_sem];generalize (M.upd r1 ⟨p.cs,43,7⟩).upd r3 ⟨p.cs,135,7⟩=M1 at *;have b1:=qG (F:=F) f1;have b3:=qG (F:=F) f3;have no:∀v:Bool,(wY p=v)->lK F M1 (Same F M (.bool (wY p))) (.bool v):=fun v h=>qX fC ⟨by rw [h],rfl,rfl⟩
 have hbad:∀n:Int,(decide (n < 1) || decide (32 < n)) = !vO n:=fun n=>by
  unfold vO;by_cases h1:n < 1
  ·have:¬1<=n:=by omega
   simp [h1,this]
  ·by_cases h2:32 < n
   ·have:¬n<=32:=by omega
    simp [h2,this]
   ·have h3:1<=n:=by omega
    have h4:n<=32:=by omega
    simp [h1,h2,h3,h4]
 have hany:∀l:List Int,(l.any fun n=>decide (n < 1) || decide (32 < n)) = !l.all vO:=fun l=>by
  rw [List.not_all_eq_any_not]
  congr 1
  funext n
  exact hbad n
 have kv:aI prog 62 [.slice p.vA p.vars.length p.vC,.func (.func 60) #[] #[]] F M1 (Same F M1 (.bool (!p.vars.all vO))):=by
  rw [<-hany];exact k62 F M1 p.vA p.vC p.vars _ [] _ (hp.vars _ dA) (fun v _=>k60 F M1 v)
 have kn:aI prog 62 [.slice p.nA p.news.length p.nC,.func (.func 60) #[] #[]] F M1 (Same F M1 (.bool (!p.news.all vO))):=by
  rw [<-hany];exact k62 F M1 p.nA p.nC p.news _ [] _ (hp.news _ dA) (fun v _=>k60 F M1 v)
 have kst:aI prog 64 [.slice p.sA p.stmts.length p.sC,.func (.func 65) #[] #[.pointer (some ⟨r3,0,none⟩)]] F M1 (Same F M1 (.bool (!p.stmts.all (tY p.vars.length p.news.length p.exprs)))):=by
  rw [List.not_all_eq_any_not];exact k64 F M1 p.sA p.sC p.stmts _ [.pointer (some ⟨r3,0,none⟩)] _ (hp.stmts _ dA) (fun v _=>k65 F M1 p v r3 _ f3 rfl hp dA)
 clear hbad hany hF1 hM1 hF3 dN fC;simp only [go_sem,b1];refine qQ (k61 _ _ p.big p.ptr) ?_;cases h1:(decide (p.ptr=2) || decide (p.ptr=4))
 ·simp only [go_sem];exact no _ (by unfold wY; rw [h1]; rfl)
 by_cases h2:(4:Int) < p.vars.length
 ·have:¬p.vars.length<=4:=by omega
  simp only [go_sem,b1,h2];exact no _ (by simp [wY,rC,this])
 by_cases h3:(2:Int) < p.news.length
 ·have:¬p.news.length<=2:=by omega
  simp only [go_sem,b1,h2,h3];exact no _ (by simp [wY,rC,this])
 by_cases h4:(120:Int) < p.exprs.length
 ·have:¬p.exprs.length<=120:=by omega
  simp only [go_sem,b1,h2,h3,h4];exact no _ (by simp [wY,this])
 by_cases h5:(40:Int) < p.stmts.length
 ·have:¬p.stmts.length<=40:=by omega
  simp only [go_sem,b1,h2,h3,h4,h5];exact no _ (by simp [wY,this])
 have h2':p.vars.length<=4:=by omega
 have h3':p.news.length<=2:=by omega
 have h4':p.exprs.length<=120:=by omega
 have h5':p.stmts.length<=40:=by omega
 have hR:wY p=(p.vars.all vO && (p.news.all vO && (qU p.vars.length p.exprs p.exprs.length && (p.stmts.all (tY p.vars.length p.news.length p.exprs) && qXJ p.stmts p.main)))):=by
  unfold wY rC; rw [h1,decide_eq_true h2',decide_eq_true h3',decide_eq_true h4',decide_eq_true h5']; simp [fE]
 simp only [go_sem,b1,h2,h3,h4,h5];refine qQ kv ?_;cases h6:p.vars.all vO
 ·simp only [go_sem];exact no _ (by rw [hR,h6]; rfl)
 simp only [go_sem,b1];refine qQ kn ?_;cases h7:p.news.all vO
 ·simp only [go_sem];exact no _ (by rw [hR,h7]; simp)
 rw [h6,h7,bQ,bQ] at hR;simp only [go_sem,b1];refine wV p.exprs.length (fun i σ' F' M'=>F=F'/\M1=M'/\Ax.look σ' 51=some (.int .i64 i)/\qU p.vars.length p.exprs i=true) ⟨rfl,rfl,(by simp only [go_sem, *] <;> rfl),rfl⟩ ?_;rintro i σ F' M' hi hs ⟨rfl,rfl,q51,he⟩;have q1:=hs 1 rfl;have q3:=hs 3 rfl;have q50:=hs 50 rfl;simp only [go_sem] at q1 q3 q50;clear hs;by_cases hil:(i:Int) < p.exprs.length
 ·have hi1:i < p.exprs.length:=by omega
  have ei:i64.wrap ((i:Int)+1)=i+1:=dQ (by omega) (by omega);have hsucc:=qXG p.vars.length p.exprs hi1;simp only [go_sem,b3,q3,q50,q51,hil];refine qQ (k63 F M1 p i hp dA hi1) ?_;cases hx:iV p.vars.length p.exprs i p.exprs[i]
  ·simp only [go_sem];refine no _ ?_;have:qU p.vars.length p.exprs p.exprs.length=false:=by
    unfold qU;rw [dP];exact ⟨i,by simpa using hi1,by rw [List.getElem?_eq_getElem hi1]; simp [hx]⟩
   rw [hR,this]; rfl
  ·simp only [go_sem,q51,ei];exact ⟨hi1,rfl,rfl,(by simp only [go_sem, *] <;> rfl),by rw [hsucc,he,hx]; rfl⟩
 have hx:qU p.vars.length p.exprs p.exprs.length=true:=by
  have:i=p.exprs.length:=by omega
  rw [<-this]; exact he
 rw [hx,bQ] at hR;simp only [go_sem,b1,q1,q3,q50,q51,hil];refine qQ kst ?_;cases h8:p.stmts.all (tY p.vars.length p.news.length p.exprs)
 ·simp only [go_sem];exact no _ (by rw [hR,h8]; rfl)
 rw [h8,bQ] at hR;simp only [go_sem,b3,q3];refine wW (k67 F M1 p hp dA) ?_;rintro u G M2 ⟨hG,hM2,w,rfl⟩;rw [hG,hM2];refine ⟨(fun h=>by cases h),?_⟩;by_cases h9:eY p.stmts 6 p.main 0=some p.stmts.length
 ·have e9:decide (eY p.stmts 6 p.main 0=some p.stmts.length)=true:=by rw [decide_eq_true h9]
  simp only [go_sem,e9,b3,q3];refine qQ (k68 F M1 p hp dA (wYX h9)) ?_;simp only [go_sem];exact no _ (by rw [hR]; unfold qXJ; rw [decide_eq_true h9,bQ])
 ·have e9:decide (eY p.stmts 6 p.main 0=some p.stmts.length)=false:=by rw [decide_eq_false h9]
  simp only [go_sem,e9];exact no _ (by rw [hR]; unfold qXJ; rw [decide_eq_false h9,Bool.false_and])
end Go.Proofs.Tryz.K
