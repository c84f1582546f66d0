/- Parts A1: the machine's runs of small codes, contracts of functions, plain facts. -/
import Derived.Orders
import Derived.Tactics
import Derived.Below
import Derived.Laws.OwnMore
import Derived.Laws.Cells
import Derived.Laws.Shifts
import Derived.Laws.IdiomAt
import Derived.Laws.StructEq
import Derived.Laws.Small
import Derived.Laws.AppendOwn
import Derived.Laws.AppendOwnNone
import Derived.Laws.MakeOwn
import Derived.Lib.AppendZeros
open Nat renaming add_zero->aK,le_refl->aN
open Int renaming eq_ofNat_of_zero_le->aG,toNat_natCast->aB
open List renaming append_nil->fA,eq_of_mem_replicate->dK,length_cons->fF,length_take->dW,map_append->bP
open Option renaming bind_eq_some_iff->bU,bind_some->bY
open Go.IntKind (i64)
set_option linter.unusedSimpArgs false
namespace Go.Ax
open Go
attribute [go_sem] reduceCtorEq reduceIte Nat.reduceEqDiff Nat.reduceAdd Nat.reduceLeDiff Nat.reduceMul Int.reduceLT Int.reduceLE Int.reduceAdd Int.reduceSub Int.reduceMul Int.reduceNeg Int.reduceToNat Int.reduceEq
theorem qKA {α:Type}:∀(a:Ask α) (w:World),w.drawn<=(w.ask a).2.drawn
 | .done a,w=>aN _
 | .ask what range k,w=>by
  rw [World.ask];split
  ·exact qKA _ w
  ·exact Nat.le_trans (Nat.le_succ _) (qKA (k _) { w with drawn:=w.drawn+1 })
theorem yDW (w:World)(c:Sys):w.drawn<=(w.sys c).2.drawn:=by
 have h:=qKA (Kernel.perform c w.os) w;unfold World.sys;generalize w.ask (Kernel.perform c w.os)=x at *;obtain ⟨⟨r,os⟩,w1⟩:=x;cases r <;> first | exact aN _ | exact h
theorem yWC {p:Program}{w w':World}{at_ k:Addr}{u:TypeId}{v:Value}{b:Bool}{l:List Addr}(h:w.viewStore p at_ u k v b=.ok (w',l)):w'.drawn=w.drawn:=by
 unfold World.viewStore at h;simp only [bind,Except.bind,pure,Except.pure] at h
 repeat' split at h
 all_goals first | (cases h; done) | (injection h with h; injection h with h1 h2; rw [<-h1])
theorem yDX {p:Program}{w w':World}{a:Addr}{v:Value}{b:Bool}{l:List Addr}(h:w.farStore p a v b=.ok (w',l)):w'.drawn=w.drawn:=by
 unfold World.farStore at h;split at h
 ·split at h
  ·rename_i hv;injection h with h
   subst h;exact yWC hv
  ·cases h
 ·cases h
theorem yDZ {α : Type} {p : Program} : ∀ (m : Sem α) (w : World) {v : α} {w' : World}, m.run p w = .ok v w' -> w.drawn <= w'.drawn := by
  intro m
  induction m with
  | pure a => intro w v w' h; rw [Sem.run] at h; cases h; exact aN _
  | load m a k ih =>
    intro w v w' h
    rw [Sem.run] at h
    split at h
    · exact ih _ w h
    · split at h
      · exact ih _ w h
      · cases h
  | store m a v k ih =>
    intro w u w' h
    cases v <;> first
      | (rw [Sem.run] at h; cases h; done)
      | (rw [Sem.run] at h
         · split at h
           · split at h
             · cases h
             · have := ih _ h; exact this
           · split at h
             · rename_i hf
               have := ih _ h
               rw [yDX hf] at this
               exact this
             · cases h
         all_goals (intro _ hx; cases hx))
  | new o k ih => intro w v w' h; rw [Sem.run] at h; have := ih _ _ h; exact this
  | shape r k ih => intro w v w' h; rw [Sem.run] at h; have := ih _ _ h; exact this
  | freeze a n k ih =>
    intro w v w' h
    rw [Sem.run] at h
    have := ih _ h
    unfold World.freeze at this
    split at this <;> exact this
  | frozen a k ih => intro w v w' h; rw [Sem.run] at h; have := ih _ _ h; exact this
  | getObj r k ih =>
    intro w v w' h
    rw [Sem.run] at h
    split at h
    · cases h
    · exact ih _ _ h
    · cases h
  | setObj r o k ih =>
    intro w v w' h
    rw [Sem.run] at h
    split at h
    · cases h
    · have := ih _ h; exact this
    · cases h
  | choose q k ih =>
    intro w v w' h
    rw [Sem.run] at h
    split at h
    · exact ih _ _ h
    · exact Nat.le_trans (Nat.le_succ _) (ih _ _ h)
  | sys c k ih => intro w v w' h; rw [Sem.run] at h; exact Nat.le_trans (yDW w c) (ih _ _ h)
  | program k ih => intro w v w' h; rw [Sem.run] at h; have := ih _ _ h; exact this
  | mark m k ih => intro w v w' h; rw [Sem.run] at h; exact ih _ h
  | halt h' => intro w v w' h; rw [Sem.run] at h; cases h
structure nH where
 cells:List Value
 elem:TypeId
 size:Nat
abbrev Hp:=Nat->Option nH
structure Fz where
 f:Nat->Option (List Value)
 mp:Nat->Option (List (Int × Value)):=fun _=>none
instance Fz.coe:CoeFun Fz (fun _=>Nat->Option (List Value)):=⟨Fz.f⟩
def Hp.upd (M:Hp)(b:Nat)(e:nH):Hp:=fun k=>if k=b then some e else M k
def Fz.nM (F:Fz)(b:Nat)(l:List (Int × Value)):Fz:={ F with mp:=fun k=>if k=b then some l else F.mp k }
def jXD (es:Array MapEntry)(l:List (Int × Value)):Prop:=es.toList.map (fun e=>(e.key,e.val))=l.map fun p=>(.int .i64 p.1,p.2)
@[simp] theorem Hp.qV (M:Hp) (b:Nat) (e:nH):M.upd b e b=some e:=by simp [Hp.upd]
theorem Hp.upd_ne {M:Hp}{b k:Nat}{e:nH}(h:k≠b):M.upd b e k=M k:=by simp [Hp.upd,h]
theorem Hp.qDQ {M:Hp}{a b:Nat}{x y:nH}(h:a≠b):(M.upd a x).upd b y=(M.upd b y).upd a x:=by
 funext k; simp only [Hp.upd]; split <;> split <;> simp_all
theorem Hp.wZ {M:Hp}{a:Nat}{x y:nH}:(M.upd a x).upd a y=M.upd a y:=by
 funext k; simp only [Hp.upd]; split <;> simp_all
structure Rel (F:Fz)(M:Hp)(w:World):Prop where
 fz:∀b c,F b=some c->∃cur e fr,w.heap[b]? = some (.cells cur e fr)/\c <+: cur.toList
 mu:∀b n,M b=some n->∃cur,w.heap[b]? = some (.cells cur n.elem (0,0))/\n.cells <+: cur.toList/\cur.size=n.size
 ap:∀b,M b≠none->F b=none
 mp:∀b l,F.mp b=some l->∃es clock,w.heap[b]? = some (.map es clock)/\jXD es l
structure Fr (F:Fz)(M:Hp)(w:World)(F':Fz)(M':Hp)(w':World):Prop where
 os:w'.os=w.os
 tape:w'.tape=w.tape/\w.drawn<=w'.drawn
 output:w'.output=w.output
 size:w.heap.size<=w'.heap.size
 block:∀b,b < w.heap.size->M b=none->F.mp b=none->w'.heap[b]? = w.heap[b]?/\M' b=none/\F'.mp b=none/\(F b=none->F' b=none)
theorem Fr.refl (F:Fz)(M:Hp)(w:World):Fr F M w F M w:=⟨rfl,⟨rfl,aN _⟩,rfl,aN _,fun _ _ h hp=>⟨rfl,h,hp,id⟩⟩
theorem Fr.trans {F F1 F2:Fz}{M M1 M2:Hp}{w w1 w2:World}(h:Fr F M w F1 M1 w1)(k:Fr F1 M1 w1 F2 M2 w2):Fr F M w F2 M2 w2:=
 ⟨k.os.trans h.os,⟨k.tape.1.trans h.tape.1,Nat.le_trans h.tape.2 k.tape.2⟩,k.output.trans h.output,Nat.le_trans h.size k.size,fun b hb hm hp=>by
  obtain ⟨e1,m1,p1,f1⟩:=h.block b hb hm hp;obtain ⟨e2,m2,p2,f2⟩:=k.block b (Nat.lt_of_lt_of_le hb h.size) m1 p1;exact ⟨e2.trans e1,m2,p2,fun hf=>f2 (f1 hf)⟩⟩
structure Like (w w':World):Prop where
 heap:w'.heap=w.heap
 os:w'.os=w.os
 tape:w'.tape=w.tape/\w.drawn<=w'.drawn
 output:w'.output=w.output
theorem Rel.like {F:Fz}{M:Hp}{w w':World}(h:Rel F M w)(l:Like w w'):Rel F M w':=
 ⟨fun b c hb=>by rw [l.heap]; exact h.fz b c hb,fun b n hb=>by rw [l.heap]; exact h.mu b n hb,h.ap,fun b n hb=>by rw [l.heap]; exact h.mp b n hb⟩
theorem Fr.like {F:Fz}{M:Hp}{w w':World}(l:Like w w'):Fr F M w F M w':=
 ⟨l.os,l.tape,l.output,by rw [l.heap]; exact aN _,fun b _ h hp=>⟨by rw [l.heap],h,hp,id⟩⟩
structure Le (F:Fz)(M:Hp)(F':Fz)(M':Hp):Prop where
 fz:∀b c,F b=some c->F' b=some c
 mu:∀b e,M b=some e->∃e',M' b=some e'/\e.cells <+: e'.cells
 ap:∀b,F b≠none->M b=none->M' b=none
theorem Le.refl (F:Fz)(M:Hp):Le F M F M:=⟨fun _ _ h=>h,fun _ e h=>⟨e,h,List.prefix_refl _⟩,fun _ _ h=>h⟩
theorem Le.nM (F:Fz)(M:Hp)(r:Nat)(l:List (Int × Value)):Le F M (F.nM r l) M:=⟨fun _ _ h=>h,fun _ e h=>⟨e,h,List.prefix_refl _⟩,fun _ _ h=>h⟩
theorem Le.upd {F:Fz}{M:Hp}{r:Nat}{e:nH}(hF:F r=none)(h:M r=none):Le F M F (M.upd r e):=
 ⟨fun _ _ h=>h,fun b x hb=>⟨x,by rw [Hp.upd_ne]; exact hb; rintro rfl; simp [h] at hb,List.prefix_refl _⟩,
  fun b h1 h2=>by rw [Hp.upd_ne]; exact h2; rintro rfl; exact h1 hF⟩
theorem Le.grow {F:Fz}{M:Hp}{r:Nat}{e e':nH}(h:M r=some e)(hp:e.cells <+: e'.cells):Le F M F (M.upd r e'):=
 ⟨fun _ _ h=>h,fun b x hb=>by
  by_cases hbr:b=r
  ·subst hbr; rw [h] at hb; cases hb; exact ⟨e',by simp,hp⟩
  ·exact ⟨x,by rw [Hp.upd_ne hbr]; exact hb,List.prefix_refl _⟩,
  fun b h1 h2=>by rw [Hp.upd_ne]; exact h2; rintro rfl; simp [h] at h2⟩
def blk (F:Fz)(M:Hp)(b:Nat):Option (List Value):=match M b with | some e=>some e.cells | none=>F b
theorem Rel.xYZ {F:Fz}{M:Hp}{w:World}(h:Rel F M w){b:Nat}{c:List Value}(hb:blk F M b=some c) :
  ∃cur e fr,w.heap[b]? = some (.cells cur e fr)/\c <+: cur.toList:=by
 unfold blk at hb;split at hb
 ·rename_i e he;obtain ⟨cur,h1,h2,_⟩:=h.mu b e he;cases hb;exact ⟨cur,_,_,h1,h2⟩
 ·exact h.fz b c hb
theorem xYK {F F':Fz}{M M':Hp}(hl:Le F M F' M'){b:Nat}{c:List Value}(hb:blk F M b=some c) :
  ∃c',blk F' M' b=some c'/\c <+: c':=by
 unfold blk at hb;split at hb
 ·rename_i e he;obtain ⟨e',h1,h2⟩:=hl.mu b e he;cases hb;exact ⟨e'.cells,by simp [blk,h1],h2⟩
 ·rename_i hm;exact ⟨c,by simp [blk,hl.ap b (by simp [hb]) hm,hl.fz b c hb],List.prefix_refl _⟩
theorem Rel.cell {F:Fz}{M:Hp}{w:World}(h:Rel F M w){b i:Nat}{c:List Value}{v:Value}(hb:blk F M b=some c)(hi:c[i]? = some v) :
  w.cell? ⟨b,i,none⟩=some v:=by
 obtain ⟨cur,e,fr,h1,t,ht⟩:=h.xYZ hb;have hlt:i < c.length:=(List.getElem?_eq_some_iff.1 hi).1;simp only [World.cell?,h1];simp only [Option.isSome_none,Bool.false_eq_true,if_false];rw [<-Array.getElem?_toList,<-ht,List.getElem?_append_left hlt];exact hi
theorem Rel.fresh {F:Fz}{M:Hp}{w:World}(h:Rel F M w){b:Nat}(hb:w.heap.size<=b):F b=none/\M b=none:=by
 constructor
 ·cases hf:F b with
  | none=>rfl
  | some c=>obtain ⟨cur,e,fr,h1,_⟩:=h.fz b c hf; have:=(Array.getElem?_eq_some_iff.1 h1).1; omega
 ·cases hf:M b with
  | none=>rfl
  | some n=>obtain ⟨cur,h1,_⟩:=h.mu b n hf; have:=(Array.getElem?_eq_some_iff.1 h1).1; omega
theorem Rel.xYJ {F:Fz}{M:Hp}{w:World}(h:Rel F M w){b:Nat}(hb:w.heap.size<=b):F.mp b=none:=by
 cases hf:F.mp b with
 | none=>rfl
 | some c=>obtain ⟨es,k,h1,_⟩:=h.mp b c hf; have:=(Array.getElem?_eq_some_iff.1 h1).1; omega
theorem Rel.wHX {F:Fz}{M:Hp}{w:World}(h:Rel F M w){b:Nat}{e:nH}(hb:M b=some e):F.mp b=none:=by
 cases hf:F.mp b with
 | none=>rfl
 | some c=>
  obtain ⟨es,k,h1,_⟩:=h.mp b c hf;obtain ⟨cur,h2,_⟩:=h.mu b e hb;rw [h1] at h2; cases h2
theorem Rel.alloc {F:Fz}{M:Hp}{w:World}(h:Rel F M w)(c:List Value)(t:TypeId) :
  Rel F (M.upd w.heap.size ⟨c,t,c.length⟩) (w.alloc (.cells c.toArray t)):=by
 have old:∀b,b < w.heap.size->(w.alloc (.cells c.toArray t)).heap[b]? = w.heap[b]?:=fun b hb=>RowKit.Below.heap_alloc _ _ _ hb
 refine ⟨fun b x hb=>?_,fun b n hb=>?_,fun b hb=>?_,fun b x hb=>?_⟩
 rotate_right
 ·obtain ⟨es,k,h1,h2⟩:=h.mp b x hb;exact ⟨es,k,by rw [old b (Array.getElem?_eq_some_iff.1 h1).1]; exact h1,h2⟩
 ·obtain ⟨cur,e,fr,h1,h2⟩:=h.fz b x hb;exact ⟨cur,e,fr,by rw [old b (Array.getElem?_eq_some_iff.1 h1).1]; exact h1,h2⟩
 ·by_cases hbs:b=w.heap.size
  ·subst hbs;simp only [Hp.qV,Option.some.injEq] at hb;subst hb;exact ⟨c.toArray,heap_alloc_new w _,by simp,by simp⟩
  ·rw [Hp.upd_ne hbs] at hb;obtain ⟨cur,h1,h2,h3⟩:=h.mu b n hb;exact ⟨cur,by rw [old b (Array.getElem?_eq_some_iff.1 h1).1]; exact h1,h2,h3⟩
 ·by_cases hbs:b=w.heap.size
  ·subst hbs; exact (h.fresh (aN _)).1
  ·rw [Hp.upd_ne hbs] at hb; exact h.ap b hb
theorem Fr.alloc {F:Fz}{M:Hp}{w:World}(e:nH)(o:Obj):Fr F M w F (M.upd w.heap.size e) (w.alloc o):=
 ⟨rfl,⟨rfl,aN _⟩,rfl,by simp,fun b hb hm hp=>⟨RowKit.Below.heap_alloc _ _ _ hb,by rw [Hp.upd_ne (Nat.ne_of_lt hb)]; exact hm,hp,id⟩⟩
theorem Rel.yWE {F:Fz}{M:Hp}{w:World}(h:Rel F M w):Rel (F.nM w.heap.size []) M (w.alloc (.map #[] 0)):=by
 have old:∀b,b < w.heap.size->(w.alloc (.map #[] 0)).heap[b]? = w.heap[b]?:=fun b hb=>RowKit.Below.heap_alloc _ _ _ hb
 refine ⟨fun b x hb=>?_,fun b n hb=>?_,h.ap,fun b x hb=>?_⟩
 ·obtain ⟨cur,e,fr,h1,h2⟩:=h.fz b x hb;exact ⟨cur,e,fr,by rw [old b (Array.getElem?_eq_some_iff.1 h1).1]; exact h1,h2⟩
 ·obtain ⟨cur,h1,h2⟩:=h.mu b n hb;exact ⟨cur,by rw [old b (Array.getElem?_eq_some_iff.1 h1).1]; exact h1,h2⟩
 ·by_cases hbs:b=w.heap.size
  ·subst hbs;simp only [Fz.nM,if_true,Option.some.injEq] at hb;subst hb;exact ⟨#[],0,heap_alloc_new w _,rfl⟩
  ·simp only [Fz.nM,hbs,if_false] at hb;obtain ⟨es,k,h1,h2⟩:=h.mp b x hb;exact ⟨es,k,by rw [old b (Array.getElem?_eq_some_iff.1 h1).1]; exact h1,h2⟩
theorem Fr.yWE {F:Fz}{M:Hp}{w:World}{l:List (Int × Value)}(o:Obj):Fr F M w (F.nM w.heap.size l) M (w.alloc o):=
 ⟨rfl,⟨rfl,aN _⟩,rfl,by simp,fun b hb hm hp=>⟨RowKit.Below.heap_alloc _ _ _ hb,hm,by simp only [Fz.nM,Nat.ne_of_lt hb,if_false]; exact hp,id⟩⟩
theorem Rel.xYG {F:Fz}{M:Hp}{w w':World}(h:Rel F M w){g:Nat}{old new:List (Int × Value)}(hm:F.mp g=some old)(hblk:∀k,k≠g->w'.heap[k]? = w.heap[k]?)
  {es:Array MapEntry} {clock:Nat} (hg:w'.heap[g]? = some (.map es clock)) (hs:jXD es new):Rel (F.nM g new) M w':=by
 obtain ⟨es0,k0,h0,_⟩:=h.mp g old hm;refine ⟨fun b x hb=>?_,fun b n hb=>?_,h.ap,fun b x hb=>?_⟩
 ·obtain ⟨cur,e,fr,h1,h2⟩:=h.fz b x hb;have hbg:b≠g:=by rintro rfl; rw [h0] at h1; cases h1
  exact ⟨cur,e,fr,by rw [hblk b hbg]; exact h1,h2⟩
 ·obtain ⟨cur,h1,h2⟩:=h.mu b n hb;have hbg:b≠g:=by rintro rfl; rw [h0] at h1; cases h1
  exact ⟨cur,by rw [hblk b hbg]; exact h1,h2⟩
 ·by_cases hbg:b=g
  ·subst hbg;simp only [Fz.nM,if_true,Option.some.injEq] at hb;subst hb;exact ⟨es,clock,hg,hs⟩
  ·simp only [Fz.nM,hbg,if_false] at hb;obtain ⟨es,k,h1,h2⟩:=h.mp b x hb;exact ⟨es,k,by rw [hblk b hbg]; exact h1,h2⟩
theorem Fr.xYG {F:Fz}{M:Hp}{w w':World}{g:Nat}{old new:List (Int × Value)}(hm:F.mp g=some old)(hblk:∀k,k≠g->w'.heap[k]? = w.heap[k]?)
  (hos:w'.os=w.os)(ht:w'.tape=w.tape/\w.drawn<=w'.drawn)(ho:w'.output=w.output)(hsz:w.heap.size<=w'.heap.size):Fr F M w (F.nM g new) M w':=
 ⟨hos,ht,ho,hsz,fun b _ hb hp=>by
  have hbg:b≠g:=by rintro rfl; rw [hm] at hp; cases hp
  exact ⟨hblk b hbg,hb,by simp only [Fz.nM,hbg,if_false]; exact hp,id⟩⟩
def Enters (P : Program) (f : FuncId) : Prop := ∃ fn, P.funcs[f]? = some fn /\ (fn.name == "runtime.NumGoroutine") = false /\ fn.body.isNone = false
def aI (P:Program)(f:FuncId)(args:List Value)(F:Fz)(M:Hp)(R:Value->Fz->Hp->Prop):Prop:=
 Enters P f/\∀w,Rel F M w->Calls P f args.toArray w fun e w'=>∃v F' M',e=.returned v/\Rel F' M' w'/\Fr F M w F' M' w'/\R v F' M'
theorem aI.mono {P:Program}{f:FuncId}{args:List Value}{F:Fz}{M:Hp}{R R':Value->Fz->Hp->Prop}(h:aI P f args F M R)
  (hr:∀v F' M',R v F' M'->R' v F' M'):aI P f args F M R':=
 ⟨h.1,fun w hw=>(h.2 w hw).mono fun _ _ ⟨v,F',M',he,h1,h2,h3⟩=>⟨v,F',M',he,h1,h2,hr _ _ _ h3⟩⟩
theorem aI.qDW {P:Program}{f:FuncId}{args:List Value}{F:Fz}{M:Hp}{R R':Value->Fz->Hp->Prop}(h:aI P f args F M R)
  (hr:∀v F' M',(∃w,Rel F' M' w)->R v F' M'->R' v F' M'):aI P f args F M R':=
 ⟨h.1,fun w hw=>(h.2 w hw).mono fun _ w' ⟨v,F',M',he,h1,h2,h3⟩=>⟨v,F',M',he,h1,h2,hr _ _ _ ⟨w',h1⟩ h3⟩⟩
def Inf (F:Fz)(M:Hp):Prop:=∀B,∃r,B<=r/\F r=none/\M r=none
theorem Rel.inf {F:Fz}{M:Hp}{w:World}(h:Rel F M w):Inf F M:=fun B=>
 ⟨max B w.heap.size,Nat.le_max_left _ _,h.fresh (Nat.le_max_right _ _)⟩
theorem Inf.upd {F:Fz}{M:Hp}(h:Inf F M)(b:Nat)(e:nH):Inf F (M.upd b e):=fun B=>by
 obtain ⟨r,h1,h2,h3⟩:=h (max B (b+1));exact ⟨r,by omega,h2,by rw [Hp.upd_ne (by omega)]; exact h3⟩
theorem aI.frame {P:Program}{f:FuncId}{args:List Value}{F:Fz}{M:Hp}{R:Value->Fz->Hp->Prop}(h:aI P f args F M R)
  {r:Nat} {e:nH} (hF:F r=none) (hM:M r=none) :
  aI P f args F (M.upd r e) (fun v F' M''=>∃M',M''=M'.upd r e/\F' r=none/\M' r=none/\R v F' M'):=by
 refine ⟨h.1,fun w hw=>?_⟩;obtain ⟨cur,hc,hp,hs⟩:=hw.mu r e (Hp.qV _ _ _);have hlt:=(Array.getElem?_eq_some_iff.1 hc).1;have hw':Rel F M w:=⟨hw.fz,fun b n hb=>hw.mu b n (by rw [Hp.upd_ne]; exact hb; rintro rfl; simp [hM] at hb),
  fun b hb=>hw.ap b (by rw [Hp.upd_ne]; exact hb; rintro rfl; exact hb hM),hw.mp⟩
 have hmp:F.mp r=none:=hw.wHX (Hp.qV _ _ _);refine (h.2 w hw').mono ?_;rintro en w' ⟨v,F',M',rfl,h1,h2,h3⟩;obtain ⟨b1,b2,b4,b3⟩:=h2.block r hlt hM hmp;refine ⟨v,F',M'.upd r e,rfl,⟨h1.fz,fun b n hb=>?_,fun b hb=>?_,h1.mp⟩,⟨h2.os,h2.tape,h2.output,h2.size,fun b hb hm hp=>?_⟩,M',rfl,b3 hF,b2,h3⟩
 ·by_cases hbr:b=r
  ·subst hbr;simp only [Hp.qV,Option.some.injEq] at hb;subst hb;exact ⟨cur,by rw [b1]; exact hc,hp,hs⟩
  ·rw [Hp.upd_ne hbr] at hb; exact h1.mu b n hb
 ·by_cases hbr:b=r
  ·subst hbr; exact b3 hF
  ·rw [Hp.upd_ne hbr] at hb; exact h1.ap b hb
 ·by_cases hbr:b=r
  ·subst hbr; simp at hm
  ·rw [Hp.upd_ne hbr] at hm ⊢; exact h2.block b hb hm hp
structure Wk (F:Fz)(M:Hp)(F':Fz)(M':Hp):Prop where
 rel:∀w,Rel F M w->Rel F' M' w
 xQC:∀b,F b=none->M b=none->F' b=none
 jXY:∀b,M b=none->M' b=none
 xQE:∀b,F.mp b=none->F'.mp b=none
theorem Wk.refl (F:Fz)(M:Hp):Wk F M F M:=⟨fun _ h=>h,fun _ h _=>h,fun _ h=>h,fun _ h=>h⟩
theorem Wk.trans {F F1 F2:Fz}{M M1 M2:Hp}(h:Wk F M F1 M1)(k:Wk F1 M1 F2 M2):Wk F M F2 M2:=
 ⟨fun w hw=>k.rel w (h.rel w hw),fun b h1 h2=>k.xQC b (h.xQC b h1 h2) (h.jXY b h2),fun b h1=>k.jXY b (h.jXY b h1),fun b h1=>k.xQE b (h.xQE b h1)⟩
theorem Wk.vDW {F:Fz}{M:Hp}{r:Nat}{l:List (Int × Value)}(h:F.mp r=none):Wk (F.nM r l) M F M:=by
 refine ⟨fun w hw=>⟨hw.fz,hw.mu,hw.ap,fun b x hb=>hw.mp b x ?_⟩,fun _ h _=>h,fun _ h=>h,fun b hb=>?_⟩
 ·have:¬b=r:=by rintro rfl; rw [h] at hb; cases hb
  simp only [Fz.nM,this,if_false]; exact hb
 ·by_cases hbr:b=r
  ·subst hbr; exact h
  ·simp only [Fz.nM,hbr,if_false] at hb; exact hb
theorem Wk.drop {F:Fz}{M:Hp}{r:Nat}{e:nH}(h:M r=none):Wk F (M.upd r e) F M:=by
 refine ⟨fun w hw=>⟨hw.fz,fun b n hb=>hw.mu b n ?_,fun b hb=>hw.ap b ?_,hw.mp⟩,fun _ h _=>h,fun b hb=>?_,fun _ h=>h⟩
 ·rw [Hp.upd_ne]; exact hb; rintro rfl; simp [h] at hb
 ·rw [Hp.upd_ne]; exact hb; rintro rfl; exact hb h
 ·by_cases hbr:b=r
  ·subst hbr; exact h
  ·rw [Hp.upd_ne hbr] at hb; exact hb
theorem aI.wk {P:Program}{f:FuncId}{args:List Value}{F:Fz}{M:Hp}{R:Value->Fz->Hp->Prop}
  (h:aI P f args F M fun v F1 M1=>∃F2 M2,Wk F1 M1 F2 M2/\R v F2 M2):aI P f args F M R:=
 ⟨h.1,fun w hw=>(h.2 w hw).mono fun _ w' ⟨v,F1,M1,he,h1,h2,F2,M2,h3,h4⟩=>
  ⟨v,F2,M2,he,h3.rel _ h1,⟨h2.os,h2.tape,h2.output,h2.size,fun b hb hm hp=>by
   obtain ⟨x,y,p,z⟩:=h2.block b hb hm hp;exact ⟨x,h3.jXY b y,h3.xQE b p,fun hf=>h3.xQC b (z hf) y⟩⟩,h4⟩⟩
end Go.Ax
namespace Go.Ax
open Go
set_option linter.unusedSimpArgs false
abbrev Env:=List (Nat × Value)
def look:Env->Nat->Option Value
 | [],_=>none
 | (k,v) :: l,t=>if k=t then some v else look l t
def ev (σ:Env):Operand->Option Value
 | .tmp t=>look σ t
 | .const v=>some v
 | .func f=>some (.func (.func f) #[] #[])
 | .global g=>some (.pointer (some ⟨g,0,none⟩))
def evs (σ:Env):List Operand->Option (List Value)
 | []=>some []
 | x :: l=>(ev σ x).bind fun v=>(evs σ l).bind fun vs=>some (v :: vs)
structure Agree (n:Nat)(σ:Env)(a:Act):Prop where
 size:a.tmps.size=n
 defers:a.defers=[]
 get:∀t v,look σ t=some v->a.tmps[t]? = some v
theorem Agree.ev {n:Nat}{σ:Env}{a:Act}(h:Agree n σ a){x:Operand}{v:Value}(hv:ev σ x=some v):a.eval x=v:=by
 cases x with
 | tmp t=>simp [Act.eval,h.get t v hv]
 | const c=>simpa [Ax.ev,Act.eval] using hv
 | func f=>simpa [Ax.ev,Act.eval] using hv
 | global g=>simpa [Ax.ev,Act.eval] using hv
theorem Agree.evs {n:Nat}{σ:Env}{a:Act}(h:Agree n σ a):∀{l:List Operand} {vs:List Value},evs σ l=some vs->l.map a.eval=vs:=by
 intro l
 induction l with
 | nil=>intro vs hv; simpa [Ax.evs] using hv
 | cons x l ih=>
  intro vs hv;simp only [Ax.evs] at hv;cases hx:Ax.ev σ x with
  | none=>simp [hx] at hv
  | some u=>
   cases hl:Ax.evs σ l with
   | none=>simp [hx,hl] at hv
   | some us=>
    simp [hx,hl] at hv;subst hv;simp [h.ev hx,ih hl]
def put (σ:Env)(d:Option Nat)(v:Value):Env:=match d with | some t=>(t,v) :: σ | none=>σ
theorem Agree.put {n:Nat}{σ:Env}{a:Act}(h:Agree n σ a){d:Option Nat}{v:Value}(hd:∀t,d=some t->t < n):Agree n (put σ d v) (a.put d v):=by
 cases d with
 | none=>exact h
 | some t=>
  refine ⟨by simp [Act.put,h.size],by simp [Act.put,h.defers],fun k u hk=>?_⟩;simp only [Ax.put,look] at hk;by_cases htk:t=k
  ·subst htk;simp at hk;subst hk;have:=hd t rfl;simp [Act.put,h.size,this]
  ·simp [htk] at hk;simp [Act.put,Array.getElem?_setIfInBounds_ne htk,h.get k u hk]
def band (k:IntKind)(a b:Int):Int:=k.wrap (BitVec.ofInt k.bits a &&& BitVec.ofInt k.bits b).toNat
def bor (k:IntKind)(a b:Int):Int:=k.wrap (BitVec.ofInt k.bits a ||| BitVec.ofInt k.bits b).toNat
def qVE (k:IntKind)(a b:Int):Int:=k.wrap (BitVec.ofInt k.bits a ^^^ BitVec.ofInt k.bits b).toNat
def uI (k:IntKind)(a b:Int):Int:=k.wrap (BitVec.ofInt k.bits a &&& ~~~BitVec.ofInt k.bits b).toNat
def qF (k:IntKind)(a b:Int):Int:=k.wrap (a * 2 ^ (min b.toNat k.bits))
def sW (k:IntKind)(a b:Int):Int:=a.fdiv (2 ^ (min b.toNat k.bits))
def xQF (o:BinOp)(x y:Value):Option Value:=
 match x,y with
 | .int k a,.int j b=>
  match o with
  | .shl=>if b < 0 then none else some (.int k (qF k a b))
  | .shr=>if b < 0 then none else some (.int k (sW k a b))
  | .add=>if k=j then some (.int k (k.wrap (a+b))) else none
  | .sub=>if k=j then some (.int k (k.wrap (a - b))) else none
  | .mul=>if k=j then some (.int k (k.wrap (a * b))) else none
  | .quo=>if k=j/\¬b=0 then some (.int k (k.wrap (a.tdiv b))) else none
  | .rem=>if k=j/\¬b=0 then some (.int k (a.tmod b)) else none
  | .and=>if k=j then some (.int k (band k a b)) else none
  | .or=>if k=j then some (.int k (bor k a b)) else none
  | .xor=>if k=j then some (.int k (qVE k a b)) else none
  | .andNot=>if k=j then some (.int k (uI k a b)) else none
  | .eql=>if k=j then some (.bool (decide (a=b))) else none
  | .neq=>if k=j then some (.bool (!decide (a=b))) else none
  | .lss=>if k=j then some (.bool (decide (a < b))) else none
  | .leq=>if k=j then some (.bool (decide (a<=b))) else none
  | .gtr=>if k=j then some (.bool (decide (b < a))) else none
  | .geq=>if k=j then some (.bool (decide (b<=a))) else none
 | _,_=>none
theorem jXA {P:Program}{w:World}{o:BinOp}{t:TypeId}{x y:Operand}{u v r:Value}(h:xQF o u v=some r) :
  ((do eqGuard o t x y u v; binOp o t u v):Sem Value).run P w=.ok r w:=by
 unfold xQF at h;split at h
 ·rename_i k a j b;have e:∀(q q':Operand),eqGuard BinOp.shl t q q' (.int k a) (.int j b)=pure ():=fun _ _=>rfl
  have e':∀(q q':Operand),eqGuard BinOp.shr t q q' (.int k a) (.int j b)=pure ():=fun _ _=>rfl
  by_cases hkj:k=j
  ·subst hkj;cases o <;> simp only [if_true,true_and,Option.some.injEq,Option.ite_none_left_eq_some,Option.ite_none_right_eq_some] at h
   case shl=>obtain ⟨h0,rfl⟩:=h; simp [go_sem,Op.shift,qF,e]; omega
   case shr=>obtain ⟨h0,rfl⟩:=h; simp [go_sem,Op.shift,sW,e']; omega
   case quo=>obtain ⟨h0,rfl⟩:=h; simp [go_sem,h0]
   case rem=>obtain ⟨h0,rfl⟩:=h; simp [go_sem,h0]
   case eql=>subst h; by_cases hab:a=b <;> simp [go_sem,hab]
   case neq=>subst h; by_cases hab:a=b <;> simp [go_sem,hab]
   all_goals (subst h; simp [go_sem,Op.intBits,band,bor,qVE,uI])
  ·cases o <;> simp only [hkj,if_false,false_and,reduceCtorEq,Option.ite_none_left_eq_some,Option.some.injEq] at h
   case shl=>obtain ⟨h0,rfl⟩:=h; simp [e,binOp,Op.shift,qF]; intro; omega
   case shr=>obtain ⟨h0,rfl⟩:=h; simp [e',binOp,Op.shift,sW]; intro; omega
 ·simp at h
def unV (o:UnOp)(x:Value):Option Value:=
 match x with
 | .int k a=>match o with
  | .neg=>some (.int k (k.wrap (0 - a)))
  | .xor=>some (.int k (qVE k (if k.signed then -1 else k.max) a))
  | _=>none
 | .bool b=>match o with
  | .not=>some (.bool (!b))
  | _=>none
 | _=>none
theorem xWQ {P:Program}{w:World}{o:UnOp}{u r:Value}(h:unV o u=some r):(Op.unary o u).run P w=.ok r w:=by
 unfold unV at h;split at h
 ·cases o <;> simp at h <;> subst h <;> simp [Op.unary,Op.intArith,Op.intBits,qVE]
 ·cases o <;> simp at h;subst h;simp [Op.unary]
 ·simp at h
def rd (agg:Bool)(n:Nat)(c:List Value)(off:Nat):Option Value:=
 match agg with
 | true=>if off+n<=c.length then some (.agg ((c.drop off).take n).toArray) else none
 | false=>c[off]?
theorem yDK {agg:Bool}{n off:Nat}{c c':List Value}{v:Value}(h:rd agg n c off=some v)(hp:c <+: c'):rd agg n c' off=some v:=by
 obtain ⟨t,rfl⟩:=hp;cases agg with
 | true=>
  simp only [rd] at h ⊢;split at h
  ·rename_i hl;simp at h;subst h;rw [if_pos (by simp; omega)];simp only [Option.some.injEq,Value.agg.injEq];rw [List.drop_append_of_le_length (by omega),List.take_append_of_le_length (by simp; omega)]
  ·simp at h
 | false=>
  simp only [rd] at h ⊢;rw [List.getElem?_append_left (List.getElem?_eq_some_iff.1 h).1];exact h
inductive EK where
 | i | b | st (fs:List (Bool × Nat × Nat × EK))
mutual
def eqV:EK->Value->Value->Option Bool
 | .i,.int k a,.int j b=>if k=j then some (decide (a=b)) else none
 | .b,.bool a,.bool b=>some (a == b)
 | .st fs,.agg xs,.agg ys=>wHZ fs xs.toList ys.toList
 | _,_,_=>none
def wHZ:List (Bool × Nat × Nat × EK)->List Value->List Value->Option Bool
 | [],_,_=>some true
 | (agg,off,n,e) :: fs,xs,ys=>match rd agg n xs off,rd agg n ys off with
  | some a,some b=>match eqV e a b,wHZ fs xs ys with
   | some r,some s=>some (r && s)
   | _,_=>none
  | _,_=>none
end
inductive PK where
 | eqs (e:EK) (neg:Bool) (x y:Operand)
 | mv (x:Operand)
 | pick (c a b:Operand)
 | bin (o:BinOp) (x y:Operand)
 | eqb (neg:Bool) (x y:Operand)
 | un (o:UnOp) (x:Operand)
 | cv (k:IntKind) (x:Operand)
 | fa (off:Nat) (x:Operand)
 | ia (es:Nat) (x i:Operand)
 | iaa (len es:Nat) (x i:Operand)
 | fd (agg:Bool) (off n:Nat) (x:Operand)
 | ix (agg:Bool) (len es:Nat) (x i:Operand)
 | ld (agg:Bool) (n:Nat) (x:Operand)
 | bd (zero:List Value) (parts:List (Nat × Nat × Operand))
 | ex (x:Operand) (i:Nat)
 | mf (fn:Fn) (first captured:List Operand)
 | sl (es:Nat) (x:Operand) (lo hi:Option Operand)
 | ln (x:Operand)
 | ls (x:Operand)
 | cc (x:Operand)
 | mx (xs:List Operand)
 | mn (xs:List Operand)
 | nc (x:Operand)
 | sn (neg:Bool) (x:Operand)
 | si (x i:Operand)
def zG:List Value->List (Nat × Nat × Value)->Option (List Value)
 | cs,[]=>some cs
 | cs,(off,n,v) :: rest=>
  if v.cells.size=n/\off+n<=cs.length then zG (cs.take off++v.cells.toList++cs.drop (off+n)) rest else none
def iW (σ:Env):List (Nat × Nat × Operand)->Option (List (Nat × Nat × Value))
 | []=>some []
 | (o,n,x) :: l=>(ev σ x).bind fun v=>(iW σ l).bind fun vs=>some ((o,n,v) :: vs)
def wJQ:Int->List Value->Option Int
 | a,[]=>some a
 | a,.int .i64 b :: l=>wJQ (if b > a then b else a) l
 | _,_=>none
def wHK:Int->List Value->Option Int
 | a,[]=>some a
 | a,.int .i64 b :: l=>wHK (if b < a then b else a) l
 | _,_=>none
def fnV:Option (List Value)->Fn->Option (List Value)->Option Value
 | some f,fn,some c=>some (.func fn f.toArray c.toArray)
 | _,_,_=>none
def PK.val (σ:Env)(F:Fz)(M:Hp):PK->Option Value
 | .mv x=>ev σ x
 | .pick c a b=>match ev σ c with
  | some (.bool t)=>if t=true then ev σ a else ev σ b
  | _=>none
 | .bin o x y=>(ev σ x).bind fun u=>(ev σ y).bind fun v=>xQF o u v
 | .eqb neg x y=>match ev σ x,ev σ y with
  | some (.bool a),some (.bool b)=>some (.bool (xor neg (a == b)))
  | _,_=>none
 | .eqs e neg x y=>match ev σ x,ev σ y with
  | some a,some b=>(eqV e a b).map fun r=>.bool (xor neg r)
  | _,_=>none
 | .un o x=>(ev σ x).bind fun u=>unV o u
 | .cv k x=>match ev σ x with
  | some (.int _ n)=>some (.int k (k.wrap n))
  | _=>none
 | .fa off x=>match ev σ x with
  | some (.pointer (some ⟨b,o,none⟩))=>some (.pointer (some ⟨b,o+off,none⟩))
  | _=>none
 | .ia es x i=>match ev σ x,ev σ i with
  | some (.slice (some ⟨b,o,none⟩) len _),some (.int _ n)=>if 0<=n/\n < len then some (.pointer (some ⟨b,o+n.toNat * es,none⟩)) else none
  | _,_=>none
 | .iaa len es x i=>match ev σ x,ev σ i with
  | some (.pointer (some ⟨b,o,none⟩)),some (.int _ n)=>if 0<=n/\n < len then some (.pointer (some ⟨b,o+n.toNat * es,none⟩)) else none
  | _,_=>none
 | .fd agg off n x=>match ev σ x with
  | some (.agg cs)=>rd agg n cs.toList off
  | _=>none
 | .ix agg len es x i=>match ev σ x,ev σ i with
  | some (.agg cs),some (.int _ n)=>if 0<=n/\n < len then rd agg es cs.toList (n.toNat * es) else none
  | _,_=>none
 | .ld agg n x=>match ev σ x with
  | some (.pointer (some ⟨b,o,none⟩))=>(blk F M b).bind fun c=>rd agg n c o
  | _=>none
 | .bd zero parts=>(iW σ parts).bind fun ps=>(zG zero ps).map fun cs=>.agg cs.toArray
 | .ex x i=>match ev σ x with
  | some (.tuple vs)=>vs[i]?
  | _=>none
 | .mf fn f c=>fnV (evs σ f) fn (evs σ c)
 | .sl es x lo hi=>match ev σ x,lo.map (ev σ),hi.map (ev σ) with
  | some (.slice a len cap),none,none=>some (.slice a len cap)
  | some (.slice a len cap),some (some (.int _ l)),none=>
   if 0<=l/\l<=len then some (.slice (if (cap:Int)=l then a else a.map (·.add (l.toNat * es))) (len - l.toNat) (cap - l.toNat)) else none
  | some (.slice a len cap),none,some (some (.int _ h))=>if 0<=h/\h<=len/\len<=cap then some (.slice a h.toNat cap) else none
  | some (.slice a len cap),some (some (.int _ l)),some (some (.int _ h))=>
   if 0<=l/\l<=h/\h<=len/\len<=cap then some (.slice (if (cap:Int)=l then a else a.map (·.add (l.toNat * es))) (h.toNat - l.toNat) (cap - l.toNat)) else none
  | _,_,_=>none
 | .ln x=>match ev σ x with
  | some (.slice _ n _)=>some (.int .i64 n)
  | _=>none
 | .ls x=>match ev σ x with
  | some (.string z)=>some (.int .i64 z.size)
  | _=>none
 | .cc x=>match ev σ x with
  | some (.slice _ _ c)=>some (.int .i64 c)
  | _=>none
 | .mx xs=>(evs σ xs).bind fun
  | .int .i64 a :: l=>(wJQ a l).map (.int .i64)
  | _=>none
 | .mn xs=>(evs σ xs).bind fun
  | .int .i64 a :: l=>(wHK a l).map (.int .i64)
  | _=>none
 | .nc x=>match ev σ x with
  | some (.pointer (some a))=>some (.pointer (some a))
  | _=>none
 | .sn neg x=>match ev σ x with
  | some (.slice a _ _)=>some (.bool (xor neg a.isNone))
  | _=>none
 | .si x i=>match ev σ x,ev σ i with
  | some (.string z),some (.int _ n)=>if 0<=n then (z[n.toNat]?).map fun b=>.int .u8 b.toNat else none
  | _,_=>none
end Go.Ax
namespace Go.Ax
open Go
def qHQ (P:Program)(t:TypeId):Option Bool:=
 match P.underlying t with
 | some (.struct _) | some (.array _ _)=>some true
 | some _=>some false
 | none=>none
def sizeT (P:Program)(t:TypeId):Option Nat:=(P.info? t).map (·.size)
def vJ (P:Program)(t:TypeId):Option (List Value):=((P.info? t).bind (·.zero)).map (·.cells.toList)
def mM (P:Program)(t:TypeId):Option TypeId:=match P.underlying t with | some (.slice e)=>some e | _=>none
def yXQ (P:Program)(t:TypeId):Option (Nat × TypeId):=match P.underlying t with | some (.array n e)=>some (n,e) | _=>none
def qXQ (P:Program)(t:TypeId)(i:Nat):Option Field:=match P.underlying t with | some (.struct fs)=>fs[i]? | _=>none
theorem qQG {P:Program}{t:TypeId}{b:Bool}(h:qHQ P t=some b)(w:World):(isAgg t).run P w=.ok b w:=by
 unfold qHQ at h;cases hd:P.underlying t with
 | none=>simp [hd] at h
 | some d=>cases d <;> simp [hd] at h <;> subst h <;> simp [isAgg,run_underlying hd]
theorem run_sizeOf {P:Program}{t:TypeId}{n:Nat}(h:sizeT P t=some n)(w:World):(sizeOf t).run P w=.ok n w:=by
 unfold sizeT at h;cases hi:P.info? t with
 | none=>simp [hi] at h
 | some i=>simp [hi] at h; subst h; simp [sizeOf,typeInfo,hi]
theorem sN {P:Program}{t:TypeId}{z:List Value}(h:vJ P t=some z)(w:World):∃v,(zeroValue t).run P w=.ok v w/\v.cells.toList=z:=by
 unfold vJ at h;cases hi:P.info? t with
 | none=>simp [hi] at h
 | some i=>
  cases hz:i.zero with
  | none=>simp [hi,hz] at h
  | some v=>simp [hi,hz] at h; exact ⟨v,by simp [zeroValue,typeInfo,hi,hz],h⟩
theorem qZW {P:Program}{t:TypeId}{b:Bool}{n off:Nat}{cs:Array Value}{v:Value}(hb:qHQ P t=some b)(hn:sizeT P t=some n)
  (h:rd b n cs.toList off=some v)(w:World):(part t cs off).run P w=.ok v w:=by
 cases b with
 | true=>
  simp only [rd] at h;split at h
  ·simp at h;subst h;simp only [part,Sem.run_bind,qQG hb,Result.andThen_ok,if_true,run_sizeOf hn,Sem.run_pure]
   congr 2
   apply Array.ext';simp []
  ·simp at h
 | false=>
  simp only [rd] at h;have h':cs[off]? = some v:=by simpa using h
  simp [part,qQG hb,h']
theorem qGA {P:Program}{t:TypeId}{b:Bool}{n:Nat}{F:Fz}{M:Hp}{w:World}(hr:Rel F M w){g o:Nat}{c:List Value}{v:Value}
  (hb:qHQ P t=some b)(hn:sizeT P t=some n)(hc:blk F M g=some c)(h:rd b n c o=some v):(loadVar t ⟨g,o,none⟩).run P w=.ok v w:=by
 cases b with
 | true=>
  simp only [rd] at h;split at h
  ·rename_i hl;simp at h;subst h;have hlen:((c.drop o).take n).length=n:=by simp; omega
   have:=run_loadCells_list (P:=P) w ⟨g,o,none⟩ ((c.drop o).take n) (fun j u hj=>by
    rw [Addr.add_lit];refine hr.cell hc ?_;rw [List.getElem?_take] at hj;split at hj
    ·rw [List.getElem?_drop] at hj; exact hj
    ·simp at hj)
   rw [hlen] at this;simp [loadVar,qQG hb,run_sizeOf hn,this]
  ·simp at h
 | false=>
  simp only [rd] at h;simp [loadVar,qQG hb,hr.cell hc h]
def yJF (P:Program)(fs:List Field):Option (List (Nat × Nat)):=fs.mapM fun f=>(P.info? f.type).map fun i=>(f.offset,i.size)
def yB (ls:List (Nat × Nat)):List (Nat × Operand)->Option (List (Nat × Nat × Operand))
 | []=>some []
 | (i,x) :: l=>match ls[i]? with
  | some (o,n)=>(yB ls l).map fun ps=>(o,n,x) :: ps
  | none=>none
def yDJ (P:Program)(rec:TypeId->Option EK):List Field->Option (List (Bool × Nat × Nat × EK))
 | []=>some []
  | f :: fs => if f.name = "_" then none else match qHQ P f.type, sizeT P f.type, rec f.type, yDJ P rec fs with
  | some b,some n,some e,some es=>some ((b,f.offset,n,e) :: es)
  | _,_,_,_=>none
def eqT (P:Program):Nat->TypeId->Option EK
 | 0,_=>none
 | d+1,t=>match P.underlying t with
  | some (.int _)=>some .i
  | some .bool=>some .b
  | some (.struct fs)=>if P.stoodInHeld t=true then none else (yDJ P (eqT P d) fs.toList).map .st
  | _=>none
def xGB (P:Program):Callee->List Operand->List TypeId->Option PK
 | .builtin .len,[x],[t]=>match P.underlying t with
  | some (.slice _)=>some (.ln x)
  | some .string=>some (.ls x)
  | _=>none
 | .builtin .cap,[x],[t]=>match P.underlying t with
  | some (.slice _)=>some (.cc x)
  | _=>none
 | .builtin .max,xs,_=>some (.mx xs)
 | .builtin .min,xs,_=>some (.mn xs)
 | _,_,_=>none
def xWW:Operand->Bool
 | .const (.slice none 0 0)=>true
 | _=>false
theorem yDG {y:Operand}(h:xWW y=true):y=.const (.slice none 0 0):=by
 unfold xWW at h;split at h
 ·rfl
 ·cases h
def qDX (P:Program):Op->Option PK
 | .move x | .assign x=>some (.mv x)
 | .pick c a b=>some (.pick c a b)
 | .binOp o t x y _=>match P.underlying t with
  | some (.int _)=>some (.bin o x y)
  | some .bool=>match o with
   | .eql=>some (.eqb false x y)
   | .neq=>some (.eqb true x y)
   | _=>none
  | some (.slice _)=>match o with
   | .eql=>if xWW y=true then some (.sn false x) else none
   | .neq=>if xWW y=true then some (.sn true x) else none
   | _=>none
  | some (.struct _)=>if P.eqGuardType P.depth t=true then none else match o with
   | .eql=>(eqT P 9 t).map fun e=>.eqs e false x y
   | .neq=>(eqT P 9 t).map fun e=>.eqs e true x y
   | _=>none
  | _=>none
 | .unOp o _ x=>some (.un o x)
 | .convert s d x=>match P.underlying s,P.underlying d with
  | some (.int _),some (.int k)=>some (.cv k x)
  | _,_=>none
 | .fieldAddr s x f=>(qXQ P s f).bind fun fd=>(sizeT P fd.type).bind fun n=>if n=0 then none else some (.fa fd.offset x)
 | .indexAddr t x i=>match mM P t with
  | some e=>(sizeT P e).map fun es=>.ia es x i
  | none=>(yXQ P t).bind fun ne=>(sizeT P ne.2).map fun es=>.iaa ne.1 es x i
 | .field t x f=>(qXQ P t f).bind fun fd=>(qHQ P fd.type).bind fun b=>(sizeT P fd.type).map fun n=>.fd b fd.offset n x
 | .index t x i=>match P.underlying t with
  | some .string=>some (.si x i)
  | _=>(yXQ P t).bind fun ne=>(qHQ P ne.2).bind fun b=>(sizeT P ne.2).map fun es=>.ix b ne.1 es x i
 | .load t a=>(qHQ P t).bind fun b=>(sizeT P t).map fun n=>.ld b n a
 | .build t parts=>(vJ P t).bind fun z=>match P.underlying t with
  | some (.struct fs)=>(yJF P fs.toList).bind fun ls=>(yB ls parts.toList).map fun ps=>.bd z ps
  | some (.array _ e)=>(sizeT P e).map fun n=>.bd z (parts.toList.map fun (i,x)=>(i * n,n,x))
  | _=>none
 | .extract x i=>some (.ex x i)
 | .makeFunc fn f c=>some (.mf fn f.toList c.toList)
 | .slice t x lo hi none=>(mM P t).bind fun e=>(sizeT P e).map fun es=>.sl es x lo hi
 | .nilCheck x=>some (.nc x)
 | .call c=>xGB P c.callee c.args.toList c.argTypes.toList
 | _=>none
theorem zM (place:Nat->Option (Nat × Nat)):∀(l:List (Nat × Value)) (ps:List (Nat × Nat × Value)) (cs:Array Value) (r:List Value),
  l.length=ps.length->(∀(j i:Nat) (v:Value),l[j]? = some (i,v)->∃o n,place i=some (o,n)/\ps[j]? = some (o,n,v))->zG cs.toList ps=some r->
  Instr.fill place cs l=some r.toArray:=by
 intro l
 induction l with
 | nil=>
  intro ps cs r hl _ h;cases ps with
  | nil=>simp [zG] at h; subst h; simp [Instr.fill]
  | cons p ps=>simp at hl
 | cons x l ih=>
  intro ps cs r hl hp h;cases ps with
  | nil=>simp at hl
  | cons p ps=>
   obtain ⟨i,v⟩:=x;obtain ⟨o,n,hpl,hpe⟩:=hp 0 i v (by simp);simp at hpe;subst hpe;simp only [zG] at h;split at h
   ·rename_i hc;obtain ⟨hv,hlen⟩:=hc;have hb:(v.cells.size≠n || decide (o+v.cells.size > cs.size))=false:=by
     simp at hlen; simp [hv]; omega
    simp only [Instr.fill,hpl];rw [hb];simp only [Bool.false_eq_true,if_false];refine ih ps _ r (by simpa using hl) (fun j k u hj=>hp (j+1) k u (by simpa using hj)) ?_;rw [<-h]
    congr 1
    have key:∀(us:List Value) (m:Nat) (ds:Array Value),o+m+us.length<=ds.size->
      ((us.zipIdx m).foldl (fun cs (c,j)=>cs.setIfInBounds (o+j) c) ds).toList=ds.toList.take (o+m)++us++ds.toList.drop (o+m+us.length):=by
     intro us
     induction us with
     | nil=>intro m ds _; simp
     | cons u us ihu=>
      intro m ds hds;simp only [fF] at hds;simp only [List.zipIdx_cons,List.foldl_cons];rw [ihu (m+1) _ (by simp; omega)];simp only [Array.toList_setIfInBounds,fF];have e1:(ds.toList.set (o+m) u).take (o+(m+1))=ds.toList.take (o+m)++[u]:=by
       rw [show o+(m+1)=(o+m)+1 by omega,List.take_add_one,List.getElem?_set_self (by simp; omega),List.take_set_of_le (by omega)];rfl
      have e2:(ds.toList.set (o+m) u).drop (o+(m+1)+us.length)=ds.toList.drop (o+m+(us.length+1)):=by
       rw [List.drop_set_of_lt (by omega)]
       congr 1
       omega
      rw [e1,e2];simp
    have:=key v.cells.toList 0 cs (by simp at hlen; simp [hv]; omega);simp only [aK,Array.length_toList,hv] at this;rw [<-Array.foldl_toList,Array.toList_zipIdx];exact this
   ·simp at h
end Go.Ax
namespace Go.Ax
open Go
set_option linter.unusedSimpArgs false
theorem wHJ {ls:List (Nat × Nat)}:∀{l:List (Nat × Operand)} {ps:List (Nat × Nat × Operand)},yB ls l=some ps->
  ps.length=l.length/\∀(j i:Nat) (x:Operand),l[j]? = some (i,x)->∃o n,ls[i]? = some (o,n)/\ps[j]? = some (o,n,x):=by
 intro l
 induction l with
 | nil=>intro ps h; simp [yB] at h; subst h; simp
 | cons y l ih=>
  intro ps h;obtain ⟨i,x⟩:=y;simp only [yB] at h;cases hf:ls[i]? with
  | none=>simp [hf] at h
  | some p=>
   obtain ⟨o,n⟩:=p;cases hp:yB ls l with
   | none=>simp [hf,hp] at h
   | some qs=>
    simp [hf,hp] at h;subst h;obtain ⟨h1,h2⟩:=ih hp;refine ⟨by simp [h1],fun j k u hj=>?_⟩;cases j with
    | zero=>simp at hj; obtain ⟨rfl,rfl⟩:=hj; exact ⟨o,n,hf,by simp⟩
    | succ j=>simpa using h2 j k u (by simpa using hj)
theorem zN {n:Nat}{σ:Env}{a:Act}(ha:Agree n σ a):∀{l:List (Nat × Nat × Operand)} {ps:List (Nat × Nat × Value)},iW σ l=some ps->
  ps.length=l.length/\∀(j o m:Nat) (x:Operand),l[j]? = some (o,m,x)->ps[j]? = some (o,m,a.eval x):=by
 intro l
 induction l with
 | nil=>intro ps h; simp [iW] at h; subst h; simp
 | cons y l ih=>
  intro ps h;obtain ⟨o,m,x⟩:=y;simp only [iW] at h;cases hx:ev σ x with
  | none=>simp [hx] at h
  | some v=>
   cases hp:iW σ l with
   | none=>simp [hx,hp] at h
   | some qs=>
    simp [hx,hp] at h;subst h;obtain ⟨h1,h2⟩:=ih hp;refine ⟨by simp [h1],fun j o' m' u hj=>?_⟩;cases j with
    | zero=>simp at hj; obtain ⟨rfl,rfl,rfl⟩:=hj; simp [ha.ev hx]
    | succ j=>simpa using h2 j o' m' u (by simpa using hj)
theorem yDV {P:Program}{w:World}:∀{l:List Value} {a m:Int},wJQ a l=some m->(l.foldlM Builtin.max2 (.int .i64 a)).run P w=.ok (.int .i64 m) w:=by
 intro l
 induction l with
 | nil=>intro a m h; simp [wJQ] at h; subst h; simp
 | cons v l ih=>
  intro a m h;cases v with
  | int k b=>
   cases k with
   | i64=>simp only [wJQ] at h; simp [Builtin.max2,ih h]
   | _=>simp [wJQ] at h
  | _=>simp [wJQ] at h
theorem yDH {P:Program}{w:World}:∀{l:List Value} {a m:Int},wHK a l=some m->(l.foldlM Builtin.min2 (.int .i64 a)).run P w=.ok (.int .i64 m) w:=by
 intro l
 induction l with
 | nil=>intro a m h; simp [wHK] at h; subst h; simp
 | cons v l ih=>
  intro a m h;cases v with
  | int k b=>
   cases k with
   | i64=>simp only [wHK] at h; simp [Builtin.min2,ih h]
   | _=>simp [wHK] at h
  | _=>simp [wHK] at h
theorem wHG {P:Program}{s f:Nat}{fd:Field}{n b o:Nat}(hf:qXQ P s f=some fd)(hn:sizeT P fd.type=some n)(h0:¬n=0)(w:World) :
  (Instr.fieldAt s (.pointer (some ⟨b,o,none⟩)) f).run P w=.ok (.pointer (some ⟨b,o+fd.offset,none⟩)) w:=by
 unfold qXQ at hf;cases hd:P.underlying s with
 | none=>simp [hd] at hf
 | some d=>
  cases d <;> simp [hd] at hf;rename_i fs;simp [Instr.fieldAt,run_underlying hd,hf,Instr.sureAddr,fieldPlace,run_sizeOf hn,h0,Addr.add_lit]
theorem jF {P:Program}{t e:TypeId}(h:mM P t=some e):P.underlying t=some (.slice e):=by
 unfold mM at h;split at h
 ·simp at h; subst h; assumption
 ·simp at h
theorem wXC {P:Program}{t:TypeId}{p:Nat × TypeId}(h:yXQ P t=some p):P.underlying t=some (.array p.1 p.2):=by
 unfold yXQ at h;split at h
 ·simp at h; subst h; assumption
 ·simp at h
theorem yXW {P:Program}(w:World){rec:TypeId->Option EK}{D:Nat}
  (ih:∀{t:TypeId} {e:EK} {x y:Value} {r:Bool},rec t=some e->eqV e x y=some r->(Op.equalIn D t x y).run P w=.ok r w){xs ys:Array Value} :
  ∀{fs:List Field} {es:List (Bool × Nat × Nat × EK)} {r:Bool},yDJ P rec fs=some es->wHZ es xs.toList ys.toList=some r->(Op.eqFields D xs ys fs).run P w=.ok r w:=by
 intro fs
 induction fs with
 | nil=>
  intro es r he hv;simp [yDJ] at he; subst he;simp [wHZ] at hv; subst hv;simp [Op.eqFields]
 | cons f fs ihf=>
  intro es r he hv;rw [yDJ] at he;split at he
  ·simp at he
  ·rename_i hn;split at he
   ·rename_i b m e rest h1 h2 h3 h4;simp at he; subst he;rw [wHZ] at hv;split at hv
    ·rename_i u v hu hv';split at hv
     ·rename_i q s hq hs;simp at hv; subst hv;simp only [Op.eqFields,ne_eq,hn,not_false_eq_true,if_true,Sem.run_bind,qZW h1 h2 hu,qZW h1 h2 hv',Result.andThen_ok,ih h3 hq];cases q
      ·simp
      ·simp [ihf h4 hs]
     ·simp at hv
    ·simp at hv
   ·simp at he
theorem yDD {P:Program}(w:World):∀(d:Nat) {D:Nat} {t:TypeId} {e:EK} {x y:Value} {r:Bool},d<=D->eqT P d t=some e->eqV e x y=some r->(Op.equalIn D t x y).run P w=.ok r w:=by
 intro d
 induction d with
 | zero=>intro D t e x y r _ h; simp [eqT] at h
 | succ d ih=>
  intro D t e x y r hd he hv;obtain ⟨D,rfl⟩:∃k,D=k+1:=⟨D - 1,by omega⟩
  rw [eqT] at he;split at he
  ·rename_i k hu;simp at he; subst he;cases x <;> first | (simp only [eqV,reduceCtorEq] at hv; done) | skip;cases y <;> first | (simp only [eqV,reduceCtorEq] at hv; done) | skip;simp [eqV] at hv;obtain ⟨rfl,rfl⟩:=hv;rw [run_equalIn_int w D t _ k _ _ hu]
   congr 1
  ·rename_i hu;simp at he; subst he;cases x <;> first | (simp only [eqV,reduceCtorEq] at hv; done) | skip;cases y <;> first | (simp only [eqV,reduceCtorEq] at hv; done) | skip;simp [eqV] at hv;subst hv;rw [run_equalIn_bool w D t _ _ hu]
  ·rename_i fs hu;split at he
   ·simp at he
   ·rename_i hp;cases hes:yDJ P (eqT P d) fs.toList with
    | none=>simp [hes] at he
    | some es=>
     simp [hes] at he; subst he;cases x <;> first | (simp only [eqV,reduceCtorEq] at hv; done) | skip;cases y <;> first | (simp only [eqV,reduceCtorEq] at hv; done) | skip;simp only [eqV] at hv;rename_i xs ys;have hf:P.fieldsOf t=fs:=by simp [Program.fieldsOf,hu]
     rw [run_equalIn_struct w D t xs ys (by rw [hf]; exact hu) (by simpa using hp),hf];exact yXW w (fun h1 h2=>ih (by omega) h1 h2) hes hv
  ·simp at he
section
variable {P:Program} {n:Nat} {σ:Env} {a:Act} {F:Fz} {M:Hp} {w:World} {v:Value}
theorem wJW {t e:TypeId}{es:Nat}{x:Operand}{lo hi:Option Operand}(ha:Agree n σ a)(he:mM P t=some e)(hs:sizeT P e=some es)
  (hv:(PK.sl es x lo hi).val σ F M=some v):(Instr.sliceAt t (a.eval x) (lo.map a.eval) (hi.map a.eval) none).run P w=.ok v w:=by
 have hu:=jF he;simp only [PK.val] at hv;cases hx:ev σ x with
 | none=>simp [hx] at hv
 | some xv=>
  rw [hx] at hv;have hsl:∃ad len cap,xv=.slice ad len cap:=by
   cases xv <;> first | exact ⟨_,_,_,rfl⟩ | (simp at hv; done)
  obtain ⟨ad,len,cap,rfl⟩:=hsl;rw [ha.ev hx];cases lo with
  | none=>
   cases hi with
   | none=>
    simp at hv; subst hv;simp [Instr.sliceAt,Instr.slice,Instr.sliceBounds,run_underlying hu,run_sizeOf hs];cases ad <;> simp [Addr.add]
   | some h=>
    cases hh:ev σ h with
    | none=>simp [hh] at hv
    | some hv'=>
     cases hv' <;> simp [hh] at hv;rename_i k i;obtain ⟨⟨h1,h2,h3⟩,rfl⟩:=hv;simp [ha.ev hh,Instr.sliceAt,Instr.slice,Instr.sliceBounds,Instr.sliceBound,asIntOf,run_underlying hu,run_sizeOf hs,h1,show i<=(cap:Int) by omega];cases ad <;> simp [Addr.add]
  | some l=>
   cases hl:ev σ l with
   | none=>cases hi <;> simp [hl] at hv
   | some lv=>
    cases hi with
    | none=>
     cases lv <;> first | (simp [hl] at hv; done) | skip;rename_i k i;simp [hl] at hv;obtain ⟨⟨h1,h2⟩,rfl⟩:=hv;obtain ⟨i,rfl⟩:=aG h1;have h2':i<=len:=by omega
     simp [ha.ev hl,Instr.sliceAt,Instr.slice,Instr.sliceBounds,Instr.sliceBound,asIntOf,run_underlying hu,run_sizeOf hs,h2',Int.ofNat_inj]
    | some h=>
     cases hh:ev σ h with
     | none=>cases lv <;> simp [hl,hh] at hv
     | some hv'=>
      cases lv <;> first | (simp [hl,hh] at hv; done) | skip;cases hv' <;> first | (simp [hl,hh] at hv; done) | skip;rename_i k i k' j;simp [hl,hh] at hv;obtain ⟨⟨h1,h2,h3,h4⟩,rfl⟩:=hv;obtain ⟨i,rfl⟩:=aG h1;obtain ⟨j,rfl⟩:=aG (Int.le_trans h1 h2);have h2':i<=j:=by omega
      have h3':j<=cap:=by omega
      simp [ha.ev hl,ha.ev hh,Instr.sliceAt,Instr.slice,Instr.sliceBounds,Instr.sliceBound,asIntOf,run_underlying hu,run_sizeOf hs,h2',h3',Int.ofNat_inj]
end
end Go.Ax
namespace Go.Ax
open Go
set_option linter.unusedSimpArgs false
section
variable {P:Program} {n:Nat} {σ:Env} {a:Act} {F:Fz} {M:Hp} {w:World} {v:Value}
theorem yXX {t e:TypeId}{es:Nat}{b o len cap:Nat}{k:IntKind}{i:Int}(he:mM P t=some e)(hs:sizeT P e=some es)(h:0<=i/\i < len) :
  (Instr.indexAt t (.slice (some ⟨b,o,none⟩) len cap) (.int k i)).run P w=.ok (.pointer (some ⟨b,o+i.toNat * es,none⟩)) w:=by
 simp [Instr.indexAt,asIntOf,run_underlying (jF he),run_sizeOf hs,h,Addr.add_lit]
theorem yXZ {t e:TypeId}{m es:Nat}{b o:Nat}{k:IntKind}{i:Int}(he:yXQ P t=some (m,e))(hs:sizeT P e=some es)(h:0<=i/\i < m) :
  (Instr.indexAt t (.pointer (some ⟨b,o,none⟩)) (.int k i)).run P w=.ok (.pointer (some ⟨b,o+i.toNat * es,none⟩)) w:=by
 simp [Instr.indexAt,asIntOf,run_underlying (wXC he),Instr.sureAddr,run_sizeOf hs,h,Addr.add_lit]
theorem wJX {t:TypeId}{parts:Array (Nat × Operand)}{q:PK}(ha:Agree n σ a)(hq:qDX P (.build t parts)=some q)(hv:q.val σ F M=some v) :
  (Instr.build t (parts.map fun (i,x)=>(i,a.eval x))).run P w=.ok v w:=by
 simp only [qDX] at hq;cases hz:vJ P t with
 | none=>simp [hz] at hq
 | some z=>
  obtain ⟨zv,hzr,hzc⟩:=sN hz w;have vDX:zv.cells=z.toArray:=by rw [<-hzc]
  rw [hz] at hq;simp only [bY] at hq;split at hq
  ·rename_i fs hd;cases hl:yJF P fs.toList with
   | none=>simp [hl] at hq
   | some ls=>
    cases hp:yB ls parts.toList with
    | none=>simp [hl,hp] at hq
    | some ps=>
     simp [hl,hp] at hq;subst hq;obtain ⟨h1,h2⟩:=wHJ hp;simp only [PK.val] at hv;cases hpv:iW σ ps with
     | none=>simp [hpv] at hv
     | some pv=>
      obtain ⟨h3,h4⟩:=zN ha hpv;cases hf:zG z pv with
      | none=>simp [hpv,hf] at hv
      | some cs=>
       simp [hpv,hf] at hv;subst hv;have hpl:(fs.mapM fun f=>(do pure (f.offset,<-sizeOf f.type):Sem (Nat × Nat))).run P w=.ok ls.toArray w:=by
        have:=run_places (P:=P) w fs.toList ls hl;rw [Array.mapM_eq_mapM_toList];simp only [bind_pure_comp,Sem.run_map,this,Result.andThen_ok]
       have:=zM (ls.toArray[·]?) (parts.toList.map fun (i,x)=>(i,a.eval x)) pv z.toArray cs (by simp [h3,h1])
        (fun j i u hj=>by
         rw [List.getElem?_map] at hj;cases hj':parts.toList[j]? with
         | none=>rw [hj'] at hj; simp at hj
         | some y=>
          obtain ⟨i',x⟩:=y;rw [hj'] at hj;simp at hj;obtain ⟨rfl,rfl⟩:=hj;obtain ⟨o,m,h5,h6⟩:=h2 j i' x hj';exact ⟨o,m,by simpa using h5,h4 j o m x h6⟩) (by simpa using hf)
       simp only [Instr.build,Sem.run_bind,hzr,Result.andThen_ok,vDX,run_underlying hd];rw [hpl];simp only [Result.andThen_ok,Array.toList_map,this,Sem.run_pure]
  ·rename_i m e hd;cases hs:sizeT P e with
   | none=>simp [hs] at hq
   | some es=>
    simp [hs] at hq;subst hq;simp only [PK.val] at hv;cases hpv:iW σ (parts.toList.map fun (i,x)=>(i * es,es,x)) with
    | none=>simp [hpv] at hv
    | some pv=>
     obtain ⟨h3,h4⟩:=zN ha hpv;cases hf:zG z pv with
     | none=>simp [hpv,hf] at hv
     | some cs=>
      simp [hpv,hf] at hv;subst hv;have:=zM (fun i=>some (i * es,es)) (parts.toList.map fun (i,x)=>(i,a.eval x)) pv z.toArray cs (by simp [h3])
       (fun j i u hj=>by
        rw [List.getElem?_map] at hj;cases hj':parts.toList[j]? with
        | none=>rw [hj'] at hj; simp at hj
        | some y=>
         obtain ⟨i',x⟩:=y;rw [hj'] at hj;simp at hj;obtain ⟨rfl,rfl⟩:=hj;exact ⟨_,_,rfl,h4 j (i' * es) es x (by rw [List.getElem?_map,hj']; rfl)⟩) (by simpa using hf)
      simp [Instr.build,hzr,vDX,run_underlying hd,run_sizeOf hs,Array.toList_map,this]
  ·simp at hq
theorem vK (ha:Agree n σ a){f:Array Operand}{vs:List Value}(h:evs σ f.toList=some vs):f.map a.eval=vs.toArray:=by
 rw [<-ha.evs h,<-Array.toList_map,Array.toArray_toList]
theorem wJZ {t:TypeId}{x y:Bool}(h:P.underlying t=some .bool):(binOp .eql t (.bool x) (.bool y)).run P w=.ok (.bool (x == y)) w:=by
 simp only [binOp,Sem.run_bind,run_equal_bool w _ _ _ h,Result.andThen_ok,Sem.run_pure]
theorem wJK {t:TypeId}{x y:Bool}(h:P.underlying t=some .bool):(binOp .neq t (.bool x) (.bool y)).run P w=.ok (.bool (!(x == y))) w:=by
 simp only [binOp,Sem.run_bind,run_equal_bool w _ _ _ h,Result.andThen_ok,Sem.run_pure]
theorem qZX (d:Nat){t et:TypeId}{ad:Option Addr}{m c:Nat}(h:P.underlying t=some (.slice et)):(Op.equalIn (d+1) t (.slice ad m c) (.slice none 0 0)).run P w=.ok ad.isNone w:=by
 cases ad <;> simp [Op.equalIn,run_underlying h]
theorem wXG {t et:TypeId}{ad:Option Addr}{m c:Nat}(h:P.underlying t=some (.slice et)):(binOp .eql t (.slice ad m c) (.slice none 0 0)).run P w=.ok (.bool ad.isNone) w:=by
 have:(Op.equal t (.slice ad m c) (.slice none 0 0)).run P w=.ok ad.isNone w:=qZX 9999 h;simp only [binOp,Sem.run_bind,this,Result.andThen_ok,Sem.run_pure]
theorem wXV {t et:TypeId}{ad:Option Addr}{m c:Nat}(h:P.underlying t=some (.slice et)):(binOp .neq t (.slice ad m c) (.slice none 0 0)).run P w=.ok (.bool (!ad.isNone)) w:=by
 have:(Op.equal t (.slice ad m c) (.slice none 0 0)).run P w=.ok ad.isNone w:=qZX 9999 h;simp only [binOp,Sem.run_bind,this,Result.andThen_ok,Sem.run_pure]
theorem yDY {o:Oper}{q:PK}(ha:Agree n σ a)(hr:Rel F M w)(hq:qDX P o.op=some q)(hv:q.val σ F M=some v) :
  (execOp a.eval o).run P w=.ok (.value v) w:=by
 obtain ⟨dst,op,type,pos,after,guard⟩:=o;simp only at hq;unfold execOp;simp only;cases op <;> dsimp only <;> simp only [qDX,reduceCtorEq] at hq
 case move x=>simp at hq; subst hq; simp [ha.ev (x:=x) hv]
 case assign x=>simp at hq; subst hq; simp [ha.ev (x:=x) hv]
 case pick c x y=>
  simp at hq; subst hq;simp only [PK.val] at hv;split at hv
  ·rename_i t ht;cases t <;> simp at hv <;> simp [ha.ev ht,asBool,ha.ev hv]
  ·simp at hv
 case binOp bo t x y yt=>
  split at hq
  ·simp at hq; subst hq;simp only [PK.val] at hv;cases hx:ev σ x with
   | none=>simp [hx] at hv
   | some u=>
    cases hy:ev σ y with
    | none=>simp [hx,hy] at hv
    | some z=>
     simp [hx,hy] at hv;have:=jXA (P:=P) (w:=w) (t:=t) (x:=x) (y:=y) hv;rw [ha.ev hx,ha.ev hy,Sem.run_bind,this];rfl
  ·rename_i hd;cases bo <;> simp at hq
   all_goals
    subst hq;simp only [PK.val] at hv;split at hv
    ·rename_i hx hy;simp at hv; subst hv;rw [ha.ev hx,ha.ev hy];simp only [eqGuard_at_bool,Sem.run_bind,Sem.run_pure,Result.andThen_ok,wJZ hd,wJK hd]
    ·simp at hv
  ·rename_i et hd;have key:∀{neg:Bool},PK.val σ F M (.sn neg x)=some v->∃ad n c,a.eval x=.slice ad n c/\v=.bool (xor neg ad.isNone):=by
    intro neg hv;simp only [PK.val] at hv;split at hv
    ·rename_i ad n' c hx;simp at hv; subst hv;exact ⟨ad,n',c,ha.ev hx,rfl⟩
    ·simp at hv
   cases bo <;> simp at hq
   all_goals
    obtain ⟨hy,hq⟩:=hq;subst hq;obtain rfl:=yDG hy;obtain ⟨ad,n',c,hx,rfl⟩:=key hv;have ec:a.eval (.const (.slice none 0 0))=.slice none 0 0:=rfl;rw [hx,ec];simp only [eqGuard_at_slice,Sem.run_bind,Sem.run_pure,Result.andThen_ok,wXG hd,wXV hd,Bool.false_xor,Bool.true_xor]
  ·rename_i fs hst;split at hq
   ·simp at hq
   ·rename_i hg;cases bo <;> simp at hq
    all_goals
     obtain ⟨e,he,rfl⟩:=hq;simp only [PK.val] at hv;split at hv
     ·rename_i u z hx hy;cases hr':eqV e u z with
      | none=>simp [hr'] at hv
      | some r=>
       simp [hr'] at hv; subst hv;rw [ha.ev hx,ha.ev hy];have hag:∃xs ys,u=.agg xs/\z=.agg ys:=by
        rw [eqT,hst] at he;simp at he;obtain ⟨_,es,_,rfl⟩:=he;cases u <;> cases z <;> first | exact ⟨_,_,rfl,rfl⟩ | (simp [eqV] at hr'; done)
       obtain ⟨xs,ys,rfl,rfl⟩:=hag;have hg':P.eqGuardType P.depth t=false:=by simpa using hg
       have:=yDD (P:=P) w 9 (D:=10000) (by omega) he hr';simp only [Sem.run_bind,run_eqGuard_agg w _ t x y xs ys hg',Result.andThen_ok,run_eql_struct,run_neq_struct,this,Sem.run_pure]
     ·simp at hv
  ·simp at hq
 case unOp uo t x=>
  simp at hq; subst hq;simp only [PK.val] at hv;cases hx:ev σ x with
  | none=>simp [hx] at hv
  | some u=>simp [hx] at hv; simp [ha.ev hx,xWQ hv]
 case convert s d x=>
  split at hq
  ·rename_i k1 k2 h1 h2;simp at hq; subst hq;simp only [PK.val] at hv;split at hv
   ·rename_i k m hx;simp at hv; subst hv;rw [ha.ev hx];simp [convert,run_underlying h1,run_underlying h2,Conv.intToInt]
   ·simp at hv
  ·simp at hq
 case fieldAddr s x f=>
  cases hf:qXQ P s f with
  | none=>simp [hf] at hq
  | some fd=>
   cases hn:sizeT P fd.type with
   | none=>simp [hf,hn] at hq
   | some m=>
    simp [hf,hn] at hq;obtain ⟨h0,rfl⟩:=hq;simp only [PK.val] at hv;split at hv
    ·rename_i b o hx;simp at hv; subst hv;rw [ha.ev hx];simp [wHG hf hn h0]
    ·simp at hv
 case indexAddr t x i=>
  split at hq
  ·rename_i e he;cases hs:sizeT P e with
   | none=>simp [hs] at hq
   | some es=>
    simp [hs] at hq; subst hq;simp only [PK.val] at hv;split at hv
    ·rename_i b o len cap k m hx hi;split at hv
     ·rename_i hb;simp at hv; subst hv;rw [ha.ev hx,ha.ev hi];simp [yXX he hs hb]
     ·simp at hv
    ·simp at hv
  ·cases he:yXQ P t with
   | none=>simp [he] at hq
   | some p=>
    obtain ⟨m,e⟩:=p;cases hs:sizeT P e with
    | none=>simp [he,hs] at hq
    | some es=>
     simp [he,hs] at hq; subst hq;simp only [PK.val] at hv;split at hv
     ·rename_i b o k j hx hi;split at hv
      ·rename_i hb;simp at hv; subst hv;rw [ha.ev hx,ha.ev hi];simp [yXZ he hs hb]
      ·simp at hv
     ·simp at hv
 case field t x f=>
  cases hf:qXQ P t f with
  | none=>simp [hf] at hq
  | some fd=>
   cases hb:qHQ P fd.type with
   | none=>simp [hf,hb] at hq
   | some b=>
    cases hn:sizeT P fd.type with
    | none=>simp [hf,hb,hn] at hq
    | some m=>
     simp [hf,hb,hn] at hq; subst hq;simp only [PK.val] at hv;split at hv
     ·rename_i cs hx;rw [ha.ev hx];have hd:∃fs,P.underlying t=some (.struct fs)/\fs[f]? = some fd:=by
       unfold qXQ at hf;split at hf
       ·exact ⟨_,by assumption,hf⟩
       ·simp at hf
      obtain ⟨fs,hd,hfs⟩:=hd;simp [Instr.field,run_underlying hd,hfs,asAgg,qZW hb hn hv]
     ·simp at hv
 case index t x i=>
  split at hq
  ·rename_i hd;simp at hq; subst hq;simp only [PK.val] at hv;split at hv
   ·rename_i z k j hx hi;split at hv
    ·rename_i h0;cases hz:z[j.toNat]? with
     | none=>simp [hz] at hv
     | some b=>
      simp [hz] at hv; subst hv;rw [ha.ev hx,ha.ev hi];simp [Instr.index,asIntOf,run_underlying hd,h0,hz]
    ·simp at hv
   ·simp at hv
  rename_i hnd;cases he:yXQ P t with
  | none=>simp [he] at hq
  | some p=>
   obtain ⟨m,e⟩:=p;cases hb:qHQ P e with
   | none=>simp [he,hb] at hq
   | some b=>
    cases hs:sizeT P e with
    | none=>simp [he,hb,hs] at hq
    | some es=>
     simp [he,hb,hs] at hq; subst hq;simp only [PK.val] at hv;split at hv
     ·rename_i cs k j hx hi;split at hv
      ·rename_i hbd;rw [ha.ev hx,ha.ev hi];simp [Instr.index,asIntOf,run_underlying (wXC he),hbd,run_sizeOf hs,qZW hb hs hv]
      ·simp at hv
     ·simp at hv
 case load t x=>
  cases hb:qHQ P t with
  | none=>simp [hb] at hq
  | some b=>
   cases hn:sizeT P t with
   | none=>simp [hb,hn] at hq
   | some m=>
    simp [hb,hn] at hq; subst hq;simp only [PK.val] at hv;split at hv
    ·rename_i g o hx;cases hc:blk F M g with
     | none=>simp [hc] at hv
     | some c=>
      simp [hc] at hv;rw [ha.ev hx];simp [Instr.loadAt,Instr.sureAddr,qGA hr hb hn hc hv]
    ·simp at hv
 case build t parts=>simp [wJX (t:=t) (parts:=parts) (w:=w) ha (by simpa only [qDX] using hq) hv]
 case extract x i=>
  simp at hq; subst hq;simp only [PK.val] at hv;split at hv
  ·rename_i vs hx;rw [ha.ev hx];simp [Instr.extract,hv]
  ·simp at hv
 case makeFunc fn f c=>
  simp at hq; subst hq;simp only [PK.val] at hv;cases hf:evs σ f.toList with
  | none=>simp [hf,fnV] at hv
  | some fv=>
   cases hc:evs σ c.toList with
   | none=>simp [hf,hc,fnV] at hv
   | some cv=>
    simp [hf,hc,fnV] at hv; subst hv;have e1:f.map a.eval=fv.toArray:=vK ha hf;have e2:c.map a.eval=cv.toArray:=vK ha hc;simp [Instr.makeFunc,e1,e2]
 case slice t x lo hi mx=>
  cases mx with
  | some _=>simp at hq
  | none=>
   simp only at hq;cases he:mM P t with
   | none=>simp [he] at hq
   | some e=>
    cases hs:sizeT P e with
    | none=>simp [he,hs] at hq
    | some es=>
     simp [he,hs] at hq; subst hq;have:=wJW (w:=w) ha he hs hv;simp [this]
 case nilCheck x=>
  simp at hq; subst hq;simp only [PK.val] at hv;split at hv
  ·rename_i ad hx;simp at hv; subst hv;rw [ha.ev hx];simp
  ·simp at hv
 case call c=>
  obtain ⟨callee,args,argTypes⟩:=c;simp only at hq;unfold xGB at hq;split at hq
  ·rename_i x t h1 h2;obtain rfl:args = #[x]:=by rw [<-Array.toArray_toList (xs:=args),h1]
   obtain rfl:argTypes = #[t]:=by rw [<-Array.toArray_toList (xs:=argTypes),h2]
   split at hq
   ·rename_i e he;simp at hq; subst hq;simp only [PK.val] at hv;split at hv
    ·rename_i ad m cap hx;simp at hv; subst hv;simp [resolve,invoke,builtin,ha.ev hx,Builtin.len_,run_underlying he,goInt]
    ·simp at hv
   ·rename_i he;simp at hq; subst hq;simp only [PK.val] at hv;split at hv
    ·rename_i z hx;simp at hv; subst hv;simp [resolve,invoke,builtin,ha.ev hx,Builtin.len_,run_underlying he,goInt]
    ·simp at hv
   ·simp at hq
  ·rename_i x t h1 h2;obtain rfl:args = #[x]:=by rw [<-Array.toArray_toList (xs:=args),h1]
   obtain rfl:argTypes = #[t]:=by rw [<-Array.toArray_toList (xs:=argTypes),h2]
   split at hq
   ·rename_i e he;simp at hq; subst hq;simp only [PK.val] at hv;split at hv
    ·rename_i ad m cap hx;simp at hv; subst hv;simp [resolve,invoke,builtin,ha.ev hx,Builtin.cap_,run_underlying he,goInt]
    ·simp at hv
   ·simp at hq
  ·simp at hq; subst hq;simp only [PK.val] at hv;cases hx:evs σ args.toList with
   | none=>simp [hx] at hv
   | some vs=>
    rw [hx] at hv;have e1:args.map a.eval=vs.toArray:=vK ha hx;simp only [resolve,invoke,builtin,e1,Builtin.max_,Sem.run_bind,Sem.run_pure,Result.andThen_ok];simp only [bY] at hv;split at hv
    ·rename_i b l;cases hm:wJQ b l with
     | none=>simp [hm] at hv
     | some m=>simp [hm] at hv; subst hv; simp [yDV hm]
    ·simp at hv
  ·simp at hq; subst hq;simp only [PK.val] at hv;cases hx:evs σ args.toList with
   | none=>simp [hx] at hv
   | some vs=>
    rw [hx] at hv;have e1:args.map a.eval=vs.toArray:=vK ha hx;simp only [resolve,invoke,builtin,e1,Builtin.min_,Sem.run_bind,Sem.run_pure,Result.andThen_ok];simp only [bY] at hv;split at hv
    ·rename_i b l;cases hm:wHK b l with
     | none=>simp [hm] at hv
     | some m=>simp [hm] at hv; subst hv; simp [yDH hm]
    ·simp at hv
  ·simp at hq
end
end Go.Ax
namespace Go.Ax
open Go
def Env.le (σ σ':Env):Prop:=∀t v,look σ t=some v->look σ' t=some v
theorem Agree.mono {n:Nat}{σ σ':Env}{a:Act}(h:Agree n σ' a)(hl:Env.le σ σ'):Agree n σ a:=⟨h.size,h.defers,fun t v ht=>h.get t v (hl t v ht)⟩
def Own (M:Hp)(e es:Nat)(v:Value)(n:Nat)(xs:List Value):Prop:=
 xs.length=n * es/\((v=.slice none 0 0/\n=0)\/∃g cap,v=.slice (some ⟨g,0,none⟩) n cap/\M g=some ⟨xs,e,cap * es⟩/\n<=cap/\cap<=maxLen)
def Src (F:Fz)(M:Hp)(es:Nat)(u:Value)(m:Nat)(ys:List Value):Prop:=
 ys.length=m * es/\(u=.slice none 0 0/\m=0\/∃a cap,u=.slice (some a) m cap/\(m=0\/∃b o cs,a=⟨b,o,none⟩/\blk F M b=some cs/\(cs.drop o).take (m * es)=ys))
def wQ (l:List Value):Prop:=∀u∈l,u.oneCell'=true
def yGQ (F:Fz)(M:Hp)(e es:Nat)(v:Value)(n m:Nat)(zs:List Value)(v':Value)(M':Hp):Prop:=
 (v=.slice none 0 0/\m=0/\v'=.slice none 0 0/\M'=M)\/
 ∃r cap,((∃c,v=.slice (some ⟨r,0,none⟩) n c)\/(F r=none/\M r=none))/\v'=.slice (some ⟨r,0,none⟩) (n+m) cap/\n+m<=cap/\cap<=maxLen/\M'=M.upd r ⟨zs,e,cap * es⟩
inductive SK where
 | p (q:PK)
 | al (e:TypeId) (z:List Value)
 | bx (e:TypeId) (x:Operand)
 | bs (e:TypeId) (len:Nat) (z:List Value) (parts:List (Nat × Nat × Operand))
 | ap (e es bytes:Nat) (x y:Operand)
 | st (fl:List Nat) (n:Nat) (a x:Operand)
 | ms (e es bytes:Nat) (z:List Value) (l c:Operand)
 | cp (es:Nat) (x y:Operand)
 | ca (f:Operand) (args:List Operand)
 | cq (f:Operand) (args:List Operand)
 | cf (fl:List Nat) (f:Operand) (args:List Operand)
 | gz (e es bytes:Nat) (z:List Value) (x n:Operand)
 | mm
 | ml (z:Value) (x i:Operand)
 | mu (x i v:Operand)
 | cl (es:Nat) (z:List Value) (x:Operand)
def qI:List (Int × Value)->Int->Nat->Option (Nat × Value)
 | [],_,_=>none
 | p :: l,n,i=>if p.1=n then some (i,p.2) else qI l n (i+1)
def iR (P:Program)(strict:Bool)(d:Option Nat)(k:SK)(K:Env->Fz->Hp->Prop)(σ:Env)(F:Fz)(M:Hp):Prop:=
 match k with
 | .p q=>∃v,q.val σ F M=some v/\K (put σ d v) F M
 | .al e z=>∀r,F r=none->M r=none->K (put σ d (.pointer (some ⟨r,0,none⟩))) F (M.upd r ⟨z,e,z.length⟩)
 | .bx e x=>∃v,ev σ x=some v/\∀r,F r=none->M r=none->K (put σ d (.pointer (some ⟨r,0,none⟩))) F (M.upd r ⟨v.cells.toList,e,v.cells.toList.length⟩)
 | .bs e len z parts=>∃ps,iW σ parts=some ps/\∃cs,zG z ps=some cs/\
   ∀r,F r=none->M r=none->K (put σ d (.slice (some ⟨r,0,none⟩) len len)) F (M.upd r ⟨cs,e,cs.length⟩)
 | .ap e es bytes x y=>∃v,ev σ x=some v/\∃u,ev σ y=some u/\∃n xs,Own M e es v n xs/\∃m ys,Src F M es u m ys/\wQ ys/\
   n+m<=maxLen/\(n+m) * bytes<=140737488355328/\∀v' M',yGQ F M e es v n m (xs++ys) v' M'->K (put σ d v') F M'
 | .st fl n a x=>∃b o,ev σ a=some (.pointer (some ⟨b,o,none⟩))/\∃v,ev σ x=some v/\∃e,M b=some e/\v.cells.size=n/\wQ v.cells.toList/\
   o+n<=e.cells.length/\(∀t∈fl,∃u,look σ t=some u/\∀b' o',u=.pointer (some ⟨b',o',none⟩)->b'≠b)/\K (put σ d undef) F (M.upd b ⟨e.cells.take o++v.cells.toList++e.cells.drop (o+n),e.elem,e.size⟩)
 | .ms e es bytes z l c=>∃k n,ev σ l=some (.int k (n:Nat))/\∃k' m,ev σ c=some (.int k' (m:Nat))/\n<=m/\m<=maxLen/\m * bytes<=140737488355328/\
   ∀r,F r=none->M r=none->K (put σ d (.slice (some ⟨r,0,none⟩) n m)) F (M.upd r ⟨(List.replicate m z).flatten,e,m * es⟩)
 | .cp es x y=>∃b o n c,ev σ x=some (.slice (some ⟨b,o,none⟩) n c)/\∃u,ev σ y=some u/\∃m ys,Src F M es u m ys/\wQ ys/\∃e,M b=some e/\
   o+n * es<=e.cells.length/\
   K (put σ d (.int .i64 (min m n:Nat))) F (M.upd b ⟨e.cells.take o++ys.take (min m n * es)++e.cells.drop (o+min m n * es),e.elem,e.size⟩)
 | .ca f args=>∃g fi ca,ev σ f=some (.func (.func g) fi ca)/\∃vs,evs σ args=some vs/\
   aI P g (fi.toList++vs++ca.toList) F M fun v F' M'=>(strict=true->Le F M F' M')/\K (put σ d v) F' M'
 | .cq f args=>∃g fi ca,ev σ f=some (.func (.func g) fi ca)/\∃vs,evs σ args=some vs/\
   aI P g (fi.toList++vs++ca.toList) F M fun v F' M'=>K (put σ d v) F' M'
 | .cf fl f args=>∃g fi ca,ev σ f=some (.func (.func g) fi ca)/\∃vs,evs σ args=some vs/\
   aI P g (fi.toList++vs++ca.toList) F M fun v F' M'=>(∀t∈fl,∃u,look σ t=some u/\∀b o,u=.pointer (some ⟨b,o,none⟩)->blk F' M' b=blk F M b)/\K (put σ d v) F' M'
 | .gz e es bytes z x n=>∃k m,ev σ x=some (.slice none 0 0)/\ev σ n=some (.int k (m:Nat))/\0 < m/\m<=maxLen/\m * bytes<=140737488355328/\
   ∀r cap,F r=none->M r=none->m<=cap->cap<=maxLen->K (put σ d (.slice (some ⟨r,0,none⟩) m cap)) F (M.upd r ⟨(List.replicate m z).flatten,e,cap * es⟩)
 | .mm=>∀r,F r=none->M r=none->F.mp r=none->K (put σ d (.map (some r))) (F.nM r []) M
 | .ml z x i=>∃r l n,ev σ x=some (.map (some r))/\ev σ i=some (.int .i64 n)/\F.mp r=some l/\K (put σ d (((qI l n 0).map (·.2)).getD z)) F M
 | .mu x i y=>∃r l n v,ev σ x=some (.map (some r))/\ev σ i=some (.int .i64 n)/\ev σ y=some v/\F.mp r=some l/\qI l n 0=none/\K (put σ d undef) (F.nM r (l++[(n,v)])) M
 | .cl es z x=>∃a n c,ev σ x=some (.slice a n c)/\wQ z/\z.length=es/\((n=0/\K (put σ d (.tuple #[])) F M)\/(0 < n/\∃b o e,a=some ⟨b,o,none⟩/\M b=some e/\o+n * es<=e.cells.length/\
   K (put σ d (.tuple #[])) F (M.upd b ⟨e.cells.take o++(List.replicate n z).flatten++e.cells.drop (o+n * es),e.elem,e.size⟩)))
theorem qDZ {P:Program}{s:Bool}{d:Option Nat}{k:SK}{K K':Env->Fz->Hp->Prop}{σ:Env}{F:Fz}{M:Hp}
  (h:∀σ F M,K σ F M->K' σ F M)(hh:iR P s d k K σ F M):iR P s d k K' σ F M:=by
 cases k <;> simp only [iR] at hh ⊢
 case p q=>obtain ⟨v,h1,h2⟩:=hh; exact ⟨v,h1,h _ _ _ h2⟩
 case al e z=>exact fun r h1 h2=>h _ _ _ (hh r h1 h2)
 case bx e x=>obtain ⟨v,h1,h2⟩:=hh; exact ⟨v,h1,fun r a b=>h _ _ _ (h2 r a b)⟩
 case bs e len z parts=>obtain ⟨ps,h1,cs,h2,h3⟩:=hh; exact ⟨ps,h1,cs,h2,fun r a b=>h _ _ _ (h3 r a b)⟩
 case ap e es bytes x y=>obtain ⟨v,h1,u,h2,n,xs,h3,m,ys,h4,h5,h6,h7,h8⟩:=hh; exact ⟨v,h1,u,h2,n,xs,h3,m,ys,h4,h5,h6,h7,fun v' M' a=>h _ _ _ (h8 v' M' a)⟩
 case st fl n a x=>obtain ⟨b,o,h1,v,h2,e,h3,h4,h5,h6,h7,h8⟩:=hh; exact ⟨b,o,h1,v,h2,e,h3,h4,h5,h6,h7,h _ _ _ h8⟩
 case ms e es bytes z l c=>obtain ⟨k,n,h1,k',m,h2,h3,h4,h5,h6⟩:=hh; exact ⟨k,n,h1,k',m,h2,h3,h4,h5,fun r a b=>h _ _ _ (h6 r a b)⟩
 case cp es x y=>obtain ⟨b,o,n,c,h1,u,h2,m,ys,h3,h4,e,h5,h6,h7⟩:=hh; exact ⟨b,o,n,c,h1,u,h2,m,ys,h3,h4,e,h5,h6,h _ _ _ h7⟩
 case ca f args=>obtain ⟨g,fi,c,h1,vs,h2,h3⟩:=hh; exact ⟨g,fi,c,h1,vs,h2,h3.mono fun v F' M' ⟨a,b⟩=>⟨a,h _ _ _ b⟩⟩
 case cq f args=>obtain ⟨g,fi,c,h1,vs,h2,h3⟩:=hh; exact ⟨g,fi,c,h1,vs,h2,h3.mono fun v F' M' b=>h _ _ _ b⟩
 case cf fl f args=>obtain ⟨g,fi,c,h1,vs,h2,h3⟩:=hh; exact ⟨g,fi,c,h1,vs,h2,h3.mono fun v F' M' ⟨a,b⟩=>⟨a,h _ _ _ b⟩⟩
 case gz e es bytes z x n=>obtain ⟨k,m,h1,h2,h3,h4,h5,h6⟩:=hh; exact ⟨k,m,h1,h2,h3,h4,h5,fun r c a b p q=>h _ _ _ (h6 r c a b p q)⟩
 case mm=>exact fun r h1 h2 h3=>h _ _ _ (hh r h1 h2 h3)
 case ml z x i=>obtain ⟨r,l,n,h1,h2,h3,h4⟩:=hh; exact ⟨r,l,n,h1,h2,h3,h _ _ _ h4⟩
 case mu x i y=>obtain ⟨r,l,n,v,h1,h2,h3,h4,h5,h6⟩:=hh; exact ⟨r,l,n,v,h1,h2,h3,h4,h5,h _ _ _ h6⟩
 case cl es z x=>
  obtain ⟨a,n,c,h1,h2,h3,h4⟩:=hh;refine ⟨a,n,c,h1,h2,h3,?_⟩;rcases h4 with ⟨h4,h5⟩ | ⟨h4,b,o,e,h5,h6,h7,h8⟩
  ·exact .inl ⟨h4,h _ _ _ h5⟩
  ·exact .inr ⟨h4,b,o,e,h5,h6,h7,h _ _ _ h8⟩
structure SO where
 d:Option Nat
 g:Option (Nat × Bool)
 k:SK
def stepG (P:Program)(strict:Bool)(o:SO)(K:Env->Fz->Hp->Prop)(σ:Env)(F:Fz)(M:Hp):Prop:=
 match o.g with
 | none=>iR P strict o.d o.k K σ F M
 | some (t,want)=>∃v,look σ t=some v/\(v=.bool want->iR P strict o.d o.k K σ F M)/\(v≠.bool want->K (put σ o.d undef) F M)
theorem vM {P:Program}{s:Bool}{o:SO}{K K':Env->Fz->Hp->Prop}{σ:Env}{F:Fz}{M:Hp}
  (h:∀σ F M,K σ F M->K' σ F M)(hh:stepG P s o K σ F M):stepG P s o K' σ F M:=by
 unfold stepG at *;split
 ·rename_i hg; rw [hg] at hh; exact qDZ h hh
 ·rename_i t want hg;rw [hg] at hh;obtain ⟨v,h1,h2,h3⟩:=hh;exact ⟨v,h1,fun a=>qDZ h (h2 a),fun a=>h _ _ _ (h3 a)⟩
def iD (P:Program)(strict:Bool):List SO->(Env->Fz->Hp->Prop)->Env->Fz->Hp->Prop
 | [],K=>K
 | o :: l,K=>stepG P strict o (iD P strict l K)
def qWG (P:Program)(o:Oper):Option SK:=
 match qDX P o.op with
 | some q=>some (.p q)
 | none=>match o.op with
  | .alloc e=>(vJ P e).map fun z=>.al e z
  | .box e x=>some (.bx e x)
  | .buildSlice t len parts=>(mM P t).bind fun e=>(sizeT P e).bind fun es=>(vJ P e).bind fun z=>
    if len * es<=16777216/\z.length=es then some (.bs e len (List.replicate len z).flatten (parts.toList.map fun (i,x)=>(i * es,es,x))) else none
  | .store t a x=>(sizeT P t).map fun n=>.st [] n a x
  | .makeSlice t l c=>(mM P t).bind fun e=>(sizeT P e).bind fun es=>(vJ P e).bind fun z=>(P.info? e).bind fun i=>
    if z.length=es then some (.ms e es i.bytes z l c) else none
  | .call c=>match c.callee,c.args.toList,c.argTypes.toList with
   | .builtin .append,[x,y],[t,t']=>if t=t' then (mM P t).bind fun e=>(P.info? e).bind fun i=>(i.zero).bind fun z=>
     if z.cells.size=i.size/\0 < i.size then some (.ap e i.size i.bytes x y) else none else
     match P.underlying t' with
     | some (.int _)=>(mM P t).bind fun e=>(P.info? e).bind fun i=>(i.zero).bind fun z=>
      if z.cells.size=i.size/\0 < i.size then some (.gz e i.size i.bytes z.cells.toList x y) else none
     | _=>none
   | .builtin .copy,[x,y],[t,t']=>(mM P t).bind fun e=>(mM P t').bind fun _=>(sizeT P e).map fun es=>.cp es x y
   | .builtin .clear,[x],[t]=>(mM P t).bind fun e=>(sizeT P e).bind fun es=>(vJ P e).bind fun z=>if z.length=es then some (.cl es z x) else none
   | .value f,args,_=>some (.ca f args)
   | _,_,_=>none
  | .makeMap t none=>match P.underlying t with
   | some (.map _ _)=>some .mm
   | _=>none
  | .lookup t x i false=>match P.underlying t with
   | some (.map kt et)=>match P.underlying kt with
    | some (.int .i64)=>((P.info? et).bind (·.zero)).map fun z=>.ml z x i
    | _=>none
   | _=>none
  | .mapUpdate t m k x=>match P.underlying t with
   | some (.map kt _)=>match P.underlying kt with
    | some (.int .i64)=>some (.mu m k x)
    | _=>none
   | _=>none
  | _=>none
def zH (P:Program)(n:Nat)(ops:Array Oper)(o:Oper):Option SO:=
 match qWG P o with
 | none=>none
 | some k=>if o.dst.all (fun d=>Nat.blt d n)=true then
   match o.guard with
   | none=>some ⟨o.dst,none,k⟩
   | some (j,want)=>((ops[j]?).bind (·.dst)).map fun t=>⟨o.dst,some (t,want),k⟩
  else none
end Go.Ax
namespace Go.Ax
open Go
set_option linter.unusedSimpArgs false
def St (n:Nat)(Φ:Env->Fz->Hp->Prop)(F0:Fz)(M0:Hp)(w0:World)(a:Act)(w:World):Prop:=
 ∃σ F M,Agree n σ a/\Rel F M w/\Fr F0 M0 w0 F M w/\Φ σ F M
theorem lI (z:List Value):∀(m:Nat),(List.range (m * z.length)).map (fun i=>z.toArray[i % z.toArray.size]!)=(List.replicate m z).flatten:=by
 intro m
 induction m with
 | zero=>simp
 | succ m ih=>
  rw [List.replicate_succ',List.flatten_append,<-ih,Nat.succ_mul,List.range_add,bP]
  congr 1
  simp only [List.map_map,List.flatten_cons,List.flatten_nil,fA];apply List.ext_getElem?;intro i;by_cases hi:i < z.length
  ·simp [hi,Nat.add_mod,Nat.mod_eq_of_lt hi,Nat.mul_mod_left]
  ·simp [hi]
theorem wXE {F:Fz}{M:Hp}{w:World}(hr:Rel F M w){a:Addr}{m es:Nat}{ys:List Value}(hyl:ys.length=m * es)
  (h:m=0\/∃b o cs,a=⟨b,o,none⟩/\blk F M b=some cs/\(cs.drop o).take (m * es)=ys) :
  ∀(j:Nat) (u:Value),ys[j]? = some u->w.cell? (a.add j)=some u:=by
 intro j u hj;rcases h with rfl | ⟨b,o,cs,rfl,hb,hy⟩
 ·have:ys=[]:=by simpa using hyl
  simp [this] at hj
 subst hy;rw [Addr.add_lit];refine hr.cell hb ?_;rw [List.getElem?_take] at hj;split at hj
 ·rw [List.getElem?_drop] at hj; exact hj
 ·simp at hj
theorem yGW {F:Fz}{M:Hp}{w:World}(hr:Rel F M w){e es n:Nat}{v:Value}{xs:List Value}(h:Own M e es v n xs):w.ownsRow 0 e es v n xs:=by
 obtain ⟨hl,h⟩:=h;refine ⟨hl,?_⟩;rcases h with h | ⟨g,cap,rfl,hm,hn,hc⟩
 ·exact .inl h
 ·obtain ⟨cur,h1,h2,h3⟩:=hr.mu g _ hm;refine .inr ⟨g,cap,cur,rfl,Nat.zero_le _,h1,hn,hc,h3,?_⟩;obtain ⟨t,ht⟩:=h2;simp only at ht;rw [<-ht,<-hl,List.take_left]
theorem Rel.setRow {F:Fz}{M:Hp}{w w':World}(h:Rel F M w){g:Nat}{old new:nH}(hm:M g=some old)(hblk:∀k,k≠g->w'.heap[k]? = w.heap[k]?)
  {cur:Array Value} (hg:w'.heap[g]? = some (.cells cur new.elem (0,0))) (hp:new.cells <+: cur.toList) (hs:cur.size=new.size):Rel F (M.upd g new) w':=by
 refine ⟨fun b c hb=>?_,fun b n hb=>?_,fun b hb=>?_,fun b l hb=>?_⟩
 rotate_right
 ·have hbg:b≠g:=by rintro rfl; rw [h.wHX hm] at hb; cases hb
  obtain ⟨es,k,h1,h2⟩:=h.mp b l hb;exact ⟨es,k,by rw [hblk b hbg]; exact h1,h2⟩
 ·have hbg:b≠g:=by rintro rfl; have:=h.ap b (by simp [hm]); simp [this] at hb
  obtain ⟨c0,e,fr,h1,h2⟩:=h.fz b c hb;exact ⟨c0,e,fr,by rw [hblk b hbg]; exact h1,h2⟩
 ·by_cases hbg:b=g
  ·subst hbg;simp only [Hp.qV,Option.some.injEq] at hb;subst hb;exact ⟨cur,hg,hp,hs⟩
  ·rw [Hp.upd_ne hbg] at hb;obtain ⟨c0,h1,h2⟩:=h.mu b n hb;exact ⟨c0,by rw [hblk b hbg]; exact h1,h2⟩
 ·by_cases hbg:b=g
  ·subst hbg; exact h.ap b (by simp [hm])
  ·rw [Hp.upd_ne hbg] at hb; exact h.ap b hb
theorem Fr.setRow {F:Fz}{M:Hp}{w w':World}{g:Nat}{old new:nH}(hm:M g=some old)(hblk:∀k,k≠g->w'.heap[k]? = w.heap[k]?)
  (hos:w'.os=w.os)(ht:w'.tape=w.tape/\w.drawn<=w'.drawn)(ho:w'.output=w.output)(hsz:w.heap.size<=w'.heap.size):Fr F M w F (M.upd g new) w':=
 ⟨hos,ht,ho,hsz,fun b _ hb hp=>by
  have hbg:b≠g:=by rintro rfl; simp [hm] at hb
  exact ⟨hblk b hbg,by rw [Hp.upd_ne hbg]; exact hb,hp,id⟩⟩
section
variable {P:Program} {s:Bool} {n:Nat} {σ:Env} {a:Act} {F:Fz} {M:Hp} {w:World} {Q:Exit->Act->World->Prop} {K:Env->Fz->Hp->Prop} {o:Oper}
theorem qQV {v:Value}{c:List Value}{e:Nat}(hd:∀t,o.dst=some t->t < n)(ha:Agree n σ a)(hr:Rel F M w)
  (hrun:(execOp a.eval o).run P w=.ok (.value v) (w.alloc (.cells c.toArray e)))(hK:K (put σ o.dst v) F (M.upd w.heap.size ⟨c,e,c.length⟩)) :
  o.wp P a w (St n K F M w) Q:=by
 unfold Oper.wp;rw [hrun];exact ⟨_,_,_,ha.put hd,hr.alloc c e,Fr.alloc _ _,hK⟩
theorem xWX {q:PK}(hd:∀t,o.dst=some t->t < n)(ha:Agree n σ a)(hr:Rel F M w)(hq:qDX P o.op=some q)(h:iR P s o.dst (.p q) K σ F M) :
  o.wp P a w (St n K F M w) Q:=by
 obtain ⟨v,hv,hK⟩:=h;unfold Oper.wp;rw [yDY ha hr hq hv];exact ⟨_,_,_,ha.put hd,hr,Fr.refl _ _ _,hK⟩
theorem jXB {t:TypeId}{m:Nat}{x y:Operand}(hd:∀t,o.dst=some t->t < n)(ha:Agree n σ a)(hr:Rel F M w)(ho:o.op=.store t x y)(hn:sizeT P t=some m)
  {fl:List Nat} (h:iR P s o.dst (.st fl m x y) K σ F M):o.wp P a w (St n K F M w) Q:=by
 obtain ⟨b,of,hx,v,hy,e,hm,hv,hp,hl,_,hK⟩:=h;obtain ⟨cur,h1,h2,h3⟩:=hr.mu b e hm;have hlen:e.cells.length<=cur.size:=by
  obtain ⟨t,ht⟩:=h2;have:=congrArg List.length ht;simp at this; omega
 have hst:=run_storeCells_at P b of e.elem v.cells.toList 0 cur w h1 (by simp [hv]; omega) hp;have hrun:(execOp a.eval o).run P w=.ok .skip (w.setRow b (cur.toList.take (of+0)++v.cells.toList++cur.toList.drop (of+0+v.cells.toList.length)).toArray):=by
  unfold execOp;simp only [ho,Sem.run_bind,ha.ev hx,ha.ev hy,Instr.storeAt,Instr.sureAddr,storeVar,Sem.run_pure,Result.andThen_ok,run_sizeOf hn,hv,ne_eq,not_true,if_false];rw [hst];simp
 unfold Oper.wp;rw [hrun];obtain ⟨tl,htl⟩:=h2;refine ⟨_,_,_,ha.put hd,hr.setRow (new:=⟨e.cells.take of++v.cells.toList++e.cells.drop (of+m),e.elem,e.size⟩) hm (fun k hk=>setRow_other w b k _ hk) (setRow_heap w b cur _ e.elem _ h1) ?_ ?_,
  Fr.setRow hm (fun k hk=>setRow_other w b k _ hk) rfl ⟨rfl,aN _⟩ rfl (by simp [World.setRow]),hK⟩
 ·simp only [aK,Array.length_toList,hv];refine ⟨tl,?_⟩;rw [<-htl,List.take_append_of_le_length (by omega),List.drop_append_of_le_length (by omega)];simp
 ·simp [hv]; omega
theorem jXC {t e:TypeId}{i:TypeInfo}{z:Value}{x y:Operand}(hd:∀t,o.dst=some t->t < n)(ha:Agree n σ a)(hr:Rel F M w)
  (ho:o.op=.call { callee:=.builtin .append,args:=#[x,y],argTypes:=#[t,t] })(he:mM P t=some e)(hi:P.info? e=some i)(hz:i.zero=some z)
  (hzs:z.cells.size=i.size)(hp:0 < i.size)(h:iR P s o.dst (.ap e i.size i.bytes x y) K σ F M):o.wp P a w (St n K F M w) Q:=by
 obtain ⟨v,hx,u,hy,k,xs,hown,m,ys,hsrc,hpl,hlen,hby,hK⟩:=h;have hrow:=yGW hr hown;obtain ⟨hyl,hsrc⟩:=hsrc;have run:∀v' w',(Builtin.append_ #[t,t] o.type #[v,u]).run P w=.ok v' w'->(execOp a.eval o).run P w=.ok (.value v') w':=by
  intro v' w' hh;unfold execOp;simp [ho,resolve,invoke,builtin,ha.ev hx,ha.ev hy,hh]
 rcases hsrc with ⟨rfl,rfl⟩ | ⟨ad,cap,rfl,hys⟩
 ·-- nothing is appended
  have hh:=run_append_owned_none (P:=P) (w:=w) 0 t o.type e i i.size (jF he) hi v k xs hrow;unfold Oper.wp;rw [run _ _ hh];have hy0:ys=[]:=by simpa using hyl
  subst hy0;refine ⟨_,F,M,ha.put hd,hr,Fr.refl _ _ _,hK v M ?_⟩;obtain ⟨hxl,hown⟩:=hown;rcases hown with ⟨rfl,rfl⟩ | ⟨g,c,rfl,hm,hn,hc⟩
  ·exact .inl ⟨rfl,rfl,rfl,rfl⟩
  ·refine .inr ⟨g,c,.inl ⟨c,rfl⟩,by simp,by simpa using hn,hc,?_⟩
   funext q
   by_cases hq:q=g
   ·subst hq; simp [hm]
   ·rw [Hp.upd_ne hq]
 ·have hnews:=wXE hr hyl hys;have hown':=hown;obtain ⟨hxl,hown⟩:=hown;have hsmall:k+m<=9223372036854775807:=by simp only [maxLen] at hlen; omega
  rcases hown with ⟨rfl,rfl⟩ | ⟨g,c,rfl,hm,hn,hc⟩
  ·-- onto nil
   have hx0:xs=[]:=by simpa using hxl
   subst hx0;obtain ⟨v',w',hh,hrow',hgr,hiff⟩:=run_append_own (P:=P) w w.heap.size t o.type e i z i.size i.bytes (jF he) hi hz rfl rfl hzs hp _ 0 [] (World.ownsRow_nil w _ e i.size) ad m cap ys hyl
    hnews hpl hlen hby (aN _)
   have vDZ:=yDZ _ _ hh;unfold Oper.wp;rw [run _ _ hh];obtain ⟨hl',hrow'⟩:=hrow';have qDK:∀q,q < w.heap.size->w'.heap[q]? = w.heap[q]?:=fun q hq=>hgr.block q hq (by simp [Value.ownBlock])
   have hr':Rel F M w':=⟨fun b c hb=>by
     obtain ⟨c0,e0,fr,h1,h2⟩:=hr.fz b c hb;exact ⟨c0,e0,fr,by rw [qDK b (Array.getElem?_eq_some_iff.1 h1).1]; exact h1,h2⟩,fun b c hb=>by
     obtain ⟨c0,h1,h2⟩:=hr.mu b c hb;exact ⟨c0,by rw [qDK b (Array.getElem?_eq_some_iff.1 h1).1]; exact h1,h2⟩,hr.ap,fun b l hb=>by
     obtain ⟨es,k,h1,h2⟩:=hr.mp b l hb;exact ⟨es,k,by rw [qDK b (Array.getElem?_eq_some_iff.1 h1).1]; exact h1,h2⟩⟩
   rcases hrow' with ⟨rfl,h0⟩ | ⟨g,cap',cur,rfl,hge,hg,hn,hc,hcs,htk⟩
   ·obtain ⟨_,hm0⟩:=hiff.1 rfl;subst hm0;exact ⟨_,F,M,ha.put hd,hr',⟨hgr.os,⟨hgr.tape,vDZ⟩,hgr.output,hgr.size,fun b hb h hp=>⟨qDK b hb,h,hp,id⟩⟩,hK _ M (.inl ⟨rfl,rfl,rfl,rfl⟩)⟩
   ·have hf:=hr.fresh hge;have hpre:([]++ys) <+: cur.toList:=⟨cur.toList.drop ((0+m) * i.size),by rw [<-htk,List.take_append_drop]⟩
    refine ⟨_,F,M.upd g ⟨[]++ys,e,cap' * i.size⟩,ha.put hd,⟨hr'.fz,fun b c hb=>?_,fun b hb=>?_,hr'.mp⟩,
     ⟨hgr.os,⟨hgr.tape,vDZ⟩,hgr.output,hgr.size,fun b hb h hp=>⟨qDK b hb,by rw [Hp.upd_ne (by omega)]; exact h,hp,id⟩⟩,hK _ _ (.inr ⟨g,cap',.inr hf,rfl,hn,hc,rfl⟩)⟩
    ·by_cases hbg:b=g
     ·subst hbg;simp only [Hp.qV,Option.some.injEq] at hb;subst hb;exact ⟨cur,hg,hpre,hcs⟩
     ·rw [Hp.upd_ne hbg] at hb; exact hr'.mu b c hb
    ·by_cases hbg:b=g
     ·subst hbg; exact hf.1
     ·rw [Hp.upd_ne hbg] at hb; exact hr.ap b hb
  ·obtain ⟨cur,h1,⟨tl,h2⟩,h3⟩:=hr.mu g _ hm;simp only at h2 h3;have hcl:cur.toList.take (k * i.size)=xs:=by rw [<-h2,<-hxl,List.take_left]
   by_cases hroom:k+m<=c
   ·have hfit:k * i.size+ys.length<=cur.size:=by rw [hyl,h3,<-Nat.add_mul]; exact Nat.mul_le_mul_right _ hroom
    have hh:=run_append_room (P:=P) w t o.type e i (jF he) hi g k c cur h1 ad m cap ys hyl hnews hpl hroom hfit;unfold Oper.wp;rw [run _ _ hh];refine ⟨_,_,_,ha.put hd,hr.setRow (new:=⟨xs++ys,e,c * i.size⟩) hm (fun q hq=>setRow_other w g q _ hq) (setRow_heap w g cur _ e _ h1) ?_ ?_,
     Fr.setRow hm (fun q hq=>setRow_other w g q _ hq) rfl ⟨rfl,aN _⟩ rfl (by simp [World.setRow]),hK _ _ (.inr ⟨g,c,.inl ⟨c,rfl⟩,rfl,hroom,hc,rfl⟩)⟩
    ·exact ⟨cur.toList.drop (k * i.size+ys.length),by simp [hcl]⟩
    ·simp; omega
   ·have holds:∀j u,xs[j]? = some u->w.cell? ((⟨g,0,none⟩:Addr).add j)=some u:=(yGW hr hown').cells (g:=g) rfl;have hh:=run_append_grow (P:=P) w t o.type e i z (jF he) hi hz ⟨g,0,none⟩ k c xs hxl holds ad m cap ys hyl hnews (by omega) (by omega) (growslice_fits (by omega) hby);have hge:=grownCap_ge w (k+m) c e;have hcm:=grownCap_le_maxLen w (k+m) c e hlen;unfold Oper.wp;rw [run _ _ hh];have hdr:Rel F M w.drew:=hr.like ⟨rfl,rfl,⟨rfl,Nat.le_succ _⟩,rfl⟩;have hall:=hdr.alloc ((xs++ys)++(Builtin.zeroCells z.cells (grownCap w (k+m) c e - (k+m))).toList) e;have hf:=hr.fresh (aN _);refine ⟨_,F,M.upd w.heap.size ⟨xs++ys,e,grownCap w (k+m) c e * i.size⟩,ha.put hd,⟨fun b c hb=>?_,fun b c hb=>?_,fun b hb=>?_,fun b l hb=>?_⟩,
     ⟨rfl,⟨rfl,Nat.le_succ _⟩,rfl,by simp,fun b hb h hp=>⟨heap_alloc_old w.drew _ b hb,by rw [Hp.upd_ne (by omega)]; exact h,hp,id⟩⟩,hK _ _ (.inr ⟨w.heap.size,_,.inr hf,rfl,hge,hcm,rfl⟩)⟩
    rotate_right
    ·obtain ⟨es,k,g1,g2⟩:=hr.mp b l hb;exact ⟨es,k,by rw [heap_alloc_old w.drew _ b (Array.getElem?_eq_some_iff.1 g1).1]; exact g1,g2⟩
    ·obtain ⟨c0,e0,fr,g1,g2⟩:=hr.fz b c hb;exact ⟨c0,e0,fr,by rw [heap_alloc_old w.drew _ b (Array.getElem?_eq_some_iff.1 g1).1]; exact g1,g2⟩
    ·by_cases hbg:b=w.heap.size
     ·subst hbg;simp only [Hp.qV,Option.some.injEq] at hb;subst hb;refine ⟨_,heap_alloc_new w.drew _,?_,?_⟩
      ·exact ⟨(Builtin.zeroCells z.cells (grownCap w (k+m) c e - (k+m))).toList,by simp⟩
      ·simp only [Array.size_append,List.size_toArray,size_zeroCells,hzs,hxl,hyl,<-Nat.add_mul]
       congr 1
       omega
     ·rw [Hp.upd_ne hbg] at hb;obtain ⟨c0,g1,g2⟩:=hr.mu b c hb;exact ⟨c0,by rw [heap_alloc_old w.drew _ b (Array.getElem?_eq_some_iff.1 g1).1]; exact g1,g2⟩
    ·by_cases hbg:b=w.heap.size
     ·subst hbg; exact hf.1
     ·rw [Hp.upd_ne hbg] at hb; exact hr.ap b hb
theorem jXE {c:Call}{f:Operand}(hd:∀t,o.dst=some t->t < n)(ha:Agree n σ a)(hr:Rel F M w)(ho:o.op=.call c)(hc:c.callee=.value f)
  (h:iR P s o.dst (.ca f c.args.toList) K σ F M):o.wp P a w (St n K F M w) Q:=by
 obtain ⟨g,fi,ca,hf,vs,hvs,⟨⟨fn,hfn,hname,hbody⟩,hcall⟩⟩:=h;have hargs:=vK ha hvs;have e1:(fi++vs.toArray++ca)=(fi.toList++vs++ca.toList).toArray:=by
  apply Array.ext';simp
 unfold Oper.wp execOp;simp only [ho,resolve,hc,hargs,ha.ev hf,Deferred.ofValue,Sem.run_bind,Sem.run_pure,Result.andThen_ok,invoke,callFunc,run_program,hfn,hname,hbody,Bool.false_eq_true,if_false,e1];rw [Oper.upon_enter];refine (hcall w hr).mono ?_;rintro e w' ⟨v,F',M',rfl,h1,h2,_,h3⟩;exact ⟨_,_,_,ha.put hd,h1,h2,h3⟩
theorem jXF {t t' e e':TypeId}{es:Nat}{x y:Operand}(hd:∀t,o.dst=some t->t < n)(ha:Agree n σ a)(hr:Rel F M w)
  (ho:o.op=.call { callee:=.builtin .copy,args:=#[x,y],argTypes:=#[t,t'] })(he:mM P t=some e)(_he':mM P t'=some e')(hes:sizeT P e=some es)
  (h:iR P s o.dst (.cp es x y) K σ F M):o.wp P a w (St n K F M w) Q:=by
 obtain ⟨b,of,k,cp,hx,u,hy,m,ys,⟨hyl,hsrc⟩,hpl,en,hm,hlen,hK⟩:=h;obtain ⟨cur,h1,⟨tl,h2⟩,h3⟩:=hr.mu b en hm;have hmin:Nat.min m k=min m k:=rfl;have hle:min m k * es<=k * es:=Nat.mul_le_mul_right _ (Nat.min_le_right _ _);have hle':min m k * es<=m * es:=Nat.mul_le_mul_right _ (Nat.min_le_left _ _);have hnl:(ys.take (min m k * es)).length=min m k * es:=by rw [dW,hyl]; omega
 have hcur:en.cells.length<=cur.size:=by have:=congrArg List.length h2; simp at this; omega
 have hst:=run_storeCells_at P b of en.elem (ys.take (min m k * es)) 0 cur w h1 (by rw [hnl]; omega) (fun v hv=>hpl v (List.mem_of_mem_take hv));have hfirst:(Builtin.firstCells es (min m k) u).run P w=.ok (ys.take (min m k * es)).toArray w/\(Builtin.lenOf u).run P w=.ok m w:=by
  rcases hsrc with ⟨rfl,rfl⟩ | ⟨ad,cap,rfl,hys⟩
  ·simp [Builtin.firstCells,Builtin.lenOf]
  ·have hc:=wXE hr hyl hys;have:=run_loadCells_list (P:=P) w ad (ys.take (min m k * es)) (fun j v hj=>hc j v (by
    rw [List.getElem?_take] at hj;split at hj
    ·exact hj
    ·simp at hj))
   rw [hnl] at this;simp [Builtin.firstCells,Builtin.lenOf,this]
 have hrun:(execOp a.eval o).run P w=.ok (.value (.int .i64 (min m k:Nat))) (w.setRow b (cur.toList.take (of+0)++ys.take (min m k * es)++cur.toList.drop (of+0+(ys.take (min m k * es)).length)).toArray):=by
  unfold execOp;simp only [ho,resolve,invoke,builtin,List.map_toArray,List.map_cons,List.map_nil,ha.ev hx,ha.ev hy,Sem.run_bind,Sem.run_pure,Result.andThen_ok];simp [Builtin.copy_,run_underlying (jF he),hfirst.1,hfirst.2,run_sizeOf hes,hmin];simp at hst;simp [hst,goInt]
 unfold Oper.wp;rw [hrun];refine ⟨_,_,_,ha.put hd,hr.setRow (new:=⟨en.cells.take of++ys.take (min m k * es)++en.cells.drop (of+min m k * es),en.elem,en.size⟩) hm (fun q hq=>setRow_other w b q _ hq) (setRow_heap w b cur _ en.elem _ h1) ?_ ?_,
  Fr.setRow hm (fun q hq=>setRow_other w b q _ hq) rfl ⟨rfl,aN _⟩ rfl (by simp [World.setRow]),hK⟩
 ·rw [hnl];refine ⟨tl,?_⟩;simp only [aK];rw [<-h2,List.take_append_of_le_length (by omega),List.drop_append_of_le_length (by omega)];simp
 ·rw [hnl]; simp [hnl]; omega
theorem jZQ {t e:TypeId}{es:Nat}{z:List Value}{x:Operand}(hd:∀t,o.dst=some t->t < n)(ha:Agree n σ a)(hr:Rel F M w)
  (ho:o.op=.call { callee:=.builtin .clear,args:=#[x],argTypes:=#[t] })(he:mM P t=some e)(hz:vJ P e=some z)
  (h:iR P s o.dst (.cl es z x) K σ F M):o.wp P a w (St n K F M w) Q:=by
 obtain ⟨ad,k,cp,hx,hpl,hzl,h⟩:=h;rcases h with ⟨rfl,hK⟩ | ⟨h0,b,of,en,rfl,hm,hlen,hK⟩
 ·have hrun:(execOp a.eval o).run P w=.ok (.value (.tuple #[])) w:=by
   unfold execOp;cases ad <;> simp [ho,resolve,invoke,builtin,ha.ev hx,Builtin.clear_,run_underlying (jF he)]
  unfold Oper.wp;rw [hrun];exact ⟨_,_,_,ha.put hd,hr,Fr.refl _ _ _,hK⟩
 obtain ⟨cur,h1,⟨tl,h2⟩,h3⟩:=hr.mu b en hm;obtain ⟨zv,hzv,hzc⟩:=sN hz w;have hcells:(Builtin.zeroCells zv.cells k).toList=(List.replicate k z).flatten:=by
  simp only [Builtin.zeroCells,Array.toList_map,Array.toList_range];have:=lI zv.cells.toList k;rw [hzc] at this;rw [<-this];have e1:zv.cells=z.toArray:=by rw [<-hzc]
  rw [e1]; simp
 have hnl:((List.replicate k z).flatten).length=k * es:=by simp [hzl]
 have hcur:en.cells.length<=cur.size:=by have:=congrArg List.length h2; simp at this; omega
 have hst:=run_storeCells_at P b of en.elem ((List.replicate k z).flatten) 0 cur w h1 (by rw [hnl]; omega) (fun v hv=>hpl v (by
  rw [List.mem_flatten] at hv;obtain ⟨l,hl,hv⟩:=hv;rw [dK hl] at hv; exact hv))
 have hk0:¬k=0:=by omega
 have hrun:(execOp a.eval o).run P w=.ok (.value (.tuple #[])) (w.setRow b (cur.toList.take (of+0)++(List.replicate k z).flatten++cur.toList.drop (of+0+((List.replicate k z).flatten).length)).toArray):=by
  obtain ⟨k',rfl⟩:∃k',k=k'+1:=⟨k - 1,by omega⟩
  unfold execOp;simp only [ho,resolve,invoke,builtin,List.map_toArray,List.map_cons,List.map_nil,ha.ev hx,Sem.run_bind,Sem.run_pure,Result.andThen_ok];simp [Builtin.clear_,run_underlying (jF he),hzv,hcells];simp at hst;simp [hst]
 unfold Oper.wp;rw [hrun];refine ⟨_,_,_,ha.put hd,hr.setRow (new:=⟨en.cells.take of++(List.replicate k z).flatten++en.cells.drop (of+k * es),en.elem,en.size⟩) hm (fun q hq=>setRow_other w b q _ hq) (setRow_heap w b cur _ en.elem _ h1) ?_ ?_,
  Fr.setRow hm (fun q hq=>setRow_other w b q _ hq) rfl ⟨rfl,aN _⟩ rfl (by simp [World.setRow]),hK⟩
 ·rw [hnl];refine ⟨tl,?_⟩;simp only [aK];rw [<-h2,List.take_append_of_le_length (by omega),List.drop_append_of_le_length (by omega)];simp
 ·rw [hnl]; simp [hnl,-List.length_flatten]; omega
theorem wO:∀{es:List MapEntry} {l:List (Int × Value)} (n:Int) (i:Nat),es.map (fun e=>(e.key,e.val))=l.map (fun p=>(.int .i64 p.1,p.2))->
  Instr.findNow (.int .i64) (.int .i64 n) es i=some (qI l n i)
 | [],[],n,i,_=>rfl
 | [],p :: l,n,i,h=>by simp at h
 | e :: es,[],n,i,h=>by simp at h
 | e :: es,p :: l,n,i,h=>by
  simp only [List.map_cons,List.cons.injEq,Prod.mk.injEq] at h;obtain ⟨⟨h1,h2⟩,h3⟩:=h;have ih:=wO n (i+1) h3;by_cases hp:p.1=n
  ·simp [Instr.findNow,Instr.sameNow,h1,qI,hp,h2]
  ·have hp':(n == p.1)=false:=by simpa using fun h:n=p.1=>hp h.symm
   simp [Instr.findNow,Instr.sameNow,h1,qI,hp,hp',ih]
theorem qZZ {kt:TypeId}{k:IntKind}{n:Int}{e:Bool}(hk:P.underlying kt=some (.int k)):(Instr.checkKey e 10000 kt (.int k n)).run P w=.ok () w:=by
 unfold Instr.checkKey;simp [run_underlying hk]
theorem jZW {t t' e:TypeId}{kn:IntKind}{i:TypeInfo}{z:Value}{x y:Operand}(hd:∀t,o.dst=some t->t < n)(ha:Agree n σ a)(hr:Rel F M w)
  (ho:o.op=.call { callee:=.builtin .append,args:=#[x,y],argTypes:=#[t,t'] })(he:mM P t=some e)(ht':P.underlying t'=some (.int kn))(hi:P.info? e=some i)(hz:i.zero=some z)
  (hzs:z.cells.size=i.size)(hp:0 < i.size)(h:iR P s o.dst (.gz e i.size i.bytes z.cells.toList x y) K σ F M):o.wp P a w (St n K F M w) Q:=by
 obtain ⟨k,m,hx,hy,h0,hmm,hby,hK⟩:=h;have hh:=Lib.run_append_nil_zeros (P:=P) w t t' o.type e i z k kn (jF he) ht' hi hz m h0 hp (by simp only [maxLen] at hmm; omega) (by omega);have hge:=grownCap_ge w m 0 e;have hcm:=grownCap_le_maxLen w m 0 e hmm;have hrun:(execOp a.eval o).run P w=.ok (.value (.slice (some ⟨w.heap.size,0,none⟩) m (grownCap w m 0 e))) (w.drew.alloc (.cells (Builtin.zeroCells z.cells m++Builtin.zeroCells z.cells (grownCap w m 0 e - m)) e)):=by
  unfold execOp;simp [ho,resolve,invoke,builtin,ha.ev hx,ha.ev hy,hh]
 have hcells:(Builtin.zeroCells z.cells m).toList=(List.replicate m z.cells.toList).flatten:=by
  simp only [Builtin.zeroCells,Array.toList_map,Array.toList_range];have:=lI z.cells.toList m
  simpa using this
 unfold Oper.wp;rw [hrun];have hf:=hr.fresh (aN _);refine ⟨_,F,M.upd w.heap.size ⟨(List.replicate m z.cells.toList).flatten,e,grownCap w m 0 e * i.size⟩,ha.put hd,⟨fun b c hb=>?_,fun b c hb=>?_,fun b hb=>?_,fun b l hb=>?_⟩,
  ⟨rfl,⟨rfl,Nat.le_succ _⟩,rfl,by simp,fun b hb h hp=>⟨heap_alloc_old w.drew _ b hb,by rw [Hp.upd_ne (by omega)]; exact h,hp,id⟩⟩,hK _ _ hf.1 hf.2 hge hcm⟩
 rotate_right
 ·obtain ⟨es,k,g1,g2⟩:=hr.mp b l hb;exact ⟨es,k,by rw [heap_alloc_old w.drew _ b (Array.getElem?_eq_some_iff.1 g1).1]; exact g1,g2⟩
 ·obtain ⟨c0,e0,fr,g1,g2⟩:=hr.fz b c hb;exact ⟨c0,e0,fr,by rw [heap_alloc_old w.drew _ b (Array.getElem?_eq_some_iff.1 g1).1]; exact g1,g2⟩
 ·by_cases hbg:b=w.heap.size
  ·subst hbg;simp only [Hp.qV,Option.some.injEq] at hb;subst hb;refine ⟨_,heap_alloc_new w.drew _,?_,?_⟩
   ·exact ⟨(Builtin.zeroCells z.cells (grownCap w m 0 e - m)).toList,by simp [hcells]⟩
   ·simp only [Array.size_append,size_zeroCells,hzs,<-Nat.add_mul]
    congr 1
    omega
  ·rw [Hp.upd_ne hbg] at hb;obtain ⟨c0,g1,g2⟩:=hr.mu b c hb;exact ⟨c0,by rw [heap_alloc_old w.drew _ b (Array.getElem?_eq_some_iff.1 g1).1]; exact g1,g2⟩
 ·by_cases hbg:b=w.heap.size
  ·subst hbg; exact hf.1
  ·rw [Hp.upd_ne hbg] at hb; exact hr.ap b hb
theorem jZX {t kt et:TypeId}(hd:∀t,o.dst=some t->t < n)(ha:Agree n σ a)(hr:Rel F M w)(ho:o.op=.makeMap t none)(_ht:P.underlying t=some (.map kt et))
  (h:iR P s o.dst .mm K σ F M):o.wp P a w (St n K F M w) Q:=by
 have hrun:(execOp a.eval o).run P w=.ok (.value (.map (some w.heap.size))) (w.alloc (.map #[] 0)):=by
  unfold execOp;simp [ho,Instr.makeMap]
 unfold Oper.wp;rw [hrun];exact ⟨_,_,_,ha.put hd,hr.yWE,Fr.yWE _,h _ (hr.fresh (aN _)).1 (hr.fresh (aN _)).2 (hr.xYJ (aN _))⟩
theorem jZZ {t kt et:TypeId}{z:Value}{x i:Operand}(hd:∀t,o.dst=some t->t < n)(ha:Agree n σ a)(hr:Rel F M w)(ho:o.op=.lookup t x i false)(ht:P.underlying t=some (.map kt et))
  (hk:P.underlying kt=some (.int .i64))(hz:(P.info? et).bind (·.zero)=some z)(h:iR P s o.dst (.ml z x i) K σ F M):o.wp P a w (St n K F M w) Q:=by
 obtain ⟨r,l,m,hx,hi,hm,hK⟩:=h;obtain ⟨es,clock,hb,hes⟩:=hr.mp r l hm;have hf:=wO m 0 hes;have hzr:(zeroValue et).run P w=.ok z w:=by
  cases hi:P.info? et with
  | none=>simp [hi] at hz
  | some ti=>simp [hi] at hz; simp [zeroValue,typeInfo,hi,hz]
 have hg:(getObj r).run P w=.ok (.map es clock) w:=by simp [getObj,Sem.run,hb]
 have hrun:(execOp a.eval o).run P w=.ok (.value (((qI l m 0).map (·.2)).getD z)) w:=by
  unfold execOp;simp only [ho,ha.ev hx,ha.ev hi,Instr.lookup,Sem.run_bind,run_underlying ht,Result.andThen_ok,hg,Sem.run_pure,qZZ hk];simp only [Instr.findKey,Sem.run_bind,run_underlying hk,Result.andThen_ok,hf,Sem.run_pure];cases hl:qI l m 0 with
  | none=>simp [hzr]
  | some p=>simp
 unfold Oper.wp;rw [hrun];exact ⟨_,_,_,ha.put hd,hr,Fr.refl _ _ _,hK⟩
theorem jZK {t kt et:TypeId}{x i y:Operand}(hd:∀t,o.dst=some t->t < n)(ha:Agree n σ a)(hr:Rel F M w)(ho:o.op=.mapUpdate t x i y)(ht:P.underlying t=some (.map kt et))
  (hk:P.underlying kt=some (.int .i64))(h:iR P s o.dst (.mu x i y) K σ F M):o.wp P a w (St n K F M w) Q:=by
 obtain ⟨r,l,m,v,hx,hi,hy,hm,hno,hK⟩:=h;obtain ⟨es,clock,hb,hes⟩:=hr.mp r l hm;have hf:=wO m 0 hes;rw [hno] at hf;have hg:(getObj r).run P w=.ok (.map es clock) w:=by simp [getObj,Sem.run,hb]
 have hs:(setObj r (.map (es.push { key:=.int .i64 m,val:=v,born:=clock }) (clock+1))).run P w=.ok () { w with heap:=w.heap.setIfInBounds r (.map (es.push { key:=.int .i64 m,val:=v,born:=clock }) (clock+1)) }:=by
  simp [setObj,Sem.run,hb]
 have hrun:(execOp a.eval o).run P w=.ok .skip { w with heap:=w.heap.setIfInBounds r (.map (es.push { key:=.int .i64 m,val:=v,born:=clock }) (clock+1)) }:=by
  unfold execOp;simp only [ho,ha.ev hx,ha.ev hi,ha.ev hy,Instr.mapUpdate,Sem.run_bind,run_underlying ht,Result.andThen_ok,hg,Sem.run_pure,qZZ hk];simp only [Instr.findKey,Sem.run_bind,run_underlying hk,Result.andThen_ok,hf,Sem.run_pure,hs]
 have hlt:=(Array.getElem?_eq_some_iff.1 hb).1;unfold Oper.wp;rw [hrun];refine ⟨_,_,_,ha.put hd,hr.xYG hm (fun k hk=>?_) (es:=es.push { key:=.int .i64 m,val:=v,born:=clock }) (clock:=clock+1) ?_ ?_,Fr.xYG hm (fun k hk=>?_) rfl ⟨rfl,aN _⟩ rfl (by simp),hK⟩
 ·simp [Ne.symm hk]
 ·simp [hlt]
 ·have:es.toList.map (fun e=>(e.key,e.val))=l.map (fun p=>(Value.int .i64 p.1,p.2)):=hes;simp [jXD,this]
 ·simp [Ne.symm hk]
theorem yC {k:SK}(hd:∀t,o.dst=some t->t < n)(ha:Agree n σ a)(hr:Rel F M w)(hk:qWG P o=some k)(h:iR P s o.dst k K σ F M) :
  o.wp P a w (St n K F M w) Q:=by
 unfold qWG at hk;split at hk
 ·rename_i q hq;simp at hk; subst hk;exact xWX (s:=s) hd ha hr hq h
 ·split at hk
  ·rename_i e ho;cases hz:vJ P e with
   | none=>simp [hz] at hk
   | some z=>
    simp [hz] at hk; subst hk;obtain ⟨zv,h1,h2⟩:=sN hz w;refine qQV (c:=z) (e:=e) hd ha hr ?_ (h _ (hr.fresh (aN _)).1 (hr.fresh (aN _)).2);unfold execOp;have h3:zv.cells=z.toArray:=by rw [<-h2]
    simp [ho,Instr.alloc,h1,newVar,newRow,h3]
  ·rename_i e x ho;simp at hk; subst hk;obtain ⟨v,hx,hK⟩:=h;refine qQV (c:=v.cells.toList) (e:=e) hd ha hr ?_ (hK _ (hr.fresh (aN _)).1 (hr.fresh (aN _)).2);unfold execOp;simp [ho,Instr.box,ha.ev hx,newVar,newRow]
  ·rename_i t len parts ho;cases he:mM P t with
   | none=>simp [he] at hk
   | some e=>
    cases hs:sizeT P e with
    | none=>simp [he,hs] at hk
    | some es=>
     cases hz:vJ P e with
     | none=>simp [he,hs,hz] at hk
     | some z=>
      simp [he,hs,hz] at hk;obtain ⟨⟨h24,hzl⟩,rfl⟩:=hk;obtain ⟨ps,hp,cs,hf,hK⟩:=h;obtain ⟨zv,h1,h2⟩:=sN hz w;obtain ⟨h3,h4⟩:=zN ha hp;refine qQV (c:=cs) (e:=e) hd ha hr ?_ (hK _ (hr.fresh (aN _)).1 (hr.fresh (aN _)).2);have hzc:zv.cells=z.toArray:=by rw [<-h2]
      have hcells:((Array.range (len * es)).map fun i=>z.toArray[i % z.toArray.size]!).toList=(List.replicate len z).flatten:=by
       rw [Array.toList_map,Array.toList_range,<-hzl];exact lI z len
      have jZJ:=zM (fun i=>some (i * es,es)) (parts.toList.map fun (i,x)=>(i,a.eval x)) ps
       ((Array.range (len * es)).map fun i=>z.toArray[i % z.toArray.size]!) cs (by simp [h3])
       (fun j i u hj=>by
        rw [List.getElem?_map] at hj;cases hj':parts.toList[j]? with
        | none=>rw [hj'] at hj; simp at hj
        | some y=>
         obtain ⟨i',x⟩:=y;rw [hj'] at hj;simp at hj;obtain ⟨rfl,rfl⟩:=hj;exact ⟨_,_,rfl,h4 j (i' * es) es x (by rw [List.getElem?_map,hj']; rfl)⟩) (by rw [hcells]; exact hf)
      have kQZ:¬(len * es > 2 ^ 24):=by omega
      unfold execOp;by_cases h0:len * es=0
      ·have xYD:Instr.fill (fun i=>some (i * es,es)) #[] (parts.toList.map fun (i,x)=>(i,a.eval x))=some cs.toArray:=by
        rw [h0] at jZJ
        simpa [Array.range_zero'] using jZJ
       simp [ho,Instr.buildSlice,run_underlying (jF he),run_sizeOf hs,h0,Array.range_zero',xYD,newRow]
      ·simp only [ho,Instr.buildSlice,Sem.run_bind,run_underlying (jF he),Result.andThen_ok,run_sizeOf hs,kQZ,if_false,Sem.run_pure,h0,h1,hzc,Array.toList_map];rw [jZJ];simp [newRow]
  ·rename_i t x y ho;cases hn:sizeT P t with
   | none=>simp [hn] at hk
   | some m=>
    simp [hn] at hk; subst hk;exact jXB (s:=s) hd ha hr ho hn h
  ·rename_i t l c ho;cases he:mM P t with
   | none=>simp [he] at hk
   | some e=>
    cases hs:sizeT P e with
    | none=>simp [he,hs] at hk
    | some es=>
     cases hz:vJ P e with
     | none=>simp [he,hs,hz] at hk
     | some z=>
      cases hi:P.info? e with
      | none=>simp [he,hs,hz,hi] at hk
      | some i=>
       simp [he,hs,hz,hi] at hk;obtain ⟨hzl,rfl⟩:=hk;obtain ⟨k,p,hl,k',m,hc,hpm,hmm,hby,hK⟩:=h;have hsz:i.size=es:=by simpa [sizeT,hi] using hs
       cases hzi:i.zero with
       | none=>simp [vJ,hi,hzi] at hz
       | some zv=>
        have hzc:zv.cells=z.toArray:=by
         have:zv.cells.toList=z:=by simpa [vJ,hi,hzi] using hz
         rw [<-this]
        have hm9:(m:Int)<=9223372036854775807:=by simp only [maxLen] at hmm; omega
        have hb':(i.bytes:Int) * (m:Int)<=281474976710656:=by
         have h:((i.bytes * m:Nat):Int)<=281474976710656:=by rw [Nat.mul_comm] at hby; omega
         rwa [Int.natCast_mul] at h
        have hrun:=run_make (P:=P) w t e i zv (jF he) hi hzi k k' p m (by omega) (by omega) hb' hm9;have hcells:(madeCells zv.cells ((m:Int).toNat * i.size)).toList=(List.replicate m z).flatten:=by
         rw [hzc,madeCells,Array.toList_map,Array.toList_range,hsz,<-hzl]
         simpa using lI z m
        have hcells':madeCells zv.cells ((m:Int).toNat * i.size)=((List.replicate m z).flatten).toArray:=by rw [<-hcells]
        have hlen:((List.replicate m z).flatten).length=m * es:=by simp [hzl]
        refine qQV (c:=(List.replicate m z).flatten) (e:=e) (v:=.slice (some ⟨w.heap.size,0,none⟩) p m) hd ha hr ?_ ?_
        ·unfold execOp;simp only [ho,ha.ev hl,ha.ev hc,Sem.run_bind,hrun,Result.andThen_ok,Sem.run_pure,hcells'];simp only [aB]
        ·rw [hlen];exact hK _ (hr.fresh (aN _)).1 (hr.fresh (aN _)).2
  ·rename_i c ho;split at hk
   ·rename_i x y t t' h1 h2 h3;split at hk
    ·rename_i htt;subst htt;cases he:mM P t with
     | none=>simp [he] at hk
     | some e=>
      cases hi:P.info? e with
      | none=>simp [he,hi] at hk
      | some i=>
       cases hz:i.zero with
       | none=>simp [he,hi,hz] at hk
       | some z=>
        simp [he,hi,hz] at hk;obtain ⟨⟨hzs,hp⟩,rfl⟩:=hk;obtain ⟨callee,args,argTypes⟩:=c;simp only at h1 h2 h3;obtain rfl:args = #[x,y]:=by rw [<-Array.toArray_toList (xs:=args),h2]
        obtain rfl:argTypes = #[t,t]:=by rw [<-Array.toArray_toList (xs:=argTypes),h3]
        subst h1;exact jXC (s:=s) hd ha hr ho he hi hz hzs hp h
    ·split at hk
     ·rename_i kn ht';cases he:mM P t with
      | none=>simp [he] at hk
      | some e=>
       cases hi:P.info? e with
       | none=>simp [he,hi] at hk
       | some i=>
        cases hz:i.zero with
        | none=>simp [he,hi,hz] at hk
        | some z=>
         simp [he,hi,hz] at hk;obtain ⟨⟨hzs,hp⟩,rfl⟩:=hk;obtain ⟨callee,args,argTypes⟩:=c;simp only at h1 h2 h3;obtain rfl:args = #[x,y]:=by rw [<-Array.toArray_toList (xs:=args),h2]
         obtain rfl:argTypes = #[t,t']:=by rw [<-Array.toArray_toList (xs:=argTypes),h3]
         subst h1;exact jZW (s:=s) hd ha hr ho he ht' hi hz hzs hp h
     ·simp at hk
   ·rename_i x y t t' h1 h2 h3;cases he:mM P t with
    | none=>simp [he] at hk
    | some e=>
     cases he':mM P t' with
     | none=>simp [he,he'] at hk
     | some e'=>
      cases hs:sizeT P e with
      | none=>simp [he,he',hs] at hk
      | some es=>
       simp [he,he',hs] at hk; subst hk;obtain ⟨callee,args,argTypes⟩:=c;simp only at h1 h2 h3;obtain rfl:args = #[x,y]:=by rw [<-Array.toArray_toList (xs:=args),h2]
       obtain rfl:argTypes = #[t,t']:=by rw [<-Array.toArray_toList (xs:=argTypes),h3]
       subst h1;exact jXF (s:=s) hd ha hr ho he he' hs h
   ·rename_i x t h1 h2 h3;cases he:mM P t with
    | none=>simp [he] at hk
    | some e=>
     cases hs:sizeT P e with
     | none=>simp [he,hs] at hk
     | some es=>
      cases hz:vJ P e with
      | none=>simp [he,hs,hz] at hk
      | some z=>
       simp [he,hs,hz] at hk;obtain ⟨hzl,rfl⟩:=hk;obtain ⟨callee,args,argTypes⟩:=c;simp only at h1 h2 h3;obtain rfl:args = #[x]:=by rw [<-Array.toArray_toList (xs:=args),h2]
       obtain rfl:argTypes = #[t]:=by rw [<-Array.toArray_toList (xs:=argTypes),h3]
       subst h1;exact jZQ (s:=s) hd ha hr ho he hz h
   ·rename_i f h1;simp at hk; subst hk;exact jXE (s:=s) hd ha hr ho h1 h
   ·simp at hk
  ·rename_i t ho;split at hk
   ·rename_i kt et ht;simp at hk; subst hk;exact jZX (s:=s) hd ha hr ho ht h
   ·simp at hk
  ·rename_i t x i ho;split at hk
   ·rename_i kt et ht;split at hk
    ·rename_i hkt;cases hz:(P.info? et).bind (·.zero) with
     | none=>simp [hz] at hk
     | some z=>
      simp [hz] at hk; subst hk;exact jZZ (s:=s) hd ha hr ho ht hkt hz h
    ·simp at hk
   ·simp at hk
  ·rename_i t x i y ho;split at hk
   ·rename_i kt et ht;split at hk
    ·rename_i hkt;simp at hk; subst hk;exact jZK (s:=s) hd ha hr ho ht hkt h
    ·simp at hk
   ·simp at hk
  ·simp at hk
theorem jZG {fl:List Nat}{m:Nat}{x y:Operand}(h:qWG P o=some (.st fl m x y)):fl=[]:=by
 unfold qWG at h;split at h
 ·simp at h
 ·split at h
  ·simp at h
  ·simp at h
  ·simp [bU] at h
  ·simp at h; obtain ⟨_,_,h,_⟩:=h; exact h
  ·simp [bU] at h
  ·split at h
   ·split at h
    ·simp [bU] at h
    ·split at h
     ·simp [bU] at h
     ·simp at h
   ·simp [bU] at h
   ·simp [bU] at h
   ·simp at h
   ·simp at h
  ·split at h <;> simp at h
  ·split at h
   ·split at h
    ·simp [bU] at h
    ·simp at h
   ·simp at h
  ·split at h
   ·split at h <;> simp at h
   ·simp at h
  ·simp at h
theorem jZV {fl:List Nat}{x:Operand}{y:List Operand}(h:qWG P o=some (.cf fl x y)):False:=by
 unfold qWG at h;split at h
 ·simp at h
 ·split at h
  ·simp at h
  ·simp at h
  ·simp [bU] at h
  ·simp at h
  ·simp [bU] at h
  ·split at h
   ·split at h
    ·simp [bU] at h
    ·split at h
     ·simp [bU] at h
     ·simp at h
   ·simp [bU] at h
   ·simp [bU] at h
   ·simp at h
   ·simp at h
  ·split at h <;> simp at h
  ·split at h
   ·split at h
    ·simp [bU] at h
    ·simp at h
   ·simp at h
  ·split at h
   ·split at h <;> simp at h
   ·simp at h
  ·simp at h
def _root_.Go.Ax.SK.kH:SK->List Nat->SK
 | .st _ n a x,fl=>.st fl n a x
 | .ca f a,0 :: _=>.cq f a
 | .ca f a,(_+1) :: l=>.cf l f a
 | .cf _ f a,l=>.cf l f a
 | k,_=>k
theorem wXD {k:SK}{fl:List Nat}(hd:∀t,o.dst=some t->t < n)(ha:Agree n σ a)(hr:Rel F M w)(hk:qWG P o=some k)(h:iR P s o.dst (k.kH fl) K σ F M) :
  o.wp P a w (St n K F M w) Q:=by
 by_cases hst:∃fl' m x y,k=.st fl' m x y
 ·obtain ⟨fl',m,x,y,rfl⟩:=hst;refine yC (s:=s) hd ha hr hk ?_;simp only [SK.kH,iR] at h;obtain ⟨b,of,h1,v,h2,e,h3,h4,h5,h6,h7,h8⟩:=h;have hfl:fl'=[]:=jZG hk;subst hfl;exact ⟨b,of,h1,v,h2,e,h3,h4,h5,h6,by simp,h8⟩
 ·by_cases hca:∃f args b l,k=.ca f args/\fl=b :: l
  ·obtain ⟨f,args,b,l,rfl,rfl⟩:=hca;refine yC (s:=false) hd ha hr hk ?_;cases b with
   | zero=>
    obtain ⟨g,fi,c,h1,vs,h2,h3⟩:=h;exact ⟨g,fi,c,h1,vs,h2,h3.mono fun v F' M' q=>⟨(fun e=>by cases e),q⟩⟩
   | succ b=>
    obtain ⟨g,fi,c,h1,vs,h2,h3⟩:=h;exact ⟨g,fi,c,h1,vs,h2,h3.mono fun v F' M' q=>⟨(fun e=>by cases e),q.2⟩⟩
  ·have hcf:∀fl' f args,k≠.cf fl' f args:=fun fl' f args e=>jZV (e ▸ hk)
   have:k.kH fl=k:=by
    cases k <;> first | rfl | (exfalso; exact hst ⟨_,_,_,_,rfl⟩) | (exfalso; exact hcf _ _ _ rfl) | (cases fl <;> first | rfl | (exfalso; exact hca ⟨_,_,_,_,rfl,rfl⟩))
   rw [this] at h;exact yC (s:=s) hd ha hr hk h
end
end Go.Ax
