/- Parts B2: the machine's runs of small codes, contracts of functions, plain facts. -/
import Derived.Test.YtamcbkelfgbkoaaGreatB1
set_option linter.unusedVariables false
set_option maxRecDepth 100000
set_option linter.unusedSimpArgs false
namespace Go.Ax
open Go
structure yY {α:Type}(sz:Nat)(f:α→List Value)(e:TypeId)(F:Fz)(M0 M:Hp)(u:Value)(l:List α):Prop where
 own:jQ sz f e F M u l
 new:∀g n c,u=.slice (some ⟨g,0,none⟩) n c→M0 g=none
theorem yY.nil {α:Type}{sz:Nat}{f:α→List Value}{e:TypeId}{F:Fz}{M0 M:Hp}:yY sz f e F M0 M (.slice none 0 0) ([]:List α):=⟨.inl ⟨rfl,rfl⟩,fun g n c h=>by cases h⟩
theorem yY.fresh {α:Type}{sz:Nat}{f:α→List Value}{e:TypeId}{F:Fz}{M0 M:Hp}{u:Value}{l:List α}(h:yY sz f e F M0 M u l){r:Nat}{x:Ent}(hM:M r=none):yY sz f e F M0 (M.upd r x) u l:=⟨h.own.new hM,h.new⟩
theorem jQ.keep {α:Type}{sz:Nat}{f:α→List Value}{e:TypeId}{F:Fz}{M M':Hp}{u:Value}{l:List α}(h:jQ sz f e F M u l)(kp:Keep M M'):jQ sz f e F M' u l:=by
 rcases h with h | ⟨g,cap,h1,h2,h3,h4⟩
 ·exact .inl h
 ·exact .inr ⟨g,cap,h1,h2,kp _ _ h3,h4⟩
theorem yY.keep {α:Type}{sz:Nat}{f:α→List Value}{e:TypeId}{F:Fz}{M0 M M':Hp}{u:Value}{l:List α}(h:yY sz f e F M0 M u l)(kp:Keep M M'):yY sz f e F M0 M' u l:=⟨h.own.keep kp,h.new⟩
theorem yY.shape {α:Type}{sz:Nat}{f:α→List Value}{e:TypeId}{F:Fz}{M0 M:Hp}{u:Value}{l:List α}(h:yY sz f e F M0 M u l):∃a c,u=.slice a l.length c:=by
 rcases h.own with ⟨h1,h2⟩ | ⟨g,cap,h1,_⟩
 ·exact ⟨none,0,by rw [h1,h2]; rfl⟩
 ·exact ⟨_,cap,h1⟩
def rowR {α:Type}(sz:Nat)(f:α→List Value)(e:TypeId)(l:List α)(F:Fz)(M:Hp)(u:Value)(F':Fz)(M':Hp):Prop:=
 F'=F∧((l=[]∧u=.slice none 0 0∧M'=M)∨∃g cap,F g=none∧M g=none∧u=.slice (some ⟨g,0,none⟩) l.length cap∧(l.length≤cap∧cap≤maxLen)∧M'=M.upd g ⟨l.flatMap f,e,cap * sz⟩)
theorem rowR.le {α:Type}{sz:Nat}{f:α→List Value}{e:TypeId}{l:List α}{F:Fz}{M:Hp}{u:Value}{F':Fz}{M':Hp}(hf:∀x,(f x).length=sz)(h:rowR sz f e l F M u F' M')(hl:l.length≤4611686018427387904) :
  F'=F∧Le F M F M'∧Keep M M'∧(Old F M→Old F M')∧∃a c,u=.slice a l.length c∧RdG sz f F M' (.slice a l.length c) l:=by
 obtain ⟨hF,h⟩:=h
 refine ⟨hF,?_⟩
 rcases h with ⟨rfl,rfl,rfl⟩ | ⟨g,cap,h1,h2,rfl,h4,rfl⟩
 ·exact ⟨Le.refl _ _,Keep.refl _,fun h=>h,none,0,rfl,gX⟩
 ·exact ⟨Le.upd h1 h2,(Keep.refl _).new h2,fun h=>h.upd h1,_,_,rfl,gJ hf hl h4.1 wY⟩
theorem yY.done {α:Type}{sz:Nat}{f:α→List Value}{e:TypeId}{F:Fz}{M0 M:Hp}{u:Value}{l:List α}(h:yY sz f e F M0 M u l)(kp:Keep M0 M):endK F M (rowR sz f e l F M0) u:=by
 rcases h.own with ⟨h1,h2⟩ | ⟨g,cap,h1,h2,h3,h4,h5⟩
 ·exact qX kp ⟨rfl,.inl ⟨h2,h1,rfl⟩⟩
 ·exact qX (kp.one h3) ⟨rfl,.inr ⟨g,cap,h2,h.new _ _ _ h1,h1,⟨h4,h5⟩,rfl⟩⟩
theorem yY.alone {α:Type}{sz:Nat}{f:α→List Value}{e:TypeId}{F:Fz}{M0 M:Hp}{u:Value}{l:List α}(h:yY sz f e F M0 M u l)(kp:Keep M0 M):∃M1,Keep M1 M∧Keep M0 M1∧rowR sz f e l F M0 u F M1:=by
 rcases h.own with ⟨h1,h2⟩ | ⟨g,cap,h1,h2,h3,h4,h5⟩
 ·exact ⟨M0,kp,Keep.refl _,rfl,.inl ⟨h2,h1,rfl⟩⟩
 ·exact ⟨_,kp.one h3,(Keep.refl _).new (h.new _ _ _ h1),rfl,.inr ⟨g,cap,h2,h.new _ _ _ h1,h1,⟨h4,h5⟩,rfl⟩⟩
theorem apMG_of {α:Type}{sz bytes:Nat}{f:α→List Value}{P:Program}{s:Bool}{d:Option Nat}{l:List SO}{K:Env→Fz→Hp→Prop}{σ:Env}{F:Fz}{M0 M:Hp}{e:TypeId}{v u:Value}{xs ys:List α}
  (hf:∀x,(f x).length=sz)(hp:∀x,wZ (f x))(hbytes:bytes≤1000)(h:yY sz f e F M0 M v xs)(kp:Keep M0 M)(hs:Src F M sz u ys.length (ys.flatMap f))(hy:0 < ys.length)(hb:xs.length+ys.length≤1000000)
  (hk:∀v' M',(∃g c,v'=.slice (some ⟨g,0,none⟩) (xs++ys).length c)→(∀r x,M r=some x→¬x.elem=e→M' r=some x)→Keep M0 M'→(Old F M→Old F M')→yY sz f e F M0 M' v' (xs++ys)→opsW P s l K (put σ d v') F M') :
  apK P s d l K σ F M e sz bytes (some v) (some u):=by
 refine apG_of hf hp hbytes h.own hs hy hb ?_
 rintro g cap M2 hgo gF rfl own2
 have g0:M0 g=none:=by
  rcases hgo with h1 | ⟨c,rfl⟩
  ·exact kp.free h1
  ·exact h.new _ _ _ rfl
 refine hk _ _ ⟨g,cap,rfl⟩ (fun r x hr hx=>?_) (kp.new g0) (fun h=>h.upd gF) ⟨own2,fun g' n c h=>by cases h; exact g0⟩
 have:¬r=g:=by
  rcases hgo with h1 | ⟨c,rfl⟩
  ·exact (qH h1 hr).1
  ·exact h.own.ne hr hx
 rw [Hp.qK this]; exact hr
def V.offF (v:V):Nat→Int→List Int
 | 0,_=>[]
 | f+1,n=>if 0≤n∧n≤32 then n :: v.offF f (v.wQ (n+1)) else []
def V.offs (v:V):List Int:=v.offF 34 (v.wQ 0)
theorem V.offF_out {v:V}{f:Nat}{n:Int}(h:¬(0≤n∧n≤32)):v.offF f n=[]:=by
 cases f with
 | zero=>rfl
 | succ f=>simp [V.offF,h]
theorem V.offF_in {v:V}{f:Nat}{n:Int}(h:0≤n∧n≤32):v.offF (f+1) n=n :: v.offF f (v.wQ (n+1)):=by simp [V.offF,h]
theorem V.offF_len {v:V}:∀(f:Nat) (n:Int),(v.offF f n).length≤f
 | 0,n=>by simp [V.offF]
 | f+1,n=>by
  simp only [V.offF]
  split
  ·have:=V.offF_len (v:=v) f (v.wQ (n+1))
   simp; omega
  ·simp
theorem V.offs_len (v:V):v.offs.length≤34:=V.offF_len _ _
theorem V.offs_pos (v:V):decide (0 < v.offs.length)=(decide (0≤v.wQ 0) && decide (v.wQ 0≤32)):=by
 apply Bool.eq_iff_iff.2
 simp only [decide_eq_true_eq,Bool.and_eq_true]
 by_cases h:0≤v.wQ 0∧v.wQ 0≤32
 ·simp only [V.offs,V.offF_in h]; simp; exact h
 ·simp only [V.offs,V.offF_out h]; simp; omega
def memB (l:List Ba):List Sc:=l.flatMap fun x=>x.v.offs.map fun o=>⟨true,0,x.b,o⟩
theorem memB_cons (x:Ba)(l:List Ba):memB (x :: l)=(x.v.offs.map fun o=>⟨true,0,x.b,o⟩)++memB l:=rfl
theorem memB_app (l m:List Ba):memB (l++m)=memB l++memB m:=by simp [memB]
theorem memB_len:∀l:List Ba,(memB l).length≤34 * l.length
 | []=>by simp [memB]
 | x :: l=>by
  have h1:=memB_len l
  have h2:=x.v.offs_len
  rw [memB_cons]
  simp
  omega
def emptyB (k:Int)(v:V)(l:List Ba):Bool:=if k=7 then !(l.any fun x=>decide (0≤x.v.wQ 0) && decide (x.v.wQ 0≤32)) else decide (v.wQ 0 < 0)
theorem onlyStep_count (l:List Ba):∀acc,(l.foldl onlyStep acc).2=acc.2+(l.map fun x=>min 2 x.v.offs.length).sum:=by
 induction l with
 | nil=>intro acc; simp
 | cons x l ih=>
  intro acc
  rw [List.foldl_cons,ih,List.map_cons,List.sum_cons]
  unfold onlyStep
  by_cases h:x.v.wQ 0 < 0∨32 < x.v.wQ 0
  ·rw [if_pos h]
   have:x.v.offs=[]:=V.offF_out (by omega)
   rw [this]; simp
  ·rw [if_neg h]
   have h1:0≤x.v.wQ 0∧x.v.wQ 0≤32:=by omega
   by_cases h2:0≤x.v.wQ (x.v.wQ 0+1)∧x.v.wQ (x.v.wQ 0+1)≤32
   ·rw [if_pos h2]
    have:2≤x.v.offs.length:=by
     simp only [V.offs,V.offF_in h1,V.offF_in h2]; simp
    simp only []
    omega
   ·rw [if_neg h2]
    have:x.v.offs.length=1:=by
     simp only [V.offs,V.offF_in h1,V.offF_out h2]; simp
    simp only []
    omega
theorem memB_zero (l:List Ba):(memB l).length=0↔(l.map fun x=>min 2 x.v.offs.length).sum=0:=by
 induction l with
 | nil=>simp [memB]
 | cons x l ih=>
  rw [memB_cons,List.length_append,List.length_map,List.map_cons,List.sum_cons]
  omega
theorem memB_count (l:List Ba):(memB l).length≤1↔(l.map fun x=>min 2 x.v.offs.length).sum≤1:=by
 induction l with
 | nil=>simp [memB]
 | cons x l ih=>
  have h0:=memB_zero l
  rw [memB_cons,List.length_append,List.length_map,List.map_cons,List.sum_cons]
  omega
theorem onlyStep_none (l:List Ba)(h:(l.map fun x=>min 2 x.v.offs.length).sum=0):∀acc,l.foldl onlyStep acc=acc:=by
 induction l with
 | nil=>intro acc; rfl
 | cons x l ih=>
  intro acc
  rw [List.map_cons,List.sum_cons] at h
  rw [List.foldl_cons]
  have h0:x.v.offs.length=0:=by omega
  have:onlyStep acc x=acc:=by
   unfold onlyStep
   rw [if_pos]
   have:=x.v.offs_pos
   rw [h0] at this
   simp at this
   omega
  rw [this]
  exact ih (by omega) acc
theorem onlyStep_one (l:List Ba)(h:(l.map fun x=>min 2 x.v.offs.length).sum=1):∀acc,memB l=[(l.foldl onlyStep acc).1]:=by
 induction l with
 | nil=>simp at h
 | cons x l ih=>
  intro acc
  rw [List.map_cons,List.sum_cons] at h
  rw [List.foldl_cons,memB_cons]
  by_cases h0:x.v.offs.length=0
  ·have e0:x.v.offs=[]:=by simpa using h0
   rw [e0]
   exact ih (by omega) _
  ·have h1:x.v.offs.length=1:=by omega
   have hl:(l.map fun x=>min 2 x.v.offs.length).sum=0:=by omega
   rw [onlyStep_none l hl]
   have hm:memB l=[]:=by simpa using (memB_zero l).2 hl
   rw [hm]
   have hp:=x.v.offs_pos
   rw [h1] at hp
   simp at hp
   unfold onlyStep
   rw [if_neg (by omega)]
   have:x.v.offs=[x.v.wQ 0]:=by
    have h2:=h1
    simp only [V.offs,V.offF_in hp] at h2 ⊢
    simp at h2
    rw [h2]
   rw [this]
   simp
theorem onlyP_mem (l:List Ba):(decide ((onlyP l).2=1)=true→memB l=[(onlyP l).1])∧(decide ((onlyP l).2=1)=false→¬(memB l).length=1):=by
 have hc:=onlyStep_count l (⟨false,0,0,0⟩,0)
 have h1:=memB_count l
 have h0:=memB_zero l
 unfold onlyP
 rw [Nat.zero_add] at hc
 constructor
 ·intro h
  rw [decide_eq_true_eq,hc] at h
  exact onlyStep_one l h _
 ·intro h
  rw [decide_eq_false_iff_not,hc] at h
  omega
theorem decEq_Ba (a b:Ba):decide (a=b)=(decide (a.b=b.b) && (decide (a.v=b.v) && true)):=by
 apply Bool.eq_iff_iff.2
 cases a; cases b
 simp
@[go_sem] theorem eqV_Ba (a b:Ba):eqV (.st [(false,0,1,.i),(true,1,6,(.st [(false,0,1,.i),(false,1,1,.b),(false,2,1,.i),(false,3,1,.i),(false,4,1,.i),(false,5,1,.i)]))]) a.val b.val=some (decide (a=b)):=by
 rw [decEq_Ba]
 have e1:rd true 6 a.cs 1=some a.v.val:=rfl
 have e2:rd true 6 b.cs 1=some b.v.val:=rfl
 have e3:rd false 1 a.cs 0=some (.int .i64 a.b):=rfl
 have e4:rd false 1 b.cs 0=some (.int .i64 b.b):=rfl
 simp only [eqV,eqFs,Ba.val,e1,e2,e3,e4]
 have:=eqV_V a.v b.v
 simp only [eqV] at this
 simp [this]
theorem rowR.own {α:Type}{sz:Nat}{f:α→List Value}{e:TypeId}{l:List α}{F:Fz}{M:Hp}{u:Value}{F':Fz}{M':Hp}(h:rowR sz f e l F M u F' M'):jQ sz f e F M' u l:=by
 obtain ⟨_,⟨h1,h2,_⟩ | ⟨g,cap,h1,_,h3,h4,h5⟩⟩:=h
 ·exact .inl ⟨h2,h1⟩
 ·exact .inr ⟨g,cap,h3,h1,by rw [h5]; exact Hp.qJ _ _ _,h4⟩
theorem jQ.frame {α:Type}{sz:Nat}{f:α→List Value}{e e':TypeId}{l:List α}{F:Fz}{M M':Hp}{u:Value}(h:jQ sz f e F M u l)(hfr:∀r x,M r=some x→¬x.elem=e'→M' r=some x)(hne:¬e=e'):jQ sz f e F M' u l:=by
 rcases h with h | ⟨g,cap,h1,h2,h3,h4⟩
 ·exact .inl h
 ·exact .inr ⟨g,cap,h1,h2,hfr _ _ h3 hne,h4⟩
abbrev intC (n:Int):List Value:=[intV n]
theorem wD (n:Int):(intC n).length=1:=rfl
theorem intC_plain (n:Int):wZ (intC n):=by
 intro u hu
 simp [intC] at hu
 rw [hu]; rfl
theorem one_row {cs:List Value}{p:Nat}{v:Value}(h:(cs.drop p).take 1=[v]):cs[p]? = some v:=by
 have:=congrArg (fun t=>t[0]?) h
 simpa using this
theorem abs_pre {k:Int}{v:V}{l:List Ba}(h:absB k v l=true):l.length≤7∧(¬k=7→v.ok=true∧l=[])∧(∀x∈l,0≤x.v.w∧x.v.w≤62∧x.v.ok=true∧x.v.w=8∧0≤x.b∧x.b≤6):=by
 by_cases h7:k=7
 ·simp only [absB,h7,if_true,Bool.and_eq_true,jG,List.all_eq_true,decide_eq_true_eq] at h
  refine ⟨h.2.1,fun h=>absurd h7 h,fun x hx=>?_⟩
  obtain ⟨i,hi,rfl⟩:=List.getElem_of_mem hx
  have:=h.2.2 i (by simpa using hi)
  unfold okAt at this
  rw [List.getElem?_eq_getElem hi] at this
  simp only [baseB,Bool.and_eq_true,decide_eq_true_eq] at this
  have hb:=this.1.1.1.1
  have hv:=this.1.1.1.2
  have hw:=this.1.1.2
  exact ⟨by omega,by omega,hv,hw,hb.1,hb.2⟩
 ·simp only [absB,h7,if_false,Bool.and_eq_true,decide_eq_true_eq] at h
  have hl:l=[]:=by simpa using h.2
  subst hl
  exact ⟨by simp,fun _=>⟨h.1.1.2,rfl⟩,by simp⟩
theorem seq_assoc {P:Program}{a b c:SC}{Q:Post}{σ:Env}{F:Fz}{M:Hp}:W P (.seq a (.seq b c)) Q σ F M=W P (.seq (.seq a b) c) Q σ F M:=by
 have:(Post.andThen (W P b (Post.andThen (W P c Q) Q)) (Post.andThen (W P c Q) Q))=Post.andThen (W P b (Post.andThen (W P c Q) Q)) Q:=by
  funext x
  cases x <;> rfl
 show W P a (Post.andThen (W P b (Post.andThen (W P c Q) Q)) Q) σ F M=W P a (Post.andThen (W P b (Post.andThen (W P c Q) Q)) (Post.andThen (W P c Q) Q)) σ F M
 rw [this]
theorem most_ge {v:V}(h:v.ok=true):255≤wH v.w:=by
 have hw:isW v.w=true:=by simp [V.ok] at h; exact h.1
 have:=pow_w hw
 omega
theorem V.offF_spec {v:V}(hv:v.ok=true):∀(f:Nat) (n0:Int),0≤n0→34≤n0+f→
  (∀y,y∈v.offF f (v.wQ n0)↔n0≤y∧y≤32∧v.has y=true)∧((v.offF f (v.wQ n0)).length:Int)≤max 0 (33 - n0)
 | 0,n0,h0,hf=>⟨fun y=>by simp [V.offF]; omega,by simp [V.offF]; omega⟩
 | f+1,n0,h0,hf=>by
  have hm:=most_ge hv
  rcases nextR_spec hv h0 with ⟨a1,a2,a3,a4,a5⟩ | ⟨a1,a2⟩
  ·by_cases h32:v.wQ n0≤32
   ·obtain ⟨i1,i2⟩:=V.offF_spec hv f (v.wQ n0+1) (by omega) (by omega)
    rw [V.offF_in ⟨a1,h32⟩]
    refine ⟨fun y=>?_,by simp; omega⟩
    rw [List.mem_cons,i1]
    constructor
    ·rintro (rfl | ⟨b1,b2,b3⟩)
     ·exact ⟨a2,h32,a4⟩
     ·exact ⟨by omega,b2,b3⟩
    ·rintro ⟨b1,b2,b3⟩
     by_cases e:y=v.wQ n0
     ·exact .inl e
     ·by_cases e2:y < v.wQ n0
      ·rw [a5 y b1 e2] at b3; cases b3
      ·exact .inr ⟨by omega,b2,b3⟩
   ·rw [V.offF_out (by omega)]
    refine ⟨fun y=>?_,by simp; omega⟩
    simp
    intro b1 b2
    exact a5 y b1 (by omega)
  ·rw [a1,V.offF_out (by omega)]
   refine ⟨fun y=>?_,by simp; omega⟩
   simp
   intro b1 b2
   exact a2 y b1 (by omega)
theorem mem_offs {v:V}(hv:v.ok=true){y:Int}:y∈v.offs↔0≤y∧y≤32∧v.has y=true:=(V.offF_spec hv 34 0 (by omega) (by omega)).1 y
theorem mem_memB {l:List Ba}(hl:∀x∈l,x.v.ok=true){s:Sc}:s∈memB l↔s.p=true∧s.n=0∧0≤s.o∧s.o≤32∧pointsB l s.b s.o=true:=by
 unfold memB pointsB
 rw [List.mem_flatMap]
 constructor
 ·rintro ⟨x,hx,hs⟩
  rw [List.mem_map] at hs
  obtain ⟨y,hy,rfl⟩:=hs
  rw [mem_offs (hl x hx)] at hy
  refine ⟨rfl,rfl,hy.1,hy.2.1,?_⟩
  rw [List.any_eq_true]
  exact ⟨x,hx,by simp [hy.2.2]⟩
 ·rintro ⟨h1,h2,h3,h4,h5⟩
  rw [List.any_eq_true] at h5
  obtain ⟨x,hx,h6⟩:=h5
  simp only [Bool.and_eq_true,decide_eq_true_eq] at h6
  refine ⟨x,hx,?_⟩
  rw [List.mem_map]
  refine ⟨s.o,(mem_offs (hl x hx)).2 ⟨h3,h4,h6.2⟩,?_⟩
  cases s
  simp_all
theorem jQ.src {α:Type}{sz:Nat}{f:α→List Value}{e:TypeId}{F:Fz}{M:Hp}{u:Value}{l:List α}(hf:∀x,(f x).length=sz)(h:jQ sz f e F M u l):Src F M sz u l.length (l.flatMap f):=by
 refine ⟨gW hf l,?_⟩
 rcases h with ⟨h1,h2⟩ | ⟨g,cap,h1,h2,h3,h4,h5⟩
 ·exact .inl ⟨h1,by rw [h2]; rfl⟩
 ·exact .inr ⟨_,cap,h1,.inr ⟨g,0,_,rfl,qG h3,by rw [List.drop_zero,List.take_of_length_le]; rw [gW hf]; exact Nat.le_refl _⟩⟩
theorem apMG_any {α:Type}{sz bytes:Nat}{f:α→List Value}{P:Program}{s:Bool}{d:Option Nat}{l:List SO}{K:Env→Fz→Hp→Prop}{σ:Env}{F:Fz}{M0 M:Hp}{e:TypeId}{v u:Value}{xs ys:List α}
  (hf:∀x,(f x).length=sz)(hp:∀x,wZ (f x))(hbytes:bytes≤1000)(h:yY sz f e F M0 M v xs)(kp:Keep M0 M)(hs:Src F M sz u ys.length (ys.flatMap f))(hb:xs.length+ys.length≤1000000)
  (hk:∀v' M',(∀r x,M r=some x→¬x.elem=e→M' r=some x)→Keep M0 M'→(Old F M→Old F M')→yY sz f e F M0 M' v' (xs++ys)→opsW P s l K (put σ d v') F M') :
  apK P s d l K σ F M e sz bytes (some v) (some u):=by
 have hm:(xs.length+ys.length) * bytes≤1000000 * 1000:=Nat.mul_le_mul hb hbytes
 refine apK_of (h.own.own hf) hs (plainG hp ys) (by simp only [maxLen]; omega) (by omega) ?_
 rintro v' M' (⟨h0,h1,rfl,rfl⟩ | ⟨g,cap,hg,rfl,h1,h2,rfl⟩)
 ·have hys:ys=[]:=by simpa using h1
  have hxs:xs=[]:=by
   rcases h.own with ⟨_,h⟩ | ⟨g',cap',h,_⟩
   ·exact h
   ·rw [h] at h0; cases h0
  subst hys hxs
  exact hk _ _ (fun r x hr _=>hr) kp (fun h=>h) ⟨.inl ⟨rfl,rfl⟩,fun g n c h=>by cases h⟩
 rw [←List.length_append,←List.flatMap_append]
 have key:F g=none∧(M g=none∨∃c,v=.slice (some ⟨g,0,none⟩) xs.length c):=by
  rcases hg with ⟨c,hx⟩ | ⟨hx,hy⟩
  ·rcases h.own with ⟨h1,_⟩ | ⟨g',cap',h1,h2,_⟩
   ·rw [h1] at hx; cases hx
   ·rw [h1] at hx; cases hx; exact ⟨h2,.inr ⟨_,h1⟩⟩
  ·exact ⟨hx,.inl hy⟩
 have g0:M0 g=none:=by
  rcases key.2 with h1 | ⟨c,hv⟩
  ·exact kp.free h1
  ·exact h.new _ _ _ hv
 refine hk _ _ (fun r x hr hx=>?_) (kp.new g0) (fun h=>h.upd key.1) ⟨.inr ⟨g,cap,rfl,key.1,Hp.qJ _ _ _,by rw [List.length_append]; exact h1,h2⟩,fun g' n c h=>by cases h; exact g0⟩
 have:¬r=g:=by
  rcases key.2 with h1 | ⟨c,hv⟩
  ·exact (qH h1 hr).1
  ·rw [hv] at h; exact h.own.ne hr hx
 rw [Hp.qK this]; exact hr
def ofB (l:List Ba)(b:Int):Ba:=match l.find? (fun x=>decide (x.b=b)) with
 | some x=>x
 | none=>⟨b,V.nothing 8⟩
theorem ofB_b (l:List Ba)(b:Int):(ofB l b).b=b:=by
 unfold ofB
 split
 ·rename_i x h
  have:=List.find?_some h
  simpa using this
 ·rfl
theorem ofB_mem (l:List Ba)(b:Int):ofB l b∈l∨ofB l b=⟨b,V.nothing 8⟩:=by
 unfold ofB
 split
 ·rename_i x h
  exact .inl (List.mem_of_find?_eq_some h)
 ·exact .inr rfl
theorem okAt_base {l : List Ba} (h : jG l = true) : (∀ x ∈ l, baseB x = true) ∧ l.Pairwise (fun x y => x.b < y.b) := by
  unfold jG at h
  rw [Bool.and_eq_true, List.all_eq_true] at h
  have hj : ∀ j, j < l.length → okAt l j = true := fun j hj => h.2 j (by simpa using hj)
  have hlt : ∀ j (hj1 : j + 1 < l.length), (l[j]).b < (l[j + 1]).b := by
    intro j hj1
    have := hj (j + 1) hj1
    unfold okAt at this
    rw [List.getElem?_eq_getElem hj1] at this
    simp only [Nat.add_sub_cancel, List.getElem?_eq_getElem (by omega : j < l.length), Bool.and_eq_true, Bool.or_eq_true, decide_eq_true_eq] at this
    omega
  refine ⟨fun x hx => ?_, ?_⟩
  · obtain ⟨i, hi, rfl⟩ := List.getElem_of_mem hx
    have := hj i hi
    unfold okAt at this
    rw [List.getElem?_eq_getElem hi] at this
    simp only [Bool.and_eq_true] at this
    exact this.1
  · rw [List.pairwise_iff_getElem]
    intro i j hi hj' hij
    have key : ∀ d (hd : i + d + 1 < l.length), (l[i]).b < (l[i + d + 1]).b := by
      intro d
      induction d with
      | zero => intro hd; exact hlt i hd
      | succ d ih => intro hd; have h1 := ih (by omega); have h2 := hlt (i + d + 1) (by omega); have e : i + (d + 1) + 1 = i + d + 1 + 1 := by omega
                     simp only [e] at *; omega
    have := key (j - i - 1) (by omega)
    have e : i + (j - i - 1) + 1 = j := by omega
    simpa only [e] using this
theorem ptrs_of {l:List Ba}(h1:∀x∈l,baseB x=true)(h2:l.Pairwise (fun x y=>x.b < y.b)):jG l=true:=by
 refine ptrs_all (fun j hj=>?_)
 unfold okAt
 rw [List.getElem?_eq_getElem hj]
 simp only [h1 _ (List.getElem_mem hj),Bool.true_and,Bool.or_eq_true,decide_eq_true_eq]
 by_cases h0:j=0
 ·exact .inl h0
 ·right
  rw [List.getElem?_eq_getElem (by omega:j - 1 < l.length)]
  rw [List.pairwise_iff_getElem] at h2
  simpa using h2 (j - 1) j (by omega) hj (by omega)
theorem points_of {l:List Ba}(h:jG l=true)(b o:Int):pointsB l b o=(ofB l b).v.has o:=by
 have hp:=(okAt_base h).2
 clear h
 induction l with
 | nil=>rfl
 | cons x l ih=>
  rw [List.pairwise_cons] at hp
  have ih':=ih hp.2
  unfold pointsB ofB
  rw [List.any_cons,List.find?_cons]
  by_cases hx:x.b=b
  ·have hz:(l.any fun x=>decide (x.b=b) && x.v.has o)=false:=by
    rw [List.any_eq_false]
    intro y hy
    have:=hp.1 y hy
    have:¬y.b=b:=by omega
    simp [this]
   simp [hx,hz]
  ·simp only [hx,decide_false,Bool.false_and,Bool.false_or]
   exact ih'
def eachL (z:Nat→Ba)(n:Nat):List Ba:=((List.range n).map z).filter fun x=>decide (0 < x.v.offs.length)
theorem eachL_succ (z:Nat→Ba)(n:Nat):eachL z (n+1)=eachL z n++(if 0 < (z n).v.offs.length then [z n] else []):=by
 unfold eachL
 rw [List.range_succ,List.map_append,List.filter_append]
 simp [List.filter_cons]
theorem eachL_len (z:Nat→Ba)(n:Nat):(eachL z n).length≤n:=by
 unfold eachL
 exact Nat.le_trans (List.length_filter_le _ _) (by simp)
structure EachR (z:Nat→Ba):Prop where
 b:∀i,i < 7→(z i).b=i
 ok:∀i,i < 7→(z i).v.ok=true∧(z i).v.w=8
 null:∀y,0≤y→y≤255→(z 0).v.has y=true→y=0
theorem eachL_base {z:Nat→Ba}(h:EachR z):jG (eachL z 7)=true:=by
 refine ptrs_of (fun x hx=>?_) ?_
 ·unfold eachL at hx
  rw [List.mem_filter,List.mem_map] at hx
  obtain ⟨⟨i,hi,rfl⟩,ho⟩:=hx
  rw [List.mem_range] at hi
  have hb:=h.b i hi
  obtain ⟨hok,hw⟩:=h.ok i hi
  unfold baseB
  rw [hb,hok,hw]
  by_cases h0:i=0
  ·subst h0
   rw [V.offs_pos] at ho
   simp only [Bool.and_eq_true,decide_eq_true_eq] at ho
   obtain ⟨s1,s2,s3⟩:=some_has hok (by omega)
   have hw':wH (z 0).v.w=255:=by rw [hw]; decide
   rw [hw'] at s2
   have e0:=h.null _ s1 s2 s3
   rw [e0] at s3
   obtain ⟨q1,q2⟩:=single_of hok (by omega) (by omega) s3 (fun y y0 y1 y2=>h.null y y0 (by omega) y2)
   simp [q1,q2]
  ·have:¬(i:Int)=0:=by omega
   have h6:(i:Int)≤6:=by omega
   have h00:(0:Int)≤i:=by omega
   simp [h6,h0]
 ·unfold eachL
  refine List.Pairwise.filter _ ?_
  rw [List.pairwise_map]
  refine List.Pairwise.imp_of_mem ?_ List.pairwise_lt_range
  intro a b ha hb hab
  rw [List.mem_range] at ha hb
  rw [h.b a ha,h.b b hb]
  omega
theorem eachL_of {z:Nat→Ba}(h:EachR z){b:Nat}(hb:b < 7){o:Int}(h0:0≤o)(h1:o≤32):pointsB (eachL z 7) b o=(z b).v.has o:=by
 apply Bool.eq_iff_iff.2
 unfold pointsB eachL
 rw [List.any_eq_true]
 constructor
 ·rintro ⟨x,hx,hs⟩
  rw [List.mem_filter,List.mem_map] at hx
  obtain ⟨⟨i,hi,rfl⟩,_⟩:=hx
  rw [List.mem_range] at hi
  simp only [Bool.and_eq_true,decide_eq_true_eq,h.b i hi] at hs
  have:i=b:=by omega
  rw [←this]; exact hs.2
 ·intro hh
  refine ⟨z b,?_,by simp [h.b b hb,hh]⟩
  rw [List.mem_filter,List.mem_map]
  refine ⟨⟨b,by simpa using hb,rfl⟩,?_⟩
  have:o∈(z b).v.offs:=(mem_offs (h.ok b hb).1).2 ⟨h0,h1,hh⟩
  have:=List.length_pos_of_mem this
  simpa using this
theorem rowR.mine {α:Type}{sz:Nat}{f:α→List Value}{e:TypeId}{l:List α}{F:Fz}{M0 M:Hp}{u:Value}{F':Fz}{M':Hp}(h:rowR sz f e l F M u F' M')(kp:Keep M0 M):yY sz f e F M0 M' u l:=by
 refine ⟨h.own,fun g n c hu=>?_⟩
 obtain ⟨_,⟨_,h2,_⟩ | ⟨g',cap,_,h2,h3,_⟩⟩:=h
 ·rw [h2] at hu; cases hu
 ·rw [h3] at hu; cases hu; exact kp.free h2
structure BothB (x y z:Ba):Prop where
 b:z.b=x.b
 ok:z.v.ok=true
 w:z.v.w=8
 all:∀o,0≤o→o≤32→x.v.has o=true∨y.v.has o=true→z.v.has o=true
 one:∀n0,(∀o,0≤o→o≤32→x.v.has o=true∨y.v.has o=true→o=n0)→∀o,0≤o→o≤255→z.v.has o=true→o=n0
structure PreB (x y:Ba):Prop where
 b:y.b=x.b
 okx:x.v.ok=true
 wx:x.v.w=8
 oky:y.v.ok=true
 wy:y.v.w=8
theorem baseB_ok {x:Ba}(h:baseB x=true):x.v.ok=true∧x.v.w=8∧0≤x.b∧x.b≤6∧(x.b=0→∀o,0≤o→o≤255→x.v.has o=true→o=0):=by
 simp only [baseB,Bool.and_eq_true,decide_eq_true_eq] at h
 have hb:=h.1.1.1
 have hv:=h.1.1.2
 have hw:=h.1.2
 refine ⟨hv,hw,hb.1,hb.2,fun h0 o o0 o1 ho=>?_⟩
 have hl:=h.2
 rw [h0] at hl
 simp at hl
 obtain ⟨_,_,_,q⟩:=is1_mem hv hl.1
 have hm:wH x.v.w=255:=by rw [hw]; decide
 have:=q o o0 (by omega) ho
 rw [this,hl.2]
theorem ofB_ok {l:List Ba}(h:jG l=true)(b:Int):(ofB l b).v.ok=true∧(ofB l b).v.w=8∧(b=0→∀o,0≤o→o≤255→(ofB l b).v.has o=true→o=0):=by
 have hb:=ofB_b l b
 rcases ofB_mem l b with hm | he
 ·obtain ⟨h1,h2,_,_,h5⟩:=baseB_ok ((okAt_base h).1 _ hm)
  exact ⟨h1,h2,fun h0=>h5 (by rw [hb,h0])⟩
 ·rw [he]
  exact ⟨(by decide:(V.nothing 8).ok=true),rfl,fun _ _ _ _ h=>by cases h⟩
theorem ofB_pre {l1 l2:List Ba}(h1:jG l1=true)(h2:jG l2=true)(b:Int):PreB (ofB l1 b) (ofB l2 b):=by
 obtain ⟨a1,a2,_⟩:=ofB_ok h1 b
 obtain ⟨b1,b2,_⟩:=ofB_ok h2 b
 exact ⟨by rw [ofB_b,ofB_b],a1,a2,b1,b2⟩
theorem bothB_each {l1 l2:List Ba}(h1:jG l1=true)(h2:jG l2=true){z:Nat→Ba}(hz:∀b:Nat,b < 7→BothB (ofB l1 b) (ofB l2 b) (z b)):EachR z:=by
 refine ⟨fun i hi=>by rw [(hz i hi).b,ofB_b],fun i hi=>⟨(hz i hi).ok,(hz i hi).w⟩,fun y y0 y1 hy=>?_⟩
 refine (hz 0 (by omega)).one 0 (fun o o0 o1 ho=>?_) y y0 y1 hy
 rcases ho with ho | ho
 ·exact (ofB_ok h1 0).2.2 rfl o o0 (by omega) ho
 ·exact (ofB_ok h2 0).2.2 rfl o o0 (by omega) ho
theorem points_in {l:List Ba}(h:jG l=true){b o:Int}(hp:pointsB l b o=true):0≤b∧b≤6:=by
 unfold pointsB at hp
 rw [List.any_eq_true] at hp
 obtain ⟨x,hx,hs⟩:=hp
 simp only [Bool.and_eq_true,decide_eq_true_eq] at hs
 obtain ⟨_,_,h3,h4,_⟩:=baseB_ok ((okAt_base h).1 _ hx)
 omega
def memOf (k:Int)(v:V)(l:List Ba)(s:Sc):Prop:=
 if k=7 then s.p=true∧s.n=0∧0≤s.o∧s.o≤32∧pointsB l s.b s.o=true else s.p=false∧s.b=0∧s.o=0∧0≤s.n∧s.n≤wH v.w∧v.has s.n=true
theorem memOf_has {k:Int}{v:V}{l:List Ba}{s:Sc}(h:memOf k v l s):hasB k v l s=true:=by
 unfold memOf at h
 unfold hasB
 split <;> simp_all
structure BothA (k:Int)(v1:V)(l1:List Ba)(v2:V)(l2:List Ba)(v:V)(l:List Ba):Prop where
 may:absB k v l=true
 left:∀s,memOf k v1 l1 s→hasB k v l s=true
 right:∀s,memOf k v2 l2 s→hasB k v l s=true
 one:∀s,(∀t,memOf k v1 l1 t∨memOf k v2 l2 t→t=s)→∀t,memOf k v l t→t=s
theorem abs_pair {k:Int}{v1 v2:V}{l1 l2:List Ba}(h1:absB k v1 l1=true)(h2:absB k v2 l2=true) :
  (k=7∧v1=V.zero∧v2=V.zero∧jG l1=true∧jG l2=true)∨(¬k=7∧0 < wK k∧v1.ok=true∧v2.ok=true∧v1.w=wK k∧v2.w=wK k∧l1=[]∧l2=[]):=by
 by_cases h7:k=7
 ·simp only [absB,h7,if_true,Bool.and_eq_true,decide_eq_true_eq] at h1 h2
  exact .inl ⟨h7,h1.1,h2.1,h1.2,h2.2⟩
 ·simp only [absB,h7,if_false,Bool.and_eq_true,decide_eq_true_eq,List.length_eq_zero_iff] at h1 h2
  exact .inr ⟨h7,h1.1.1.1,h1.1.1.2,h2.1.1.2,h1.1.2,h2.1.2,h1.2,h2.2⟩
theorem bothA_num {k:Int}{v1 v2 z:V}(h7:¬k=7)(hk:0 < wK k)(w1:v1.w=wK k)(w2:v2.w=wK k)(h:BothR v1 v2 z):BothA k v1 [] v2 [] z []:=by
 refine ⟨?_,fun s hs=>?_,fun s hs=>?_,fun s hs t ht=>?_⟩
 rotate_right
 ·simp only [memOf,h7,if_false] at hs ht
  obtain ⟨t1,t2,t3,t4,t5,t6⟩:=ht
  have hm:∀y,0≤y→y≤wH v1.w→v1.has y=true∨v2.has y=true→(⟨false,y,0,0⟩:Sc)=s:=fun y y0 y1 hy=>by
   rcases hy with hy | hy
   ·exact hs _ (.inl ⟨rfl,rfl,rfl,y0,y1,hy⟩)
   ·exact hs _ (.inr ⟨rfl,rfl,rfl,y0,by rw [w2,←w1]; exact y1,hy⟩)
  rw [h.w] at t5
  by_cases he:∃y,0≤y∧y≤wH v1.w∧(v1.has y=true∨v2.has y=true)
  ·obtain ⟨y,y0,y1,hy⟩:=he
   have e:=hm y y0 y1 hy
   have:=h.one y (fun x x0 x1 hx=>by have:=hm x x0 x1 hx; rw [←e] at this; injection this) t.n t4 t5 t6
   rw [←e]
   obtain ⟨tp,tn,tb,to⟩:=t
   simp only at t1 t2 t3 this
   rw [t1,t2,t3,this]
  ·have:=h.one (t.n+1) (fun x x0 x1 hx=>absurd ⟨x,x0,x1,hx⟩ he) t.n t4 t5 t6
   omega
 ·simp only [absB,h7,if_false,h.ok,h.w,w1]; simp [hk]
 ·simp only [memOf,h7,if_false] at hs
  simp only [hasB,h7,if_false]
  exact h.left _ hs.2.2.2.1 hs.2.2.2.2.1 hs.2.2.2.2.2
 ·simp only [memOf,h7,if_false] at hs
  simp only [hasB,h7,if_false]
  exact h.right _ hs.2.2.2.1 hs.2.2.2.2.1 hs.2.2.2.2.2
theorem bothA_ptr {l1 l2:List Ba}(h1:jG l1=true)(h2:jG l2=true){z:Nat→Ba}(hz:∀b:Nat,b < 7→BothB (ofB l1 b) (ofB l2 b) (z b)):BothA 7 V.zero l1 V.zero l2 V.zero (eachL z 7):=by
 have he:=bothB_each h1 h2 hz
 refine ⟨?_,fun s hs=>?_,fun s hs=>?_,fun s hs t ht=>?_⟩
 rotate_right
 ·simp only [memOf,if_true] at hs ht
  obtain ⟨t1,t2,o0,o1,hp⟩:=ht
  obtain ⟨b0,b1⟩:=points_in (eachL_base he) hp
  obtain ⟨b,hb⟩:∃b:Nat,t.b=b:=⟨t.b.toNat,by omega⟩
  rw [hb,eachL_of he (by omega) o0 o1] at hp
  have hm:∀o,0≤o→o≤32→(ofB l1 b).v.has o=true∨(ofB l2 b).v.has o=true→(⟨true,0,b,o⟩:Sc)=s:=fun o q0 q1 ho=>by
   refine hs _ ?_
   rcases ho with ho | ho
   ·exact .inl ⟨rfl,rfl,q0,q1,by rw [points_of h1]; exact ho⟩
   ·exact .inr ⟨rfl,rfl,q0,q1,by rw [points_of h2]; exact ho⟩
  by_cases hx:∃o,0≤o∧o≤32∧((ofB l1 b).v.has o=true∨(ofB l2 b).v.has o=true)
  ·obtain ⟨o,q0,q1,ho⟩:=hx
   have e:=hm o q0 q1 ho
   have:=(hz b (by omega)).one o (fun x x0 x1 hx=>by have:=hm x x0 x1 hx; rw [←e] at this; injection this) t.o o0 (by omega) hp
   rw [←e]
   obtain ⟨tp,tn,tb,to⟩:=t
   simp only at t1 t2 hb this
   rw [t1,t2,hb,this]
  ·have:=(hz b (by omega)).one (t.o+1) (fun x x0 x1 hx'=>absurd ⟨x,x0,x1,hx'⟩ hx) t.o o0 (by omega) hp
   omega
 ·simp only [absB,if_true,eachL_base he]; decide
 ·simp only [memOf,if_true] at hs
  obtain ⟨_,_,o0,o1,hp⟩:=hs
  obtain ⟨b0,b1⟩:=points_in h1 hp
  obtain ⟨b,hb⟩:∃b:Nat,s.b=b:=⟨s.b.toNat,by omega⟩
  simp only [hasB,if_true,hb]
  rw [eachL_of he (by omega) o0 o1]
  rw [points_of h1,hb] at hp
  exact (hz b (by omega)).all _ o0 o1 (.inl hp)
 ·simp only [memOf,if_true] at hs
  obtain ⟨_,_,o0,o1,hp⟩:=hs
  obtain ⟨b0,b1⟩:=points_in h2 hp
  obtain ⟨b,hb⟩:∃b:Nat,s.b=b:=⟨s.b.toNat,by omega⟩
  simp only [hasB,if_true,hb]
  rw [eachL_of he (by omega) o0 o1]
  rw [points_of h2,hb] at hp
  exact (hz b (by omega)).all _ o0 o1 (.inr hp)
def arityV (op:Int):Int:=if op=1∨op=2 then 0 else if 3≤op∧op≤7 then 1 else if 8≤op∧op≤22 then 2 else -1
def manyV (op:Int):Int:=if op=1∨op=2 then 0 else if 3≤op∧op≤7 then 1 else 2
def kindAt (es:List Xp)(i:Int):Int:=(es[i.toNat]?.map (·.kind)).getD 0
def aheadB (k i:Int):Bool:=decide (0≤k) && decide (k < i)
def placesB (x:Xp)(i:Int):Bool:=
 if arityV x.op=0 then decide (x.a=0) && decide (x.b=0) else if arityV x.op=1 then aheadB x.a i && decide (x.b=0) else if arityV x.op=2 then aheadB x.a i && aheadB x.b i else false
def leafB (nv:Nat)(x:Xp):Bool:=
 if x.op=2 then decide (x.kind=7) && decide (1≤x.n) && decide (x.n≤nv) else (decide (x.kind=7) && decide (x.n=0)) || (isK x.kind && isN x.n (ofW x.kind))
def oneB (es:List Xp)(x:Xp):Bool:=
 if x.op=3 then isS x.kind && decide (kindAt es x.a=7) else if x.op=4 then isK x.kind && isK (kindAt es x.a) else if x.op=7 then decide (x.kind=6) else isK x.kind && decide (kindAt es x.a=x.kind)
def twoB (es:List Xp)(x:Xp):Bool:=
 if x.op=18∨x.op=19 then decide (x.kind=6) && isK (kindAt es x.a) && decide (kindAt es x.a=kindAt es x.b)
 else if x.op=20 then decide (x.kind=7) && decide (kindAt es x.a=7) && decide (kindAt es x.b=6)
 else if x.op=21∨x.op=22 then decide (x.kind=6) && decide (kindAt es x.a=7) && decide (kindAt es x.b=7)
 else isK x.kind && decide (kindAt es x.a=x.kind) && decide (kindAt es x.b=x.kind)
def exprB (nv:Nat)(es:List Xp)(i:Nat)(x:Xp):Bool:=
 placesB x i && (if arityV x.op=0 then leafB nv x else if arityV x.op=1 then decide (x.n=0) && oneB es x else decide (x.n=0) && twoB es x)
def kA (es:List Xp)(x:Xp):Int:=if 0 < manyV x.op then kindAt es x.a else 0
def kB (es:List Xp)(x:Xp):Int:=if 1 < manyV x.op then kindAt es x.b else 0
theorem wK_of {k:Int}(h:isK k=true):wK k=ofW k:=by simp [wK,h]
def exprsB (nv:Nat)(es:List Xp)(n:Nat):Bool:=(List.range n).all fun i=>match es[i]? with | some x=>exprB nv es i x | none=>true
theorem exprs_succ (nv:Nat)(es:List Xp){n:Nat}(h:n < es.length):exprsB nv es (n+1)=(exprsB nv es n && exprB nv es n es[n]):=by
 unfold exprsB
 rw [List.range_succ,List.all_append]
 simp [List.getElem?_eq_getElem h]
def isEB (es:List Xp)(e kind:Int):Bool:=decide (0≤e) && decide (e < es.length) && decide (kindAt es e=kind)
def bareTo (s:Sm):Int:=if s.op=1∨s.op=2∨s.op=3 then s.to else 0
def yV (s:Sm):Int:=if s.op=1∨s.op=2 then s.kind else 0
def bareE (s:Sm):Int:=if s.op=1∨s.op=4∨s.op=5∨s.op=6 then s.e else 0
def bareN (s:Sm):Int:=if s.op=3 then s.n else 0
def jY (s:Sm):Bool:=
 !((decide (0 < s.els.length) && !decide (s.op=5)) || (decide (0 < s.body.length) && !decide (s.op=5) && !decide (s.op=6))) &&
 (decide (s.to=bareTo s) && decide (s.kind=yV s) && decide (s.e=bareE s) && decide (s.n=bareN s))
def stmtB (nv nn:Nat)(es:List Xp)(s:Sm):Bool:=
 jY s && (if s.op=1 then isEB es s.to 7 && isS s.kind && isEB es s.e s.kind else if s.op=2 then isEB es s.to 7 && isK s.kind
  else if s.op=3 then isEB es s.to 7 && decide ((nv:Int) < s.n) && decide (s.n≤nv+nn) else if s.op=4 then isEB es s.e 7 else if s.op=5∨s.op=6 then isEB es s.e 6 else decide (s.op=7))
def Xp.cs (s:Xp):List Value:=[.int .i64 s.op,.int .i64 s.kind,.int .i64 s.n,.int .i64 s.a,.int .i64 s.b]
def Xp.val (s:Xp):Value:=.agg s.cs.toArray
@[go_sem] theorem Xp.fold2 {s:Xp}:Value.agg s.cs.toArray=s.val:=rfl
@[go_sem] theorem Xp.cells_m {s:Xp}:Value.cells.match_1 (fun _=>Array Value) s.val (fun cs=>cs) (fun u=>#[u])=s.cs.toArray:=rfl
@[go_sem] theorem Xp.cells_val {s:Xp}:s.val.cells=s.cs.toArray:=rfl
@[go_sem] theorem Xp.cs_size {s:Xp}:s.cs.toArray.size=5:=rfl
@[go_sem] theorem Xp.cs_len {s:Xp}:s.cs.length=5:=rfl
@[go_sem] theorem Xp.jD {s:Xp}:wZ s.cs=True:=by
 apply eq_true
 intro u hu
 simp only [Xp.cs,List.mem_cons,List.not_mem_nil,or_false] at hu
 rcases hu with rfl | rfl | rfl | rfl | rfl <;> rfl
@[go_sem] theorem Xp.take_all {s:Xp}:s.cs.take 5=s.cs:=rfl
@[go_sem] theorem Xp.take0 {s:Xp}:s.cs.take 0=[]:=rfl
@[go_sem] theorem Xp.drop_all {s:Xp}:s.cs.drop 5=[]:=rfl
@[go_sem] theorem Xp.ld {s:Xp}:rd true 5 s.cs 0=some s.val:=rfl
@[go_sem] theorem Xp.get0 {s:Xp}:s.cs[0]? = some (.int .i64 s.op):=rfl
@[go_sem] theorem Xp.ld0 {s:Xp}:rd false 1 s.cs 0=some (.int .i64 s.op):=rfl
@[go_sem] theorem Xp.get1 {s:Xp}:s.cs[1]? = some (.int .i64 s.kind):=rfl
@[go_sem] theorem Xp.ld1 {s:Xp}:rd false 1 s.cs 1=some (.int .i64 s.kind):=rfl
@[go_sem] theorem Xp.get2 {s:Xp}:s.cs[2]? = some (.int .i64 s.n):=rfl
@[go_sem] theorem Xp.ld2 {s:Xp}:rd false 1 s.cs 2=some (.int .i64 s.n):=rfl
@[go_sem] theorem Xp.get3 {s:Xp}:s.cs[3]? = some (.int .i64 s.a):=rfl
@[go_sem] theorem Xp.ld3 {s:Xp}:rd false 1 s.cs 3=some (.int .i64 s.a):=rfl
@[go_sem] theorem Xp.get4 {s:Xp}:s.cs[4]? = some (.int .i64 s.b):=rfl
@[go_sem] theorem Xp.ld4 {s:Xp}:rd false 1 s.cs 4=some (.int .i64 s.b):=rfl
theorem Xp.row {cs:List Value}{p:Nat}{s:Xp}(h:(cs.drop p).take 5=s.cs):cs[p]? = some (.int .i64 s.op)∧cs[p+1]? = some (.int .i64 s.kind)∧cs[p+2]? = some (.int .i64 s.n)∧cs[p+3]? = some (.int .i64 s.a)∧cs[p+4]? = some (.int .i64 s.b):=by
 have key:∀j,j < 5→cs[p+j]? = s.cs[j]?:=fun j hj=>by
  rw [←h,List.getElem?_take_of_lt hj,List.getElem?_drop]
 exact ⟨key 0 (by decide),key 1 (by decide),key 2 (by decide),key 3 (by decide),key 4 (by decide)⟩
@[go_sem] theorem drop_five {a b c d e:Value}:[a,b,c,d,e].drop 5=[]:=rfl
def Sm.cs (s:Sm):List Value:=[.int .i64 s.op,.int .i64 s.to,.int .i64 s.kind,.int .i64 s.e,.int .i64 s.n,.slice s.ba s.body.length s.bc,.slice s.ea s.els.length s.ec]
def Sm.val (s:Sm):Value:=.agg s.cs.toArray
@[go_sem] theorem Sm.fold2 {s:Sm}:Value.agg s.cs.toArray=s.val:=rfl
@[go_sem] theorem Sm.cells_m {s:Sm}:Value.cells.match_1 (fun _=>Array Value) s.val (fun cs=>cs) (fun u=>#[u])=s.cs.toArray:=rfl
@[go_sem] theorem Sm.cells_val {s:Sm}:s.val.cells=s.cs.toArray:=rfl
@[go_sem] theorem Sm.cs_size {s:Sm}:s.cs.toArray.size=7:=rfl
@[go_sem] theorem Sm.cs_len {s:Sm}:s.cs.length=7:=rfl
@[go_sem] theorem Sm.jD {s:Sm}:wZ s.cs=True:=by
 apply eq_true
 intro u hu
 simp only [Sm.cs,List.mem_cons,List.not_mem_nil,or_false] at hu
 rcases hu with rfl | rfl | rfl | rfl | rfl | rfl | rfl <;> rfl
theorem Sm.len (s:Sm):s.cs.length=7:=rfl
@[go_sem] theorem Sm.take_all {s:Sm}:s.cs.take 7=s.cs:=rfl
@[go_sem] theorem Sm.take0 {s:Sm}:s.cs.take 0=[]:=rfl
@[go_sem] theorem Sm.drop_all {s:Sm}:s.cs.drop 7=[]:=rfl
@[go_sem] theorem Sm.ld {s:Sm}:rd true 7 s.cs 0=some s.val:=rfl
@[go_sem] theorem Sm.get0 {s:Sm}:s.cs[0]? = some (.int .i64 s.op):=rfl
@[go_sem] theorem Sm.ld0 {s:Sm}:rd false 1 s.cs 0=some (.int .i64 s.op):=rfl
@[go_sem] theorem Sm.get1 {s:Sm}:s.cs[1]? = some (.int .i64 s.to):=rfl
@[go_sem] theorem Sm.ld1 {s:Sm}:rd false 1 s.cs 1=some (.int .i64 s.to):=rfl
@[go_sem] theorem Sm.get2 {s:Sm}:s.cs[2]? = some (.int .i64 s.kind):=rfl
@[go_sem] theorem Sm.ld2 {s:Sm}:rd false 1 s.cs 2=some (.int .i64 s.kind):=rfl
@[go_sem] theorem Sm.get3 {s:Sm}:s.cs[3]? = some (.int .i64 s.e):=rfl
@[go_sem] theorem Sm.ld3 {s:Sm}:rd false 1 s.cs 3=some (.int .i64 s.e):=rfl
@[go_sem] theorem Sm.get4 {s:Sm}:s.cs[4]? = some (.int .i64 s.n):=rfl
@[go_sem] theorem Sm.ld4 {s:Sm}:rd false 1 s.cs 4=some (.int .i64 s.n):=rfl
@[go_sem] theorem Sm.get5 {s:Sm}:s.cs[5]? = some (.slice s.ba s.body.length s.bc):=rfl
@[go_sem] theorem Sm.ld5 {s:Sm}:rd false 1 s.cs 5=some (.slice s.ba s.body.length s.bc):=rfl
@[go_sem] theorem Sm.get6 {s:Sm}:s.cs[6]? = some (.slice s.ea s.els.length s.ec):=rfl
@[go_sem] theorem Sm.ld6 {s:Sm}:rd false 1 s.cs 6=some (.slice s.ea s.els.length s.ec):=rfl
theorem Sm.row {cs:List Value}{p:Nat}{s:Sm}(h:(cs.drop p).take 7=s.cs):cs[p]? = some (.int .i64 s.op)∧cs[p+1]? = some (.int .i64 s.to)∧cs[p+2]? = some (.int .i64 s.kind)∧cs[p+3]? = some (.int .i64 s.e)∧cs[p+4]? = some (.int .i64 s.n)∧cs[p+5]? = some (.slice s.ba s.body.length s.bc)∧cs[p+6]? = some (.slice s.ea s.els.length s.ec):=by
 have key:∀j,j < 7→cs[p+j]? = s.cs[j]?:=fun j hj=>by
  rw [←h,List.getElem?_take_of_lt hj,List.getElem?_drop]
 exact ⟨key 0 (by decide),key 1 (by decide),key 2 (by decide),key 3 (by decide),key 4 (by decide),key 5 (by decide),key 6 (by decide)⟩
structure Pg where
 big:Bool
 ptr:Int
 vA:Option Addr
 vC:Nat
 vars:List Int
 nA:Option Addr
 nC:Nat
 news:List Int
 eA:Option Addr
 eC:Nat
 exprs:List Xp
 sA:Option Addr
 sC:Nat
 stmts:List Sm
 mA:Option Addr
 mC:Nat
 main:List Int
def Pg.cs (s:Pg):List Value:=[.bool s.big,.int .i64 s.ptr,.slice s.vA s.vars.length s.vC,.slice s.nA s.news.length s.nC,.slice s.eA s.exprs.length s.eC,.slice s.sA s.stmts.length s.sC,.slice s.mA s.main.length s.mC]
def Pg.val (s:Pg):Value:=.agg s.cs.toArray
@[go_sem] theorem Pg.fold2 {s:Pg}:Value.agg s.cs.toArray=s.val:=rfl
@[go_sem] theorem Pg.cells_m {s:Pg}:Value.cells.match_1 (fun _=>Array Value) s.val (fun cs=>cs) (fun u=>#[u])=s.cs.toArray:=rfl
@[go_sem] theorem Pg.cells_val {s:Pg}:s.val.cells=s.cs.toArray:=rfl
@[go_sem] theorem Pg.cs_size {s:Pg}:s.cs.toArray.size=7:=rfl
@[go_sem] theorem Pg.cs_len {s:Pg}:s.cs.length=7:=rfl
@[go_sem] theorem Pg.jD {s:Pg}:wZ s.cs=True:=by
 apply eq_true
 intro u hu
 simp only [Pg.cs,List.mem_cons,List.not_mem_nil,or_false] at hu
 rcases hu with rfl | rfl | rfl | rfl | rfl | rfl | rfl <;> rfl
@[go_sem] theorem Pg.take_all {s:Pg}:s.cs.take 7=s.cs:=rfl
@[go_sem] theorem Pg.take0 {s:Pg}:s.cs.take 0=[]:=rfl
@[go_sem] theorem Pg.drop_all {s:Pg}:s.cs.drop 7=[]:=rfl
@[go_sem] theorem Pg.ld {s:Pg}:rd true 7 s.cs 0=some s.val:=rfl
@[go_sem] theorem Pg.get0 {s:Pg}:s.cs[0]? = some (.bool s.big):=rfl
@[go_sem] theorem Pg.ld0 {s:Pg}:rd false 1 s.cs 0=some (.bool s.big):=rfl
@[go_sem] theorem Pg.get1 {s:Pg}:s.cs[1]? = some (.int .i64 s.ptr):=rfl
@[go_sem] theorem Pg.ld1 {s:Pg}:rd false 1 s.cs 1=some (.int .i64 s.ptr):=rfl
@[go_sem] theorem Pg.get2 {s:Pg}:s.cs[2]? = some (.slice s.vA s.vars.length s.vC):=rfl
@[go_sem] theorem Pg.ld2 {s:Pg}:rd false 1 s.cs 2=some (.slice s.vA s.vars.length s.vC):=rfl
@[go_sem] theorem Pg.get3 {s:Pg}:s.cs[3]? = some (.slice s.nA s.news.length s.nC):=rfl
@[go_sem] theorem Pg.ld3 {s:Pg}:rd false 1 s.cs 3=some (.slice s.nA s.news.length s.nC):=rfl
@[go_sem] theorem Pg.get4 {s:Pg}:s.cs[4]? = some (.slice s.eA s.exprs.length s.eC):=rfl
@[go_sem] theorem Pg.ld4 {s:Pg}:rd false 1 s.cs 4=some (.slice s.eA s.exprs.length s.eC):=rfl
@[go_sem] theorem Pg.get5 {s:Pg}:s.cs[5]? = some (.slice s.sA s.stmts.length s.sC):=rfl
@[go_sem] theorem Pg.ld5 {s:Pg}:rd false 1 s.cs 5=some (.slice s.sA s.stmts.length s.sC):=rfl
@[go_sem] theorem Pg.get6 {s:Pg}:s.cs[6]? = some (.slice s.mA s.main.length s.mC):=rfl
@[go_sem] theorem Pg.ld6 {s:Pg}:rd false 1 s.cs 6=some (.slice s.mA s.main.length s.mC):=rfl
@[go_sem] theorem Pg.ldabi {s:Pg}:rd true 2 s.cs 0=some (.agg #[.bool s.big,.int .i64 s.ptr]):=rfl
abbrev intR (F:Fz) (M:Hp) (a:Option Addr) (c:Nat) (l:List Int):Prop:=RdG 1 intC F M (.slice a l.length c) l
def Sm.rd (F:Fz)(s:Sm):Prop:=∀M,Old F M→intR F M s.ba s.bc s.body∧intR F M s.ea s.ec s.els
structure Pg.rd (F:Fz)(p:Pg):Prop where
 vars:∀M,Old F M→intR F M p.vA p.vC p.vars
 news:∀M,Old F M→intR F M p.nA p.nC p.news
 exprs:∀M,Old F M→RdG 5 Xp.cs F M (.slice p.eA p.exprs.length p.eC) p.exprs
 stmts:∀M,Old F M→RdG 7 Sm.cs F M (.slice p.sA p.stmts.length p.sC) p.stmts
 main:∀M,Old F M→intR F M p.mA p.mC p.main
 bodies:∀s∈p.stmts,s.rd F
 zero:(p.vA=none→p.vC=0)∧(p.nA=none→p.nC=0)∧∀s∈p.stmts,(s.ba=none→s.bc=0)∧(s.ea=none→s.ec=0)
 few:p.vars.length≤2500∧p.news.length≤2500∧p.exprs.length≤2500∧p.stmts.length≤2500∧p.main.length≤2500∧∀s∈p.stmts,s.body.length≤2500∧s.els.length≤2500
theorem RdG.at {α:Type}{sz:Nat}{f:α→List Value}{F:Fz}{M:Hp}{a:Option Addr}{c:Nat}{l:List α}(h:RdG sz f F M (.slice a l.length c) l){i:Nat}(hi:i < l.length) :
  ∃b o cs,a=some ⟨b,o,none⟩∧blk F M b=some cs∧o+i * sz+sz≤cs.length∧(cs.drop (o+i * sz)).take sz=f l[i]:=by
 obtain ⟨_,ad,cap,_,e,h⟩:=h
 cases e
 rcases h with h | ⟨b,o,cs,rfl,hb,hc⟩
 ·rw [h] at hi; simp at hi
 ·exact ⟨b,o,cs,rfl,hb,(hc i hi).1,(hc i hi).2⟩
abbrev Lz:=Option Addr × Nat × List Int
abbrev slC (x:Lz):List Value:=[.slice x.1 x.2.2.length x.2.1]
theorem slC_len (x:Lz):(slC x).length=1:=rfl
theorem gH {F:Fz}{M:Hp}{a:Option Addr}{c:Nat}{l:List Int}(h:intR F M a c l){i:Nat}(hi:i < l.length) :
  ∃b o cs,a=some ⟨b,o,none⟩∧blk F M b=some cs∧cs[o+i * 1]? = some (.int .i64 l[i]):=by
 obtain ⟨b,o,cs,h1,h2,_,h4⟩:=RdG.at h hi
 exact ⟨b,o,cs,h1,h2,one_row h4⟩
theorem seatC_in (st:List Sm):∀(k:Nat) (l:List Int) (a b:Nat),seatC st k l a=some b→∀m:Nat,a≤m→m < b→∀c∈bodyAt st m++elsAt st m,(m:Int) < c∧c < b
 | 0,l,a,b,h,m,hm,hb=>by
  simp only [seatC] at h
  split at h
  ·cases h; omega
  ·cases h
 | k+1,l,a,b,h,m,hm,hb=>by
  simp only [seatC] at h
  induction l generalizing a with
  | nil=>simp at h; omega
  | cons s l ih=>
   rw [List.foldlM_cons] at h
   by_cases hs:s=(a:Int)∧a < st.length
   ·rw [if_pos hs] at h
    cases h1:seatC st k (bodyAt st a) (a+1) with
    | none=>rw [h1] at h; simp at h
    | some m1=>
     cases h2:seatC st k (elsAt st a) m1 with
     | none=>rw [h1] at h; simp [h2] at h
     | some m2=>
      rw [h1] at h
      simp only [Option.bind_some,h2,Option.bind_eq_bind] at h
      obtain ⟨a1,a2,a3⟩:=seatC_ge st k _ _ _ h1
      obtain ⟨b1,b2,b3⟩:=seatC_ge st k _ _ _ h2
      have hc:=(seatC_ge st (k+1) l m2 b (by simpa only [seatC] using h)).1
      intro c hc'
      by_cases e:m=a
      ·subst e
       rcases List.mem_append.1 hc' with hc' | hc'
       ·have:=a2 c hc'; omega
       ·have:=b2 c hc'; omega
      by_cases e1:m < m1
      ·have:=seatC_in st k _ _ _ h1 m (by omega) e1 c hc'; omega
      by_cases e2:m < m2
      ·have:=seatC_in st k _ _ _ h2 m (by omega) e2 c hc'; omega
      ·exact ih m2 h (by omega) c hc'
   ·rw [if_neg hs] at h; simp at h
def sizeB (n:Int):Bool:=decide (1≤n) && decide (n≤32)
def sizesB (l:List Int)(most:Nat):Bool:=decide (l.length≤most) && l.all sizeB
def yK (p:Pg):Bool:=
 (decide (p.ptr=2) || decide (p.ptr=4)) && sizesB p.vars 4 && sizesB p.news 2 && decide (p.exprs.length≤120) && decide (p.stmts.length≤40) &&
 exprsB p.vars.length p.exprs p.exprs.length && p.stmts.all (stmtB p.vars.length p.news.length p.exprs) && standC p.stmts p.main
theorem stand_in {st:List Sm}{main:List Int}(h:seatC st 6 main 0=some st.length):∀s∈st,∀k∈s.body++s.els,0≤k∧k < st.length:=by
 intro s hs k hk
 obtain ⟨i,hi,rfl⟩:=List.getElem_of_mem hs
 have e1:bodyAt st i=st[i].body:=by unfold bodyAt; rw [List.getElem?_eq_getElem hi]; rfl
 have e2:elsAt st i=st[i].els:=by unfold elsAt; rw [List.getElem?_eq_getElem hi]; rfl
 have:=seatC_in st 6 main 0 _ h i (Nat.zero_le _) hi k (by rw [e1,e2]; exact hk)
 omega
end Go.Ax
namespace Go.Ax
open Go
set_option linter.unusedVariables false
set_option linter.unusedSimpArgs false
def opsD (l:List SO):List Nat:=l.filterMap (·.d)
def SC.defs:SC→List Nat
 | .ops l=>opsD l
 | .opd l=>opsD l
 | .opq l=>opsD l
 | .seq a b=>a.defs++b.defs
 | .cond _ a b=>a.defs++b.defs
 | .block _ c=>c.defs
 | .loop c=>c.defs
 | _=>[]
def Stay (ds:List Nat)(σ σ':Env):Prop:=∀t,ds.contains t=false→look σ' t=look σ t
theorem Stay.refl (ds:List Nat)(σ:Env):Stay ds σ σ:=fun _ _=>rfl
theorem Stay.trans {ds:List Nat}{a b c:Env}(h:Stay ds a b)(k:Stay ds b c):Stay ds a c:=fun t ht=>(k t ht).trans (h t ht)
theorem Stay.mono {ds es:List Nat}{a b:Env}(h:Stay ds a b)(hs:∀t,t∈ds→t∈es):Stay es a b:=fun t ht=>h t (by
 cases hd:ds.contains t
 ·rfl
 ·rw [List.contains_iff_mem] at hd
  have:=hs t hd
  rw [←List.contains_iff_mem,ht] at this
  cases this)
theorem Stay.put {ds:List Nat}{σ:Env}{d:Option Nat}{v:Value}(h:∀t,d=some t→t∈ds):Stay ds σ (put σ d v):=fun t ht=>by
 cases d with
 | none=>rfl
 | some k=>
  have hk:=h k rfl
  have:¬k=t:=by
   rintro rfl
   rw [←List.contains_iff_mem,ht] at hk
   cases hk
  simp [Ax.put,look,this]
theorem stepK_put {P:Program}{s:Bool}{d:Option Nat}{k:SK}{K:Env→Fz→Hp→Prop}{σ:Env}{F:Fz}{M:Hp}
  (h:stepK P s d k K σ F M):stepK P s d k (fun σ' F' M'=>(∃v,σ'=put σ d v)∧K σ' F' M') σ F M:=by
 cases k <;> simp only [stepK] at h ⊢
 case p q=>obtain ⟨v,h1,h2⟩:=h; exact ⟨v,h1,⟨v,rfl⟩,h2⟩
 case al e z=>exact fun r h1 h2=>⟨⟨_,rfl⟩,h r h1 h2⟩
 case bx e x=>obtain ⟨v,h1,h2⟩:=h; exact ⟨v,h1,fun r a b=>⟨⟨_,rfl⟩,h2 r a b⟩⟩
 case bs e len z parts=>obtain ⟨ps,h1,cs,h2,h3⟩:=h; exact ⟨ps,h1,cs,h2,fun r a b=>⟨⟨_,rfl⟩,h3 r a b⟩⟩
 case ap e es bytes x y=>obtain ⟨v,h1,u,h2,n,xs,h3,m,ys,h4,h5,h6,h7,h8⟩:=h; exact ⟨v,h1,u,h2,n,xs,h3,m,ys,h4,h5,h6,h7,fun v' M' a=>⟨⟨_,rfl⟩,h8 v' M' a⟩⟩
 case st fl n a x=>obtain ⟨b,o,h1,v,h2,e,h3,h4,h5,h6,h7,h8⟩:=h; exact ⟨b,o,h1,v,h2,e,h3,h4,h5,h6,h7,⟨_,rfl⟩,h8⟩
 case ms e es bytes z l c=>obtain ⟨k,n,h1,k',m,h2,h3,h4,h5,h6⟩:=h; exact ⟨k,n,h1,k',m,h2,h3,h4,h5,fun r a b=>⟨⟨_,rfl⟩,h6 r a b⟩⟩
 case cp es x y=>obtain ⟨b,o,n,c,h1,u,h2,m,ys,h3,h4,e,h5,h6,h7⟩:=h; exact ⟨b,o,n,c,h1,u,h2,m,ys,h3,h4,e,h5,h6,⟨_,rfl⟩,h7⟩
 case ca f args=>obtain ⟨g,fi,c,h1,vs,h2,h3⟩:=h; exact ⟨g,fi,c,h1,vs,h2,h3.mono fun v F' M' ⟨a,b⟩=>⟨a,⟨_,rfl⟩,b⟩⟩
 case cq f args=>obtain ⟨g,fi,c,h1,vs,h2,h3⟩:=h; exact ⟨g,fi,c,h1,vs,h2,h3.mono fun v F' M' b=>⟨⟨_,rfl⟩,b⟩⟩
 case cf fl f args=>obtain ⟨g,fi,c,h1,vs,h2,h3⟩:=h; exact ⟨g,fi,c,h1,vs,h2,h3.mono fun v F' M' ⟨a,b⟩=>⟨a,⟨_,rfl⟩,b⟩⟩
 case gz e es bytes z x n=>obtain ⟨k,m,h1,h2,h3,h4,h5,h6⟩:=h; exact ⟨k,m,h1,h2,h3,h4,h5,fun r c a b p q=>⟨⟨_,rfl⟩,h6 r c a b p q⟩⟩
 case mm=>exact fun r h1 h2 h3=>⟨⟨_,rfl⟩,h r h1 h2 h3⟩
 case ml z x i=>obtain ⟨r,l,n,h1,h2,h3,h4⟩:=h; exact ⟨r,l,n,h1,h2,h3,⟨_,rfl⟩,h4⟩
 case mu x i y=>obtain ⟨r,l,n,v,h1,h2,h3,h4,h5,h6⟩:=h; exact ⟨r,l,n,v,h1,h2,h3,h4,h5,⟨_,rfl⟩,h6⟩
 case cl es z x=>
  obtain ⟨a,n,c,h1,h2,h3,h4⟩:=h
  refine ⟨a,n,c,h1,h2,h3,?_⟩
  rcases h4 with ⟨h4,h5⟩ | ⟨h4,b,o,e,h5,h6,h7,h8⟩
  ·exact .inl ⟨h4,⟨_,rfl⟩,h5⟩
  ·exact .inr ⟨h4,b,o,e,h5,h6,h7,⟨_,rfl⟩,h8⟩
theorem stepG_put {P:Program}{s:Bool}{o:SO}{K:Env→Fz→Hp→Prop}{σ:Env}{F:Fz}{M:Hp}
  (h:stepG P s o K σ F M):stepG P s o (fun σ' F' M'=>(∃v,σ'=put σ o.d v)∧K σ' F' M') σ F M:=by
 unfold stepG at *
 split
 ·rename_i hg; rw [hg] at h; exact stepK_put h
 ·rename_i t want hg
  rw [hg] at h
  obtain ⟨v,h1,h2,h3⟩:=h
  exact ⟨v,h1,fun a=>stepK_put (h2 a),fun a=>⟨⟨_,rfl⟩,h3 a⟩⟩
theorem opsW_stay {P:Program}{s:Bool}:∀{l:List SO} {K:Env→Fz→Hp→Prop} {σ:Env} {F:Fz} {M:Hp},opsW P s l K σ F M→opsW P s l (fun σ' F' M'=>Stay (opsD l) σ σ'∧K σ' F' M') σ F M:=by
 intro l
 induction l with
 | nil=>intro K σ F M h; exact ⟨Stay.refl _ _,h⟩
 | cons o l ih=>
  intro K σ F M h
  refine stepG_mono (fun σ1 F1 M1 hk=>?_) (stepG_put h)
  obtain ⟨⟨v,rfl⟩,hk⟩:=hk
  refine opsW_mono (fun σ2 F2 M2 hk=>?_) (ih hk)
  have hd:∀t,o.d=some t→t∈opsD (o :: l):=fun t ht=>by simp [opsD,ht]
  have hs:∀t,t∈opsD l→t∈opsD (o :: l):=fun t ht=>by
   simp only [opsD,List.filterMap_cons] at ht ⊢
   split
   ·exact ht
   ·exact List.mem_cons_of_mem _ ht
  exact ⟨(Stay.put hd).trans (hk.1.mono hs),hk.2⟩
theorem W_stay {P:Program}:∀{c:SC} {Q:Post} {σ:Env} {F:Fz} {M:Hp},W P c Q σ F M→W P c (fun x σ' F' M'=>Stay c.defs σ σ'∧Q x σ' F' M') σ F M:=by
 intro c
 induction c with
 | bad=>intro Q σ F M h; exact h.elim
 | skip=>intro Q σ F M h; exact ⟨Stay.refl _ _,h⟩
 | ret=>intro Q σ F M h; exact ⟨Stay.refl _ _,h⟩
 | exit i=>intro Q σ F M h; exact ⟨Stay.refl _ _,h⟩
 | ops l=>intro Q σ F M h; exact opsW_stay h
 | opd l=>intro Q σ F M h; exact opsW_stay h
 | opq l=>intro Q σ F M h; exact opsW_stay h
 | seq a b iha ihb=>
  intro Q σ F M h
  show W P a (Post.andThen (W P b _) _) σ F M
  refine W_mono (fun x σ1 F1 M1 hx=>?_) (iha h)
  cases x with
  | n=>exact W_mono (fun x σ2 F2 M2 hy=>⟨(hx.1.mono (by simp [SC.defs]; intros; simp [*])).trans (hy.1.mono (by simp [SC.defs]; intros; simp [*])),hy.2⟩) (ihb hx.2)
  | r=>exact ⟨hx.1.mono (by simp [SC.defs]; intros; simp [*]),hx.2⟩
  | e i=>exact ⟨hx.1.mono (by simp [SC.defs]; intros; simp [*]),hx.2⟩
 | cond c a b iha ihb=>
  intro Q σ F M h
  obtain ⟨t,h1,h2,h3⟩:=h
  exact ⟨t,h1,fun ht=>W_mono (fun x σ1 F1 M1 hx=>⟨hx.1.mono (by simp [SC.defs]; intros; simp [*]),hx.2⟩) (iha (h2 ht)),fun ht=>W_mono (fun x σ1 F1 M1 hx=>⟨hx.1.mono (by simp [SC.defs]; intros; simp [*]),hx.2⟩) (ihb (h3 ht))⟩
 | block i c ih=>
  intro Q σ F M h
  show W P c (Post.inBlock i _) σ F M
  refine W_mono (fun x σ1 F1 M1 hx=>?_) (ih h)
  cases x with
  | n=>exact hx
  | r=>exact hx
  | e j=>simp only [Post.inBlock] at hx ⊢; split <;> simp_all [SC.defs]
 | loop c ih=>
  intro Q σ F M h
  obtain ⟨I,n,⟨F1,M1,hw,h1⟩,h2⟩:=h
  refine ⟨fun n σ' F' M'=>Stay c.defs σ σ'∧I n σ' F' M',n,⟨F1,M1,hw,Stay.refl _ _,h1⟩,fun n σ1 F1 M1 hi=>?_⟩
  refine W_mono (fun x σ2 F2 M2 hx=>?_) (ih (h2 n σ1 F1 M1 hi.2))
  cases x with
  | n=>obtain ⟨hs,m,hm,hk⟩:=hx; exact ⟨m,hm,hi.1.trans hs,hk⟩
  | r=>exact ⟨hi.1.trans hx.1,hx.2⟩
  | e j=>exact ⟨hi.1.trans hx.1,hx.2⟩
structure At (I:Env→Fz→Hp→Prop)(σ:Env)(F:Fz)(M:Hp):Prop where
 h:I σ F M
structure Nxt (I:Nat→Env→Fz→Hp→Prop)(N i:Nat)(σ:Env)(F:Fz)(M:Hp):Prop where
 lt:i < N
 h:I (i+1) σ F M
structure Nxd (I:Nat→Env→Fz→Hp→Prop)(n:Nat)(σ:Env)(F:Fz)(M:Hp):Prop where
 h:∃m,m < n∧I m σ F M
section
variable {P:Program} {a b c:SC} {Q:Post} {σ:Env} {F:Fz} {M:Hp}
theorem loop_st (I:Nat→Env→Fz→Hp→Prop)(n:Nat)(h0:I n σ F M)
  (h:∀n σ' F' M',Stay c.defs σ σ'→I n σ' F' M'→W P c (Post.andThen (Nxd I n) Q) σ' F' M'):W P (.loop c) Q σ F M:=by
 refine ⟨fun n σ' F' M'=>Stay c.defs σ σ'∧I n σ' F' M',n,⟨F,M,Wk.refl F M,Stay.refl _ _,h0⟩,fun n σ1 F1 M1 hi=>?_⟩
 refine W_mono (fun x σ2 F2 M2 hx=>?_) (W_stay (h n σ1 F1 M1 hi.1 hi.2))
 cases x with
 | n=>obtain ⟨hs,⟨m,hm,hk⟩⟩:=hx; exact ⟨m,hm,hi.1.trans hs,hk⟩
 | r=>exact hx.2
 | e j=>exact hx.2
theorem yX (N:Nat)(I:Nat→Env→Fz→Hp→Prop)(h0:I 0 σ F M)
  (h:∀i σ' F' M',i≤N→Stay c.defs σ σ'→I i σ' F' M'→W P c (Post.andThen (Nxt I N i) Q) σ' F' M'):W P (.loop c) Q σ F M:=by
 refine loop_st (fun n σ F M=>∃i,i+n=N∧I i σ F M) N ⟨0,by omega,h0⟩ ?_
 rintro n σ' F' M' hs ⟨i,hi,hI⟩
 refine W_mono (fun x σ2 F2 M2 hx=>?_) (h i σ' F' M' (by omega) hs hI)
 cases x with
 | n=>obtain ⟨hlt,hk⟩:=hx; exact ⟨⟨n - 1,by omega,i+1,by omega,hk⟩⟩
 | r=>exact hx
 | e j=>exact hx
theorem block_st {i:Nat}(I:Env→Fz→Hp→Prop)(h:W P c (Post.inBlock i (cutQ (At I) Q)) σ F M)(hn:∀σ' F' M',Stay c.defs σ σ'→I σ' F' M'→Q .n σ' F' M'):W P (.block i c) Q σ F M:=by
 show W P c (Q.inBlock i) σ F M
 refine W_mono (fun x σ2 F2 M2 hx=>?_) (W_stay h)
 cases x with
 | n=>exact hn _ _ _ hx.1 hx.2.h
 | r=>exact hx.2
 | e j=>
  simp only [Post.inBlock] at hx ⊢
  split
  ·rename_i hj; rw [if_pos hj] at hx; exact hn _ _ _ hx.1 hx.2.h
  ·rename_i hj; rw [if_neg hj] at hx; exact hx.2
end
theorem tO {P:Program}{s:Bool}{d:Option Nat}{l:List SO}{K:Env→Fz→Hp→Prop}{σ:Env}{F:Fz}{M:Hp}{b:Bool}{k:SK}(h1:b=true→stepW P s d l K σ F M k)(h2:b=false→opsW P s l K (put σ d undef) F M):gK P s d l K σ F M true k (some (.bool b)):=
 gK_of h1 h2
theorem fO {P:Program}{s:Bool}{d:Option Nat}{l:List SO}{K:Env→Fz→Hp→Prop}{σ:Env}{F:Fz}{M:Hp}{b:Bool}{k:SK}(h1:b=false→stepW P s d l K σ F M k)(h2:b=true→opsW P s l K (put σ d undef) F M):gK P s d l K σ F M false k (some (.bool b)):=
 gK_of h1 h2
section
variable {P:Program} {s:Bool} {d:Option Nat} {l:List SO} {K:Env→Fz→Hp→Prop} {σ:Env} {F:Fz} {M:Hp} {k:SK} {a b:SC} {Q:Post} {p:Prop} [Decidable p]
theorem tD (h1:p→stepW P s d l K σ F M k)(h2:¬p→opsW P s l K (put σ d undef) F M):gK P s d l K σ F M true k (some (.bool (decide p))):=
 tO (fun h=>h1 (of_decide_eq_true h)) (fun h=>h2 (of_decide_eq_false h))
theorem fD (h1:¬p→stepW P s d l K σ F M k)(h2:p→opsW P s l K (put σ d undef) F M):gK P s d l K σ F M false k (some (.bool (decide p))):=
 fO (fun h=>h1 (of_decide_eq_false h)) (fun h=>h2 (of_decide_eq_true h))
theorem tN (h1:¬p→stepW P s d l K σ F M k)(h2:p→opsW P s l K (put σ d undef) F M):gK P s d l K σ F M true k (some (.bool (!decide p))):=
 tO (fun h=>h1 (of_decide_eq_false (by simpa using h))) (fun h=>h2 (of_decide_eq_true (by simpa using h)))
theorem fN (h1:p→stepW P s d l K σ F M k)(h2:¬p→opsW P s l K (put σ d undef) F M):gK P s d l K σ F M false k (some (.bool (!decide p))):=
 fO (fun h=>h1 (of_decide_eq_true (by simpa using h))) (fun h=>h2 (of_decide_eq_false (by simpa using h)))
theorem cO {t:Bool}(h1:t=true→W P a Q σ F M)(h2:t=false→W P b Q σ F M):condK P a b Q σ F M (some (.bool t)):=condK_of h1 h2
theorem cD (h1:p→W P a Q σ F M)(h2:¬p→W P b Q σ F M):condK P a b Q σ F M (some (.bool (decide p))):=
 condK_of (fun h=>h1 (of_decide_eq_true h)) (fun h=>h2 (of_decide_eq_false h))
theorem cN (h1:¬p→W P a Q σ F M)(h2:p→W P b Q σ F M):condK P a b Q σ F M (some (.bool (!decide p))):=
 condK_of (fun h=>h1 (of_decide_eq_false (by simpa using h))) (fun h=>h2 (of_decide_eq_true (by simpa using h)))
theorem cB {c:Bool}(h1:c=false→W P a Q σ F M)(h2:c=true→W P b Q σ F M):condK P a b Q σ F M (some (.bool (!c))):=
 condK_of (fun h=>h1 (by simpa using h)) (fun h=>h2 (by simpa using h))
end
section
variable {P:Program} {s:Bool} {d:Option Nat} {l:List SO} {K:Env→Fz→Hp→Prop} {σ:Env} {F:Fz} {M:Hp} {k:SK} {c:Bool}
theorem tB (h1:c=false→stepW P s d l K σ F M k)(h2:c=true→opsW P s l K (put σ d undef) F M):gK P s d l K σ F M true k (some (.bool (!c))):=
 tO (fun h=>h1 (by simpa using h)) (fun h=>h2 (by simpa using h))
theorem fB (h1:c=true→stepW P s d l K σ F M k)(h2:c=false→opsW P s l K (put σ d undef) F M):gK P s d l K σ F M false k (some (.bool (!c))):=
 fO (fun h=>h1 (by simpa using h)) (fun h=>h2 (by simpa using h))
end
theorem wW {M:Hp}{b r:Nat}{e:Ent}:((M.upd b e) r=none)=((¬r=b∧¬b=r)∧M r=none):=by
 rw [upd_none]
 apply propext
 constructor
 ·rintro ⟨h1,h2⟩; exact ⟨⟨h1,fun e=>h1 e.symm⟩,h2⟩
 ·rintro ⟨⟨h1,_⟩,h2⟩; exact ⟨h1,h2⟩
def Fz.all (F:Fz)(A:Hp):Fz:={ f:=fun b=>blk F A b,mp:=F.mp }
def Hp.join (A B:Hp):Hp:=fun b=>match A b with | some e=>some e | none=>B b
theorem join_none {A B:Hp}{b:Nat}:(A.join B) b=none↔A b=none∧B b=none:=by
 unfold Hp.join; cases h:A b <;> simp
theorem join_left {A B:Hp}{b:Nat}{e:Ent}(h:A b=some e):(A.join B) b=some e:=by
 unfold Hp.join; rw [h]
theorem join_right {A B:Hp}{b:Nat}(h:A b=none):(A.join B) b=B b:=by
 unfold Hp.join; rw [h]
theorem join_noHp (A:Hp):A.join noHp=A:=by
 funext b; unfold Hp.join; cases A b <;> rfl
theorem blk_all {F:Fz}{A N:Hp}(hd:∀b,N b≠none→A b=none∧F b=none)(b:Nat):blk (F.all A) N b=blk F (A.join N) b:=by
 cases hn:N b with
 | some e=>
  have:=(hd b (by rw [hn]; simp)).1
  rw [qG hn,qG (e:=e) (by rw [join_right this]; exact hn)]
 | none=>
  cases ha:A b with
  | some e=>rw [qG (e:=e) (join_left ha)]; simp [blk,hn,Fz.all,ha]
  | none=>simp [blk,hn,Fz.all,ha,Hp.join]
theorem CallsA.lend {P:Program}{f:FuncId}{args:List Value}{F:Fz}{A B:Hp}{R:Value→Fz→Hp→Prop}(hd:∀b,B b≠none→A b=none)
  (h:CallsA P f args (F.all A) B fun v F' N=>F'=F.all A∧R v F' N) :
  CallsA P f args F (A.join B) fun v F' M'=>F'=F∧∃N,M'=A.join N∧(∀b,N b≠none→A b=none∧F b=none)∧R v (F.all A) N:=by
 refine ⟨h.1,fun w hw=>?_⟩
 have hr:Rel (F.all A) B w:=by
  refine ⟨fun b c hb=>?_,fun b n hb=>?_,fun b hb=>?_,hw.mp⟩
  ·cases ha:A b with
   | some e=>
    have hb':blk F A b=some c:=hb
    rw [qG ha] at hb'
    cases hb'
    obtain ⟨cur,h1,h2,_⟩:=hw.mu b e (join_left ha)
    exact ⟨cur,_,_,h1,h2⟩
   | none=>
    have hb':blk F A b=some c:=hb
    simp only [blk,ha] at hb'
    exact hw.fz b c hb'
  ·exact hw.mu b n (by rw [join_right (hd b (by rw [hb]; simp))]; exact hb)
  ·have ha:=hd b hb
   show blk F A b=none
   simp only [blk,ha]
   exact hw.ap b (fun e=>hb (join_none.1 e).2)
 refine (h.2 w hr).mono fun en w' ⟨v,F',N,he,h1,h2,hF,hR⟩=>?_
 subst hF
 have hN:∀b,N b≠none→A b=none∧F b=none:=fun b hb=>by
  have h3:blk F A b=none:=h1.ap b hb
  cases ha:A b with
  | some e=>rw [qG ha] at h3; cases h3
  | none=>simp only [blk,ha] at h3; exact ⟨rfl,h3⟩
 refine ⟨v,F,A.join N,he,⟨fun b c hb=>?_,fun b n hb=>?_,fun b hb=>?_,h1.mp⟩,⟨h2.os,h2.tape,h2.output,h2.size,fun b hb hm hp=>?_⟩,rfl,N,rfl,hN,hR⟩
 ·have ha:A b=none:=by
   cases ha:A b with
   | none=>rfl
   | some e=>have:=hw.ap b (by rw [join_left ha]; simp); rw [hb] at this; cases this
  exact h1.fz b c (by show blk F A b=some c; simp only [blk,ha]; exact hb)
 ·cases ha:A b with
  | some x=>
   rw [join_left ha] at hb
   cases hb
   obtain ⟨cur,g1,g2,g3⟩:=hw.mu b n (join_left ha)
   have hlt:=(Array.getElem?_eq_some_iff.1 g1).1
   have hB:B b=none:=by
    cases hB:B b with
    | none=>rfl
    | some x=>have:=hd b (by rw [hB]; simp); rw [ha] at this; cases this
   have:=h2.block b hlt hB (hw.noMap (join_left ha))
   exact ⟨cur,by rw [this.1]; exact g1,g2,g3⟩
  | none=>exact h1.mu b n (by rw [join_right ha] at hb; exact hb)
 ·cases ha:A b with
  | some e=>exact hw.ap b (by rw [join_left ha]; simp)
  | none=>
   rw [join_right ha] at hb
   exact (hN b hb).2
 ·obtain ⟨ha,hB⟩:=join_none.1 hm
  obtain ⟨g1,g2,g3,_⟩:=h2.block b hb hB hp
  exact ⟨g1,join_none.2 ⟨ha,g2⟩,g3,id⟩
def Makes (F:Fz)(M:Hp)(Q:Value→Hp→Prop):Value→Fz→Hp→Prop:=fun v F' M'=>F'=F∧Keep M M'∧Old F M'∧Q v M'
theorem CallsA.lendAll {P:Program}{f:FuncId}{args:List Value}{F:Fz}{M:Hp}{Q:Value→Hp→Prop}(hold:Old F M)
  (h:CallsA P f args (F.all M) noHp (Makes (F.all M) noHp Q)) :
  CallsA P f args F M (Makes F M fun v M'=>∃N,M'=M.join N∧(∀b,N b≠none→M b=none∧F b=none)∧Q v N):=by
 have h1:=CallsA.lend (A:=M) (B:=noHp) (R:=fun v _ N=>Q v N) (fun b hb=>absurd rfl hb) (h.mono fun v F' N hq=>⟨hq.1,hq.2.2.2⟩)
 rw [join_noHp] at h1
 refine h1.mono fun v F' M' hq=>?_
 obtain ⟨hF,N,rfl,hN,hQ⟩:=hq
 refine ⟨hF,fun b e hb=>join_left hb,fun b hb=>?_,N,rfl,hN,hQ⟩
 rw [join_none]
 refine ⟨hold b hb,?_⟩
 cases hn:N b with
 | none=>rfl
 | some e=>exact absurd (hN b (by rw [hn]; simp)).2 hb
theorem CallsA.lendSame {P:Program}{f:FuncId}{args:List Value}{F:Fz}{M:Hp}{v:Value}
  (h:CallsA P f args (F.all M) noHp (fun u F' M'=>u=v∧F'=F.all M∧M'=noHp)):CallsA P f args F M (fun u F' M'=>u=v∧F'=F∧M'=M):=by
 have h1:=CallsA.lend (A:=M) (B:=noHp) (R:=fun u _ N=>u=v∧N=noHp) (fun b hb=>absurd rfl hb) (h.mono fun u F' N hq=>⟨hq.2.1,hq.1,hq.2.2⟩)
 rw [join_noHp] at h1
 refine h1.mono fun u F' M' hq=>?_
 obtain ⟨hF,N,rfl,hN,hu,hn⟩:=hq
 rw [hn,join_noHp]
 exact ⟨hu,hF,rfl⟩
theorem RdG.all {α:Type}{sz:Nat}{f:α→List Value}{F:Fz}{M N:Hp}{u:Value}{l:List α}(hd:∀b,N b≠none→M b=none∧F b=none)(h:RdG sz f (F.all M) N u l):RdG sz f F (M.join N) u l:=by
 obtain ⟨h1,ad,cap,h2,h3,h4⟩:=h
 refine ⟨h1,ad,cap,h2,h3,?_⟩
 rcases h4 with h4 | ⟨b,o,cs,g1,g2,g3⟩
 ·exact .inl h4
 ·exact .inr ⟨b,o,cs,g1,by rw [←blk_all hd]; exact g2,g3⟩
theorem RdG.lent {α:Type}{sz:Nat}{f:α→List Value}{F:Fz}{M:Hp}{u:Value}{l:List α}(h:RdG sz f F M u l){N:Hp}(hN:Old (F.all M) N):RdG sz f (F.all M) N u l:=by
 obtain ⟨h1,ad,cap,h2,h3,h4⟩:=h
 refine ⟨h1,ad,cap,h2,h3,?_⟩
 rcases h4 with h4 | ⟨b,o,cs,g1,g2,g3⟩
 ·exact .inl h4
 ·exact .inr ⟨b,o,cs,g1,hN.blk g2,g3⟩
theorem ne_of_blk {F:Fz}{M:Hp}{b r:Nat}{cs:List Value}(h:blk F M b=some cs)(hF:F r=none)(hM:M r=none):¬b=r:=by
 rintro rfl
 simp [blk,hM,hF] at h
theorem yG {F:Fz}{M:Hp}{b r:Nat}{e:Ent}(h:(blk F M b).isSome=true)(hF:F r=none)(hM:M r=none):blk F (M.upd r e) b=blk F M b:=by
 obtain ⟨cs,hc⟩:=Option.isSome_iff_exists.1 h
 exact blk_upd_ne (ne_of_blk hc hF hM)
theorem RdG.rows {α:Type}{sz:Nat}{f:α→List Value}{F:Fz}{M:Hp}{a:Option Addr}{c:Nat}{l:List α}(h:RdG sz f F M (.slice a l.length c) l)(hl:0 < l.length) :
  ∃b o cs,a=some ⟨b,o,none⟩∧blk F M b=some cs∧∀i (hi:i < l.length),o+i * sz+sz≤cs.length∧(cs.drop (o+i * sz)).take sz=f l[i]:=by
 obtain ⟨_,ad,cap,_,e,h⟩:=h
 cases e
 rcases h with h | ⟨b,o,cs,rfl,hb,hc⟩
 ·rw [h] at hl; simp at hl
 ·exact ⟨b,o,cs,rfl,hb,hc⟩
end Go.Ax
namespace Go.Ax
open Go
set_option linter.unusedVariables false
set_option linter.unusedSimpArgs false
structure By where
 st:Int
 n:Int
 b:Int
 o:Int
 i:Int
def By.cs (s:By):List Value:=[.int .i64 s.st,.int .i64 s.n,.int .i64 s.b,.int .i64 s.o,.int .i64 s.i]
def By.val (s:By):Value:=.agg s.cs.toArray
@[go_sem] theorem By.fold2 {s:By}:Value.agg s.cs.toArray=s.val:=rfl
@[go_sem] theorem By.cells_m {s:By}:Value.cells.match_1 (fun _=>Array Value) s.val (fun cs=>cs) (fun u=>#[u])=s.cs.toArray:=rfl
@[go_sem] theorem By.cells_val {s:By}:s.val.cells=s.cs.toArray:=rfl
@[go_sem] theorem By.cs_size {s:By}:s.cs.toArray.size=5:=rfl
@[go_sem] theorem By.cs_len {s:By}:s.cs.length=5:=rfl
@[go_sem] theorem By.jD {s:By}:wZ s.cs=True:=by
 apply eq_true
 intro u hu
 simp only [By.cs,List.mem_cons,List.not_mem_nil,or_false] at hu
 rcases hu with rfl | rfl | rfl | rfl | rfl <;> rfl
theorem By.plain (s:By):wZ s.cs:=of_eq_true By.jD
theorem By.len (s:By):s.cs.length=5:=rfl
@[go_sem] theorem By.take_all {s:By}:s.cs.take 5=s.cs:=rfl
@[go_sem] theorem By.take0 {s:By}:s.cs.take 0=[]:=rfl
@[go_sem] theorem By.drop_all {s:By}:s.cs.drop 5=[]:=rfl
@[go_sem] theorem By.ld {s:By}:rd true 5 s.cs 0=some s.val:=rfl
@[go_sem] theorem By.get0 {s:By}:s.cs[0]? = some (.int .i64 s.st):=rfl
@[go_sem] theorem By.ld0 {s:By}:rd false 1 s.cs 0=some (.int .i64 s.st):=rfl
@[go_sem] theorem By.get1 {s:By}:s.cs[1]? = some (.int .i64 s.n):=rfl
@[go_sem] theorem By.ld1 {s:By}:rd false 1 s.cs 1=some (.int .i64 s.n):=rfl
@[go_sem] theorem By.get2 {s:By}:s.cs[2]? = some (.int .i64 s.b):=rfl
@[go_sem] theorem By.ld2 {s:By}:rd false 1 s.cs 2=some (.int .i64 s.b):=rfl
@[go_sem] theorem By.get3 {s:By}:s.cs[3]? = some (.int .i64 s.o):=rfl
@[go_sem] theorem By.ld3 {s:By}:rd false 1 s.cs 3=some (.int .i64 s.o):=rfl
@[go_sem] theorem By.get4 {s:By}:s.cs[4]? = some (.int .i64 s.i):=rfl
@[go_sem] theorem By.ld4 {s:By}:rd false 1 s.cs 4=some (.int .i64 s.i):=rfl
theorem By.row {cs:List Value}{p:Nat}{s:By}(h:(cs.drop p).take 5=s.cs):cs[p]? = some (.int .i64 s.st)∧cs[p+1]? = some (.int .i64 s.n)∧cs[p+2]? = some (.int .i64 s.b)∧cs[p+3]? = some (.int .i64 s.o)∧cs[p+4]? = some (.int .i64 s.i):=by
 have key:∀j,j < 5→cs[p+j]? = s.cs[j]?:=fun j hj=>by
  rw [←h,List.getElem?_take_of_lt hj,List.getElem?_drop]
 exact ⟨key 0 (by decide),key 1 (by decide),key 2 (by decide),key 3 (by decide),key 4 (by decide)⟩
theorem By.fold {x0:Int}{x1:Int}{x2:Int}{x3:Int}{x4:Int}:Value.agg [.int .i64 x0,.int .i64 x1,.int .i64 x2,.int .i64 x3,.int .i64 x4].toArray=By.val ⟨x0,x1,x2,x3,x4⟩:=rfl
instance By.dec:DecidableEq By:=fun x y=>decidable_of_iff (x.st=y.st∧x.n=y.n∧x.b=y.b∧x.o=y.o∧x.i=y.i) (by cases x; cases y; simp)
theorem decEq_By (a b:By):decide (a=b)=(decide (a.st=b.st) && (decide (a.n=b.n) && (decide (a.b=b.b) && (decide (a.o=b.o) && (decide (a.i=b.i) && true))))):=by
 rw [Bool.eq_iff_iff]
 cases a; cases b
 simp
@[go_sem] theorem eqV_By (a b:By):eqV (.st [(false,0,1,.i),(false,1,1,.i),(false,2,1,.i),(false,3,1,.i),(false,4,1,.i)]) a.val b.val=some (decide (a=b)):=by
 rw [decEq_By]; rfl
structure Al where
 p:Int
 w:Int
def Al.cs (s:Al):List Value:=[.int .i64 s.p,.int .i64 s.w]
def Al.val (s:Al):Value:=.agg s.cs.toArray
@[go_sem] theorem Al.fold2 {s:Al}:Value.agg s.cs.toArray=s.val:=rfl
@[go_sem] theorem Al.cells_m {s:Al}:Value.cells.match_1 (fun _=>Array Value) s.val (fun cs=>cs) (fun u=>#[u])=s.cs.toArray:=rfl
@[go_sem] theorem Al.cells_val {s:Al}:s.val.cells=s.cs.toArray:=rfl
@[go_sem] theorem Al.cs_size {s:Al}:s.cs.toArray.size=2:=rfl
@[go_sem] theorem Al.cs_len {s:Al}:s.cs.length=2:=rfl
@[go_sem] theorem Al.jD {s:Al}:wZ s.cs=True:=by
 apply eq_true
 intro u hu
 simp only [Al.cs,List.mem_cons,List.not_mem_nil,or_false] at hu
 rcases hu with rfl | rfl <;> rfl
@[go_sem] theorem Al.take_all {s:Al}:s.cs.take 2=s.cs:=rfl
@[go_sem] theorem Al.take0 {s:Al}:s.cs.take 0=[]:=rfl
@[go_sem] theorem Al.drop_all {s:Al}:s.cs.drop 2=[]:=rfl
@[go_sem] theorem Al.ld {s:Al}:rd true 2 s.cs 0=some s.val:=rfl
@[go_sem] theorem Al.get0 {s:Al}:s.cs[0]? = some (.int .i64 s.p):=rfl
@[go_sem] theorem Al.ld0 {s:Al}:rd false 1 s.cs 0=some (.int .i64 s.p):=rfl
@[go_sem] theorem Al.get1 {s:Al}:s.cs[1]? = some (.int .i64 s.w):=rfl
@[go_sem] theorem Al.ld1 {s:Al}:rd false 1 s.cs 1=some (.int .i64 s.w):=rfl
theorem Al.fold {x0:Int}{x1:Int}:Value.agg [.int .i64 x0,.int .i64 x1].toArray=Al.val ⟨x0,x1⟩:=rfl
instance Al.dec:DecidableEq Al:=fun x y=>decidable_of_iff (x.p=y.p∧x.w=y.w) (by cases x; cases y; simp)
theorem decEq_Al (a b:Al):decide (a=b)=(decide (a.p=b.p) && (decide (a.w=b.w) && true)):=by
 rw [Bool.eq_iff_iff]
 cases a; cases b
 simp
@[go_sem] theorem eqV_Al (a b:Al):eqV (.st [(false,0,1,.i),(false,1,1,.i)]) a.val b.val=some (decide (a=b)):=by
 rw [decEq_Al]; rfl
structure Bl where
 st:Int
 lA:Option Addr
 lC:Nat
 l:List By
def Bl.cs (s:Bl):List Value:=[.int .i64 s.st,.slice s.lA s.l.length s.lC]
def Bl.val (s:Bl):Value:=.agg s.cs.toArray
@[go_sem] theorem Bl.fold2 {s:Bl}:Value.agg s.cs.toArray=s.val:=rfl
@[go_sem] theorem Bl.cells_m {s:Bl}:Value.cells.match_1 (fun _=>Array Value) s.val (fun cs=>cs) (fun u=>#[u])=s.cs.toArray:=rfl
@[go_sem] theorem Bl.cells_val {s:Bl}:s.val.cells=s.cs.toArray:=rfl
@[go_sem] theorem Bl.cs_size {s:Bl}:s.cs.toArray.size=2:=rfl
@[go_sem] theorem Bl.cs_len {s:Bl}:s.cs.length=2:=rfl
@[go_sem] theorem Bl.jD {s:Bl}:wZ s.cs=True:=by
 apply eq_true
 intro u hu
 simp only [Bl.cs,List.mem_cons,List.not_mem_nil,or_false] at hu
 rcases hu with rfl | rfl <;> rfl
theorem Bl.plain (s:Bl):wZ s.cs:=of_eq_true Bl.jD
theorem Bl.len (s:Bl):s.cs.length=2:=rfl
@[go_sem] theorem Bl.take_all {s:Bl}:s.cs.take 2=s.cs:=rfl
@[go_sem] theorem Bl.take0 {s:Bl}:s.cs.take 0=[]:=rfl
@[go_sem] theorem Bl.drop_all {s:Bl}:s.cs.drop 2=[]:=rfl
@[go_sem] theorem Bl.ld {s:Bl}:rd true 2 s.cs 0=some s.val:=rfl
@[go_sem] theorem Bl.get0 {s:Bl}:s.cs[0]? = some (.int .i64 s.st):=rfl
@[go_sem] theorem Bl.ld0 {s:Bl}:rd false 1 s.cs 0=some (.int .i64 s.st):=rfl
@[go_sem] theorem Bl.get1 {s:Bl}:s.cs[1]? = some (.slice s.lA s.l.length s.lC):=rfl
@[go_sem] theorem Bl.ld1 {s:Bl}:rd false 1 s.cs 1=some (.slice s.lA s.l.length s.lC):=rfl
theorem Bl.row {cs:List Value}{p:Nat}{s:Bl}(h:(cs.drop p).take 2=s.cs):cs[p]? = some (.int .i64 s.st)∧cs[p+1]? = some (.slice s.lA s.l.length s.lC):=by
 have key:∀j,j < 2→cs[p+j]? = s.cs[j]?:=fun j hj=>by
  rw [←h,List.getElem?_take_of_lt hj,List.getElem?_drop]
 exact ⟨key 0 (by decide),key 1 (by decide)⟩
structure Ste where
 blocksA:Option Addr
 blocksC:Nat
 blocks:List Bl
 nextA:Option Addr
 nextC:Nat
 next:List Int
 inp:Int
 p:Int
 w:Int
def Ste.cs (s:Ste):List Value:=[.slice s.blocksA s.blocks.length s.blocksC,.slice s.nextA s.next.length s.nextC,.int .i64 s.inp,.int .i64 s.p,.int .i64 s.w]
def Ste.val (s:Ste):Value:=.agg s.cs.toArray
@[go_sem] theorem Ste.fold2 {s:Ste}:Value.agg s.cs.toArray=s.val:=rfl
@[go_sem] theorem Ste.cells_m {s:Ste}:Value.cells.match_1 (fun _=>Array Value) s.val (fun cs=>cs) (fun u=>#[u])=s.cs.toArray:=rfl
@[go_sem] theorem Ste.cells_val {s:Ste}:s.val.cells=s.cs.toArray:=rfl
@[go_sem] theorem Ste.cs_size {s:Ste}:s.cs.toArray.size=5:=rfl
@[go_sem] theorem Ste.cs_len {s:Ste}:s.cs.length=5:=rfl
@[go_sem] theorem Ste.jD {s:Ste}:wZ s.cs=True:=by
 apply eq_true
 intro u hu
 simp only [Ste.cs,List.mem_cons,List.not_mem_nil,or_false] at hu
 rcases hu with rfl | rfl | rfl | rfl | rfl <;> rfl
@[go_sem] theorem Ste.take_all {s:Ste}:s.cs.take 5=s.cs:=rfl
@[go_sem] theorem Ste.take0 {s:Ste}:s.cs.take 0=[]:=rfl
@[go_sem] theorem Ste.drop_all {s:Ste}:s.cs.drop 5=[]:=rfl
@[go_sem] theorem Ste.ld {s:Ste}:rd true 5 s.cs 0=some s.val:=rfl
@[go_sem] theorem Ste.get0 {s:Ste}:s.cs[0]? = some (.slice s.blocksA s.blocks.length s.blocksC):=rfl
@[go_sem] theorem Ste.ld0 {s:Ste}:rd false 1 s.cs 0=some (.slice s.blocksA s.blocks.length s.blocksC):=rfl
@[go_sem] theorem Ste.get1 {s:Ste}:s.cs[1]? = some (.slice s.nextA s.next.length s.nextC):=rfl
@[go_sem] theorem Ste.ld1 {s:Ste}:rd false 1 s.cs 1=some (.slice s.nextA s.next.length s.nextC):=rfl
@[go_sem] theorem Ste.get2 {s:Ste}:s.cs[2]? = some (.int .i64 s.inp):=rfl
@[go_sem] theorem Ste.ld2 {s:Ste}:rd false 1 s.cs 2=some (.int .i64 s.inp):=rfl
@[go_sem] theorem Ste.get3 {s:Ste}:s.cs[3]? = some (.int .i64 s.p):=rfl
@[go_sem] theorem Ste.ld3 {s:Ste}:rd false 1 s.cs 3=some (.int .i64 s.p):=rfl
@[go_sem] theorem Ste.get4 {s:Ste}:s.cs[4]? = some (.int .i64 s.w):=rfl
@[go_sem] theorem Ste.ld4 {s:Ste}:rd false 1 s.cs 4=some (.int .i64 s.w):=rfl
@[go_sem] theorem Ste.sub_bad {s:Ste}:rd true 2 s.cs 3=some (Al.val ⟨s.p,s.w⟩):=rfl
structure Cl where
 b:Int
 p:Int
 k:Int
 v:V
 lA:Option Addr
 lC:Nat
 l:List Ba
def Cl.cs (s:Cl):List Value:=[.int .i64 s.b,.int .i64 s.p,.int .i64 s.k,.int .i64 s.v.w,.bool s.v.no,.int .i64 s.v.low,.int .i64 s.v.high,.int .i64 s.v.free,.int .i64 s.v.bits,.slice s.lA s.l.length s.lC]
def Cl.val (s:Cl):Value:=.agg s.cs.toArray
@[go_sem] theorem Cl.fold2 {s:Cl}:Value.agg s.cs.toArray=s.val:=rfl
@[go_sem] theorem Cl.cells_m {s:Cl}:Value.cells.match_1 (fun _=>Array Value) s.val (fun cs=>cs) (fun u=>#[u])=s.cs.toArray:=rfl
@[go_sem] theorem Cl.cells_val {s:Cl}:s.val.cells=s.cs.toArray:=rfl
@[go_sem] theorem Cl.cs_size {s:Cl}:s.cs.toArray.size=10:=rfl
@[go_sem] theorem Cl.cs_len {s:Cl}:s.cs.length=10:=rfl
@[go_sem] theorem Cl.jD {s:Cl}:wZ s.cs=True:=by
 apply eq_true
 intro u hu
 simp only [Cl.cs,List.mem_cons,List.not_mem_nil,or_false] at hu
 rcases hu with rfl | rfl | rfl | rfl | rfl | rfl | rfl | rfl | rfl | rfl <;> rfl
theorem Cl.plain (s:Cl):wZ s.cs:=of_eq_true Cl.jD
theorem Cl.len (s:Cl):s.cs.length=10:=rfl
@[go_sem] theorem Cl.take_all {s:Cl}:s.cs.take 10=s.cs:=rfl
@[go_sem] theorem Cl.take0 {s:Cl}:s.cs.take 0=[]:=rfl
@[go_sem] theorem Cl.drop_all {s:Cl}:s.cs.drop 10=[]:=rfl
@[go_sem] theorem Cl.ld {s:Cl}:rd true 10 s.cs 0=some s.val:=rfl
@[go_sem] theorem Cl.get0 {s:Cl}:s.cs[0]? = some (.int .i64 s.b):=rfl
@[go_sem] theorem Cl.ld0 {s:Cl}:rd false 1 s.cs 0=some (.int .i64 s.b):=rfl
@[go_sem] theorem Cl.get1 {s:Cl}:s.cs[1]? = some (.int .i64 s.p):=rfl
@[go_sem] theorem Cl.ld1 {s:Cl}:rd false 1 s.cs 1=some (.int .i64 s.p):=rfl
@[go_sem] theorem Cl.get2 {s:Cl}:s.cs[2]? = some (.int .i64 s.k):=rfl
@[go_sem] theorem Cl.ld2 {s:Cl}:rd false 1 s.cs 2=some (.int .i64 s.k):=rfl
@[go_sem] theorem Cl.get3 {s:Cl}:s.cs[3]? = some (.int .i64 s.v.w):=rfl
@[go_sem] theorem Cl.ld3 {s:Cl}:rd false 1 s.cs 3=some (.int .i64 s.v.w):=rfl
@[go_sem] theorem Cl.get4 {s:Cl}:s.cs[4]? = some (.bool s.v.no):=rfl
@[go_sem] theorem Cl.ld4 {s:Cl}:rd false 1 s.cs 4=some (.bool s.v.no):=rfl
@[go_sem] theorem Cl.get5 {s:Cl}:s.cs[5]? = some (.int .i64 s.v.low):=rfl
@[go_sem] theorem Cl.ld5 {s:Cl}:rd false 1 s.cs 5=some (.int .i64 s.v.low):=rfl
@[go_sem] theorem Cl.get6 {s:Cl}:s.cs[6]? = some (.int .i64 s.v.high):=rfl
@[go_sem] theorem Cl.ld6 {s:Cl}:rd false 1 s.cs 6=some (.int .i64 s.v.high):=rfl
@[go_sem] theorem Cl.get7 {s:Cl}:s.cs[7]? = some (.int .i64 s.v.free):=rfl
@[go_sem] theorem Cl.ld7 {s:Cl}:rd false 1 s.cs 7=some (.int .i64 s.v.free):=rfl
@[go_sem] theorem Cl.get8 {s:Cl}:s.cs[8]? = some (.int .i64 s.v.bits):=rfl
@[go_sem] theorem Cl.ld8 {s:Cl}:rd false 1 s.cs 8=some (.int .i64 s.v.bits):=rfl
@[go_sem] theorem Cl.get9 {s:Cl}:s.cs[9]? = some (.slice s.lA s.l.length s.lC):=rfl
@[go_sem] theorem Cl.ld9 {s:Cl}:rd false 1 s.cs 9=some (.slice s.lA s.l.length s.lC):=rfl
@[go_sem] theorem Cl.sub_abs {s:Cl}:rd true 7 s.cs 3=some (abV s.v (.slice s.lA s.l.length s.lC)):=rfl
@[go_sem] theorem Cl.sub_num {s:Cl}:rd true 6 s.cs 3=some (s.v.val):=rfl
structure En where
 no:Bool
 cellsA:Option Addr
 cellsC:Nat
 cells:List Cl
 newsA:Option Addr
 newsC:Nat
 news:List Int
def En.cs (s:En):List Value:=[.bool s.no,.slice s.cellsA s.cells.length s.cellsC,.slice s.newsA s.news.length s.newsC]
def En.val (s:En):Value:=.agg s.cs.toArray
@[go_sem] theorem En.fold2 {s:En}:Value.agg s.cs.toArray=s.val:=rfl
@[go_sem] theorem En.cells_m {s:En}:Value.cells.match_1 (fun _=>Array Value) s.val (fun cs=>cs) (fun u=>#[u])=s.cs.toArray:=rfl
@[go_sem] theorem En.cells_val {s:En}:s.val.cells=s.cs.toArray:=rfl
@[go_sem] theorem En.cs_size {s:En}:s.cs.toArray.size=3:=rfl
@[go_sem] theorem En.cs_len {s:En}:s.cs.length=3:=rfl
@[go_sem] theorem En.jD {s:En}:wZ s.cs=True:=by
 apply eq_true
 intro u hu
 simp only [En.cs,List.mem_cons,List.not_mem_nil,or_false] at hu
 rcases hu with rfl | rfl | rfl <;> rfl
@[go_sem] theorem En.take_all {s:En}:s.cs.take 3=s.cs:=rfl
@[go_sem] theorem En.take0 {s:En}:s.cs.take 0=[]:=rfl
@[go_sem] theorem En.drop_all {s:En}:s.cs.drop 3=[]:=rfl
@[go_sem] theorem En.ld {s:En}:rd true 3 s.cs 0=some s.val:=rfl
@[go_sem] theorem En.get0 {s:En}:s.cs[0]? = some (.bool s.no):=rfl
@[go_sem] theorem En.ld0 {s:En}:rd false 1 s.cs 0=some (.bool s.no):=rfl
@[go_sem] theorem En.get1 {s:En}:s.cs[1]? = some (.slice s.cellsA s.cells.length s.cellsC):=rfl
@[go_sem] theorem En.ld1 {s:En}:rd false 1 s.cs 1=some (.slice s.cellsA s.cells.length s.cellsC):=rfl
@[go_sem] theorem En.get2 {s:En}:s.cs[2]? = some (.slice s.newsA s.news.length s.newsC):=rfl
@[go_sem] theorem En.ld2 {s:En}:rd false 1 s.cs 2=some (.slice s.newsA s.news.length s.newsC):=rfl
@[go_sem] theorem Cl.abs_tail {s:Cl}:s.cs.drop 3=yJ s.v (.slice s.lA s.l.length s.lC):=rfl
structure Pc where
 b:Int
 p:Int
 k:Int
 v:V
 l:List Ba
instance Pc.dec:DecidableEq Pc:=fun x y=>decidable_of_iff (x.b=y.b∧x.p=y.p∧x.k=y.k∧x.v=y.v∧x.l=y.l) (by cases x; cases y; simp)
def Cl.pc (c:Cl):Pc:=⟨c.b,c.p,c.k,c.v,c.l⟩
def Bl.rd (F:Fz)(M:Hp)(s:Bl):Prop:=RdG 5 By.cs F M (.slice s.lA s.l.length s.lC) s.l
def Cl.rd (F:Fz)(M:Hp)(s:Cl):Prop:=RdG 7 Ba.cs F M (.slice s.lA s.l.length s.lC) s.l
structure Ste.rd (F:Fz)(M:Hp)(s:Ste):Prop where
 blocks:RdG 2 Bl.cs F M (.slice s.blocksA s.blocks.length s.blocksC) s.blocks
 bytes:∀b∈s.blocks,b.rd F M
 next:intR F M s.nextA s.nextC s.next
 zero:(s.blocksA=none→s.blocksC=0)∧(s.nextA=none→s.nextC=0)∧∀b∈s.blocks,b.lA=none→b.lC=0
structure En.rd (F:Fz)(M:Hp)(s:En):Prop where
 cells:RdG 10 Cl.cs F M (.slice s.cellsA s.cells.length s.cellsC) s.cells
 ptrs:∀c∈s.cells,c.rd F M
 news:intR F M s.newsA s.newsC s.news
 zero:(s.cellsA=none→s.cellsC=0)∧(s.newsA=none→s.newsC=0)∧∀c∈s.cells,c.lA=none→c.lC=0
theorem Ste.rd.keep {F:Fz}{M M':Hp}{s:Ste}(h:s.rd F M)(kp:Keep M M')(o:Old F M'):s.rd F M':=⟨h.blocks.keep kp o,fun b hb=>RdG.keep (h.bytes b hb) kp o,h.next.keep kp o,h.zero⟩
theorem En.rd.keep {F:Fz}{M M':Hp}{s:En}(h:s.rd F M)(kp:Keep M M')(o:Old F M'):s.rd F M':=⟨h.cells.keep kp o,fun b hb=>RdG.keep (h.ptrs b hb) kp o,h.news.keep kp o,h.zero⟩
theorem En.rd.new {F:Fz}{M:Hp}{s:En}(h:s.rd F M){r:Nat}{e:Ent}(hF:F r=none)(hM:M r=none):s.rd F (M.upd r e):=⟨h.cells.new hF hM,fun b hb=>RdG.new (h.ptrs b hb) hF hM,h.news.new hF hM,h.zero⟩
theorem Ste.rd.lent {F:Fz}{M N:Hp}{s:Ste}(h:s.rd F M)(hN:Old (F.all M) N):s.rd (F.all M) N:=⟨h.blocks.lent hN,fun b hb=>RdG.lent (h.bytes b hb) hN,h.next.lent hN,h.zero⟩
theorem En.rd.lent {F:Fz}{M N:Hp}{s:En}(h:s.rd F M)(hN:Old (F.all M) N):s.rd (F.all M) N:=⟨h.cells.lent hN,fun b hb=>RdG.lent (h.ptrs b hb) hN,h.news.lent hN,h.zero⟩
theorem En.rd.all {F:Fz}{M N:Hp}{s:En}(hd:∀b,N b≠none→M b=none∧F b=none)(h:s.rd (F.all M) N):s.rd F (M.join N):=⟨h.cells.all hd,fun b hb=>RdG.all hd (h.ptrs b hb),h.news.all hd,h.zero⟩
theorem Ste.rd.all {F:Fz}{M N:Hp}{s:Ste}(hd:∀b,N b≠none→M b=none∧F b=none)(h:s.rd (F.all M) N):s.rd F (M.join N):=⟨h.blocks.all hd,fun b hb=>RdG.all hd (h.bytes b hb),h.next.all hd,h.zero⟩
structure Pg.rdM (F:Fz)(M:Hp)(p:Pg):Prop where
 vars:intR F M p.vA p.vC p.vars
 news:intR F M p.nA p.nC p.news
 exprs:RdG 5 Xp.cs F M (.slice p.eA p.exprs.length p.eC) p.exprs
 stmts:RdG 7 Sm.cs F M (.slice p.sA p.stmts.length p.sC) p.stmts
 main:intR F M p.mA p.mC p.main
 bodies:∀s∈p.stmts,intR F M s.ba s.bc s.body∧intR F M s.ea s.ec s.els
 zero:(p.vA=none→p.vC=0)∧(p.nA=none→p.nC=0)∧∀s∈p.stmts,(s.ba=none→s.bc=0)∧(s.ea=none→s.ec=0)
 few:p.vars.length≤2500∧p.news.length≤2500∧p.exprs.length≤2500∧p.stmts.length≤2500∧p.main.length≤2500∧∀s∈p.stmts,s.body.length≤2500∧s.els.length≤2500
theorem Pg.rdM.lent {F:Fz}{M:Hp}{p:Pg}(h:p.rdM F M):p.rd (F.all M):=
 ⟨fun N o=>h.vars.lent o,fun N o=>h.news.lent o,fun N o=>h.exprs.lent o,fun N o=>h.stmts.lent o,fun N o=>h.main.lent o,fun s hs N o=>⟨(h.bodies s hs).1.lent o,(h.bodies s hs).2.lent o⟩,h.zero,h.few⟩
abbrev Ext (B:Nat→Option (List Value)) (F:Fz) (M:Hp):Prop:=∀b c,B b=some c→blk F M b=some c
section
variable {B:Nat→Option (List Value)}
theorem rd_one {a r:Sh}{cs:List Value}(h:Rd B (.cons 1 a r) cs):∃x cs',cs=x :: cs'∧Rd B a [x]∧Rd B r cs':=by
 obtain ⟨h1,h2,h3⟩:=h
 cases cs with
 | nil=>simp at h1
 | cons x cs=>exact ⟨x,cs,rfl,by simpa using h2,by simpa using h3⟩
theorem rd_part {n:Nat}{a r:Sh}{cs:List Value}(h:Rd B (.cons n a r) cs):∃c1 c2,cs=c1++c2∧c1.length=n∧Rd B a c1∧Rd B r c2:=
 ⟨cs.take n,cs.drop n,(List.take_append_drop _ _).symm,h.1,h.2.1,h.2.2⟩
theorem rd_end {cs:List Value}(h:Rd B .nil cs):cs=[]:=h
theorem rd_i {x:Value}(h:Rd B (.int .i64) [x]):∃n:Int,x=.int .i64 n∧in64 n:=by
 obtain ⟨n,e,hw⟩:=h
 cases e
 refine ⟨n,rfl,?_⟩
 simp [Lit.wf,IntKind.min,IntKind.max,IntKind.signed,IntKind.bits] at hw
 unfold in64
 omega
theorem rd_b {x:Value}(h:Rd B .bool [x]):∃b:Bool,x=.bool b:=by
 obtain ⟨n,e⟩:=h
 cases e
 exact ⟨n,rfl⟩
theorem rdG0 {α:Type}{sz bytes:Nat}{e:Sh}{f:α→List Value}{Q:α→Prop}{v:Value}(h:Rd B (.slice sz bytes e) [v])(hb:0 < bytes)(hsz:0 < sz)(hx:∀x:List Value,x.length=sz→Rd B e x→∃a:α,x=f a∧Q a) :
  ∃(a:Option Addr) (cap:Nat) (l:List α),v=.slice a l.length cap∧(a=none→cap=0)∧l.length≤140737488351232∧(∀x∈l,Q x)∧∀(F:Fz) (M:Hp),Ext B F M→RdG sz f F M (.slice a l.length cap) l:=by
 obtain ⟨a,cap,l,rfl,h1,h2,h3⟩:=rdG_of h hb hsz hx
 exact ⟨a,cap,l,rfl,rd_slice0 h,h1,h2,h3⟩
theorem rdI0 {v:Value}(h:Rd B shInts [v]):∃(a:Option Addr) (cap:Nat) (l:List Int),v=.slice a l.length cap∧(a=none→cap=0)∧l.length≤140737488351232∧(∀x∈l,in64 x)∧∀(F:Fz) (M:Hp),Ext B F M→intR F M a cap l:=
 rdG0 (Q:=in64) h (by decide) (by decide) (fun x hl hx=>by
  match x,hl with
  | [x],_=>
   obtain ⟨n,rfl,hn⟩:=rd_i hx
   exact ⟨n,rfl,hn⟩)
abbrev shBy:Sh:=.cons 1 (.int .i64) (.cons 1 (.int .i64) (.cons 1 (.int .i64) (.cons 1 (.int .i64) (.cons 1 (.int .i64) .nil))))
abbrev shAl:Sh:=.cons 1 (.int .i64) (.cons 1 (.int .i64) .nil)
abbrev shBk:Sh:=.cons 1 (.int .i64) (.cons 1 (.slice 5 40 shBy) .nil)
abbrev shSt:Sh:=.cons 1 (.slice 2 32 shBk) (.cons 1 shInts (.cons 1 (.int .i64) (.cons 2 shAl .nil)))
abbrev shCl:Sh:=.cons 1 (.int .i64) (.cons 1 (.int .i64) (.cons 1 (.int .i64) (.cons 7 shAb .nil)))
abbrev shEn:Sh:=.cons 1 .bool (.cons 1 (.slice 10 96 shCl) (.cons 1 shInts .nil))
abbrev shSm:Sh:=.cons 1 (.int .i64) (.cons 1 (.int .i64) (.cons 1 (.int .i64) (.cons 1 (.int .i64) (.cons 1 (.int .i64) (.cons 1 shInts (.cons 1 shInts .nil))))))
abbrev shAbi:Sh:=.cons 1 .bool (.cons 1 (.int .i64) .nil)
abbrev shPg:Sh:=.cons 2 shAbi (.cons 1 shInts (.cons 1 shInts (.cons 1 (.slice 5 40 shBy) (.cons 1 (.slice 7 88 shSm) (.cons 1 shInts .nil)))))
abbrev shAsk16:Sh:=.cons 7 shPg (.cons 1 (.slice 5 72 shSt) (.cons 1 (.slice 3 56 shEn) (.cons 1 (.slice 7 72 shAb) .nil)))
theorem rd_By {x:List Value}(h:Rd B shBy x):∃s:By,x=s.cs:=by
 obtain ⟨x0,c,rfl,h0,h⟩:=rd_one h
 obtain ⟨x1,c,rfl,h1,h⟩:=rd_one h
 obtain ⟨x2,c,rfl,h2,h⟩:=rd_one h
 obtain ⟨x3,c,rfl,h3,h⟩:=rd_one h
 obtain ⟨x4,c,rfl,h4,h⟩:=rd_one h
 obtain rfl:=rd_end h
 obtain ⟨n0,rfl,_⟩:=rd_i h0
 obtain ⟨n1,rfl,_⟩:=rd_i h1
 obtain ⟨n2,rfl,_⟩:=rd_i h2
 obtain ⟨n3,rfl,_⟩:=rd_i h3
 obtain ⟨n4,rfl,_⟩:=rd_i h4
 exact ⟨⟨n0,n1,n2,n3,n4⟩,rfl⟩
theorem rd_Xp {x:List Value}(h:Rd B shBy x):∃s:Xp,x=s.cs:=by
 obtain ⟨s,rfl⟩:=rd_By h
 exact ⟨⟨s.st,s.n,s.b,s.o,s.i⟩,rfl⟩
def Bl.inB (B:Nat→Option (List Value))(s:Bl):Prop:=(s.lA=none→s.lC=0)∧s.l.length≤140737488351232∧∀F M,Ext B F M→s.rd F M
theorem rd_Bl {x:List Value}(h:Rd B shBk x):∃s:Bl,x=s.cs∧s.inB B:=by
 obtain ⟨x0,c,rfl,h0,h⟩:=rd_one h
 obtain ⟨x1,c,rfl,h1,h⟩:=rd_one h
 obtain rfl:=rd_end h
 obtain ⟨n0,rfl,_⟩:=rd_i h0
 obtain ⟨a,cap,l,rfl,g1,g2,g3,g4⟩:=rdG0 (f:=By.cs) (Q:=fun _=>True) h1 (by decide) (by decide) (fun x _ hx=>by obtain ⟨s,hs⟩:=rd_By hx; exact ⟨s,hs,trivial⟩)
 exact ⟨⟨n0,a,cap,l⟩,rfl,g1,g2,g4⟩
structure Ste.inB (B:Nat→Option (List Value))(s:Ste):Prop where
 many:s.blocks.length≤140737488351232∧s.next.length≤140737488351232
 bytes:∀b∈s.blocks,b.l.length≤140737488351232
 rd:∀F M,Ext B F M→s.rd F M
theorem rd_Ste {x:List Value}(h:Rd B shSt x):∃s:Ste,x=s.cs∧s.inB B:=by
 obtain ⟨x0,c,rfl,h0,h⟩:=rd_one h
 obtain ⟨x1,c,rfl,h1,h⟩:=rd_one h
 obtain ⟨x2,c,rfl,h2,h⟩:=rd_one h
 obtain ⟨y,c,rfl,hy,h3,h⟩:=rd_part h
 obtain rfl:=rd_end h
 obtain ⟨x3,c,rfl,h4,h⟩:=rd_one h3
 obtain ⟨x4,c,rfl,h5,h⟩:=rd_one h
 obtain rfl:=rd_end h
 obtain ⟨n2,rfl,_⟩:=rd_i h2
 obtain ⟨n3,rfl,_⟩:=rd_i h4
 obtain ⟨n4,rfl,_⟩:=rd_i h5
 obtain ⟨a,cap,l,rfl,g1,g2,g3,g4⟩:=rdG0 (f:=Bl.cs) (Q:=Bl.inB B) h0 (by decide) (by decide) (fun x _ hx=>rd_Bl hx)
 obtain ⟨a',cap',l',rfl,k1,k2,k3,k4⟩:=rdI0 h1
 exact ⟨⟨a,cap,l,a',cap',l',n2,n3,n4⟩,rfl,⟨g2,k2⟩,fun b hb=>(g3 b hb).2.1,fun F M hB=>⟨g4 F M hB,fun b hb=>(g3 b hb).2.2 F M hB,k4 F M hB,g1,k1,fun b hb=>(g3 b hb).1⟩⟩
def Cl.inB (B:Nat→Option (List Value))(s:Cl):Prop:=(s.lA=none→s.lC=0)∧s.l.length≤140737488351232∧∀F M,Ext B F M→s.rd F M
theorem rd_Cl {x:List Value}(h:Rd B shCl x):∃s:Cl,x=s.cs∧s.inB B:=by
 obtain ⟨x0,c,rfl,h0,h⟩:=rd_one h
 obtain ⟨x1,c,rfl,h1,h⟩:=rd_one h
 obtain ⟨x2,c,rfl,h2,h⟩:=rd_one h
 obtain ⟨y,c,rfl,hy,h3,h⟩:=rd_part h
 obtain rfl:=rd_end h
 obtain ⟨z,c,rfl,hz,h4,h⟩:=rd_part h3
 obtain ⟨x4,c,rfl,h5,h⟩:=rd_one h
 obtain rfl:=rd_end h
 obtain ⟨v,rfl⟩:=rd_V hz h4
 obtain ⟨n0,rfl,_⟩:=rd_i h0
 obtain ⟨n1,rfl,_⟩:=rd_i h1
 obtain ⟨n2,rfl,_⟩:=rd_i h2
 obtain ⟨a,cap,l,rfl,g1,g2,g3,g4⟩:=rdG0 (f:=Ba.cs) (Q:=fun _=>True) h5 (by decide) (by decide) (fun x hl hx=>by obtain ⟨s,hs⟩:=rd_Ba hl hx; exact ⟨s,hs,trivial⟩)
 exact ⟨⟨n0,n1,n2,v,a,cap,l⟩,rfl,g1,g2,g4⟩
structure En.inB (B:Nat→Option (List Value))(s:En):Prop where
 many:s.cells.length≤140737488351232∧s.news.length≤140737488351232
 ptrs:∀b∈s.cells,b.l.length≤140737488351232
 rd:∀F M,Ext B F M→s.rd F M
theorem rd_En {x:List Value}(h:Rd B shEn x):∃s:En,x=s.cs∧s.inB B:=by
 obtain ⟨x0,c,rfl,h0,h⟩:=rd_one h
 obtain ⟨x1,c,rfl,h1,h⟩:=rd_one h
 obtain ⟨x2,c,rfl,h2,h⟩:=rd_one h
 obtain rfl:=rd_end h
 obtain ⟨n0,rfl⟩:=rd_b h0
 obtain ⟨a,cap,l,rfl,g1,g2,g3,g4⟩:=rdG0 (f:=Cl.cs) (Q:=Cl.inB B) h1 (by decide) (by decide) (fun x _ hx=>rd_Cl hx)
 obtain ⟨a',cap',l',rfl,k1,k2,k3,k4⟩:=rdI0 h2
 exact ⟨⟨n0,a,cap,l,a',cap',l'⟩,rfl,⟨g2,k2⟩,fun b hb=>(g3 b hb).2.1,fun F M hB=>⟨g4 F M hB,fun b hb=>(g3 b hb).2.2 F M hB,k4 F M hB,g1,k1,fun b hb=>(g3 b hb).1⟩⟩
def Sm.inB (B:Nat→Option (List Value))(s:Sm):Prop:=((s.ba=none→s.bc=0)∧(s.ea=none→s.ec=0))∧(s.body.length≤140737488351232∧s.els.length≤140737488351232)∧∀F M,Ext B F M→intR F M s.ba s.bc s.body∧intR F M s.ea s.ec s.els
theorem rd_Sm {x:List Value}(h:Rd B shSm x):∃s:Sm,x=s.cs∧s.inB B:=by
 obtain ⟨x0,c,rfl,h0,h⟩:=rd_one h
 obtain ⟨x1,c,rfl,h1,h⟩:=rd_one h
 obtain ⟨x2,c,rfl,h2,h⟩:=rd_one h
 obtain ⟨x3,c,rfl,h3,h⟩:=rd_one h
 obtain ⟨x4,c,rfl,h4,h⟩:=rd_one h
 obtain ⟨x5,c,rfl,h5,h⟩:=rd_one h
 obtain ⟨x6,c,rfl,h6,h⟩:=rd_one h
 obtain rfl:=rd_end h
 obtain ⟨n0,rfl,_⟩:=rd_i h0
 obtain ⟨n1,rfl,_⟩:=rd_i h1
 obtain ⟨n2,rfl,_⟩:=rd_i h2
 obtain ⟨n3,rfl,_⟩:=rd_i h3
 obtain ⟨n4,rfl,_⟩:=rd_i h4
 obtain ⟨a,cap,l,rfl,g1,g2,g3,g4⟩:=rdI0 h5
 obtain ⟨a',cap',l',rfl,k1,k2,k3,k4⟩:=rdI0 h6
 exact ⟨⟨n0,n1,n2,n3,n4,a,cap,l,a',cap',l'⟩,rfl,⟨g1,k1⟩,⟨g2,k2⟩,fun F M hB=>⟨g4 F M hB,k4 F M hB⟩⟩
structure Pg.inB (B:Nat→Option (List Value))(p:Pg):Prop where
 many:p.vars.length≤140737488351232∧p.news.length≤140737488351232∧p.exprs.length≤140737488351232∧p.stmts.length≤140737488351232∧p.main.length≤140737488351232∧∀s∈p.stmts,s.body.length≤140737488351232∧s.els.length≤140737488351232
 vars:∀F M,Ext B F M→intR F M p.vA p.vC p.vars
 news:∀F M,Ext B F M→intR F M p.nA p.nC p.news
 exprs:∀F M,Ext B F M→RdG 5 Xp.cs F M (.slice p.eA p.exprs.length p.eC) p.exprs
 stmts:∀F M,Ext B F M→RdG 7 Sm.cs F M (.slice p.sA p.stmts.length p.sC) p.stmts
 main:∀F M,Ext B F M→intR F M p.mA p.mC p.main
 bodies:∀s∈p.stmts,∀F M,Ext B F M→intR F M s.ba s.bc s.body∧intR F M s.ea s.ec s.els
 zero:(p.vA=none→p.vC=0)∧(p.nA=none→p.nC=0)∧∀s∈p.stmts,(s.ba=none→s.bc=0)∧(s.ea=none→s.ec=0)
 ints:(∀x∈p.vars,in64 x)∧(∀x∈p.news,in64 x)
theorem rd_Pg {x:List Value}(h:Rd B shPg x):∃p:Pg,x=p.cs∧p.inB B:=by
 obtain ⟨y,c,rfl,hy,ha,h⟩:=rd_part h
 obtain ⟨x2,c,rfl,h2,h⟩:=rd_one h
 obtain ⟨x3,c,rfl,h3,h⟩:=rd_one h
 obtain ⟨x4,c,rfl,h4,h⟩:=rd_one h
 obtain ⟨x5,c,rfl,h5,h⟩:=rd_one h
 obtain ⟨x6,c,rfl,h6,h⟩:=rd_one h
 obtain rfl:=rd_end h
 obtain ⟨x0,c,rfl,h0,h⟩:=rd_one ha
 obtain ⟨x1,c,rfl,h1,h⟩:=rd_one h
 obtain rfl:=rd_end h
 obtain ⟨n0,rfl⟩:=rd_b h0
 obtain ⟨n1,rfl,_⟩:=rd_i h1
 obtain ⟨a2,c2,l2,rfl,p1,p2,p3,p4⟩:=rdI0 h2
 obtain ⟨a3,c3,l3,rfl,q1,q2,q3,q4⟩:=rdI0 h3
 obtain ⟨a4,c4,l4,rfl,r1,r2,r3,r4⟩:=rdG0 (f:=Xp.cs) (Q:=fun _=>True) h4 (by decide) (by decide) (fun x _ hx=>by obtain ⟨s,hs⟩:=rd_Xp hx; exact ⟨s,hs,trivial⟩)
 obtain ⟨a5,c5,l5,rfl,s1,s2,s3,s4⟩:=rdG0 (f:=Sm.cs) (Q:=Sm.inB B) h5 (by decide) (by decide) (fun x _ hx=>rd_Sm hx)
 obtain ⟨a6,c6,l6,rfl,t1,t2,t3,t4⟩:=rdI0 h6
 exact ⟨⟨n0,n1,a2,c2,l2,a3,c3,l3,a4,c4,l4,a5,c5,l5,a6,c6,l6⟩,rfl,⟨p2,q2,r2,s2,t2,fun s hs=>(s3 s hs).2.1⟩,p4,q4,r4,s4,t4,fun s hs=>(s3 s hs).2.2,⟨p1,q1,fun s hs=>(s3 s hs).1⟩,p3,q3⟩
structure Ask16 where
 p:Pg
 sA:Option Addr
 sC:Nat
 s:List Ste
 eA:Option Addr
 eC:Nat
 e:List En
 xA:Option Addr
 xC:Nat
 x:List Ab
def Ask16.cs (q:Ask16):List Value:=q.p.cs++[.slice q.sA q.s.length q.sC,.slice q.eA q.e.length q.eC,.slice q.xA q.x.length q.xC]
structure Ask16.inB (B:Nat→Option (List Value))(q:Ask16):Prop where
 p:q.p.inB B
 s:∀F M,Ext B F M→RdG 5 Ste.cs F M (.slice q.sA q.s.length q.sC) q.s
 ss:∀x∈q.s,x.inB B
 e:∀F M,Ext B F M→RdG 3 En.cs F M (.slice q.eA q.e.length q.eC) q.e
 es:∀x∈q.e,x.inB B
 x:∀F M,Ext B F M→RdG 7 Ab.cs F M (.slice q.xA q.x.length q.xC) q.x
 xs:∀y∈q.x,y.row B
 zero:(q.sA=none→q.sC=0)∧(q.eA=none→q.eC=0)∧(q.xA=none→q.xC=0)
 many:q.s.length≤140737488351232∧q.e.length≤140737488351232∧q.x.length≤140737488351232
theorem rd_ask16 {cs:List Value}(h:Rd B shAsk16 cs):∃q:Ask16,cs=q.cs∧q.inB B:=by
 obtain ⟨y,c,rfl,hy,hp,h⟩:=rd_part h
 obtain ⟨x1,c,rfl,h1,h⟩:=rd_one h
 obtain ⟨x2,c,rfl,h2,h⟩:=rd_one h
 obtain ⟨x3,c,rfl,h3,h⟩:=rd_one h
 obtain rfl:=rd_end h
 obtain ⟨p,rfl,hq⟩:=rd_Pg hp
 obtain ⟨a1,c1,l1,rfl,p1,p2,p3,p4⟩:=rdG0 (f:=Ste.cs) (Q:=Ste.inB B) h1 (by decide) (by decide) (fun x _ hx=>rd_Ste hx)
 obtain ⟨a2,c2,l2,rfl,q1,q2,q3,q4⟩:=rdG0 (f:=En.cs) (Q:=En.inB B) h2 (by decide) (by decide) (fun x _ hx=>rd_En hx)
 obtain ⟨a3,c3,l3,rfl,r1,r2,r3,r4⟩:=rdG0 (f:=Ab.cs) (Q:=Ab.row B) h3 (by decide) (by decide) (fun x hl hx=>rd_Ab hl hx)
 exact ⟨⟨p,a1,c1,l1,a2,c2,l2,a3,c3,l3⟩,rfl,hq,p4,p3,q4,q3,r4,r3,⟨p1,q1,r1⟩,p2,q2,r2⟩
end
end Go.Ax
namespace Go.Ax
open Go
theorem vQ {P:Program}{a b:SC}{Q:Post}{σ:Env}{F:Fz}{M:Hp}{o:Option Value}(I:Env→Fz→Hp→Prop)(h:condK P a b (cutQ (At I) Q) σ F M o)
  (hn:∀σ' F' M',Stay (a.defs++b.defs) σ σ'→I σ' F' M'→Q .n σ' F' M'):condK P a b Q σ F M o:=by
 obtain ⟨t,h1,h2,h3⟩:=h
 refine ⟨t,h1,fun ht=>?_,fun ht=>?_⟩
 ·refine W_mono (fun x σ2 F2 M2 hx=>?_) (W_stay (h2 ht))
  cases x with
  | n=>exact hn _ _ _ (hx.1.mono (by intros; simp [*])) hx.2.h
  | r=>exact hx.2
  | e j=>exact hx.2
 ·refine W_mono (fun x σ2 F2 M2 hx=>?_) (W_stay (h3 ht))
  cases x with
  | n=>exact hn _ _ _ (hx.1.mono (by intros; simp [*])) hx.2.h
  | r=>exact hx.2
  | e j=>exact hx.2
theorem rowR.endK {α:Type}{sz:Nat}{f:α→List Value}{e:TypeId}{l:List α}{F F':Fz}{M M3 M4:Hp}{u:Value}(h:rowR sz f e l F M3 u F' M4)(kp:Keep M M3):endK F' M4 (rowR sz f e l F M) u:=by
 obtain ⟨rfl,h⟩:=h
 rcases h with ⟨h1,h2,rfl⟩ | ⟨g,cap,h1,h2,h3,h4,rfl⟩
 ·exact qX kp ⟨rfl,.inl ⟨h1,h2,rfl⟩⟩
 ·exact qX kp.both ⟨rfl,.inr ⟨g,cap,h1,kp.free h2,h3,h4,rfl⟩⟩
theorem yY.one {α:Type}{sz:Nat}{f:α→List Value}{e:TypeId}{F:Fz}{M0 M:Hp}{r:Nat}{x:α}(hF:F r=none)(h0:M0 r=none)(hx:(f x).length=sz):yY sz f e F M0 (M.upd r ⟨f x,e,sz⟩) (.slice (some ⟨r,0,none⟩) 1 1) [x]:=
 ⟨.inr ⟨r,1,rfl,hF,by rw [Hp.qJ]; simp,by simp,by decide⟩,fun g n c h=>by cases h; exact h0⟩
def wJ (p:Pg):List Int:=[0]++p.vars++p.news
def byteB (x:By):Bool:=
 if x.st=0 then decide (x=⟨0,0,0,0,0⟩) else if x.st=1 then (decide (0≤x.n) && decide (x.n≤255)) && decide (x.b=0) && decide (x.o=0) && decide (x.i=0)
 else if x.st=2 then decide (x.n=0) && (decide (1≤x.b) && decide (x.b≤32)) && (decide (0≤x.o) && decide (x.o≤32)) && (decide (0≤x.i) && decide (x.i≤3)) else false
def blockB (x:Bl):Bool:=(decide (0≤x.st) && decide (x.st≤3)) && decide (x.l.length≤32) && (decide (x.st=1) || decide (x.l.length=0)) && x.l.all byteB
def stAt (m:List Bl)(i:Nat):Int:=(m[i]?.map (·.st)).getD 0
def memoryB (m:List Bl):Bool:=(decide (1≤m.length) && decide (m.length≤33)) && decide (stAt m 0=0) && m.all blockB
@[go_sem] theorem Ste.bad2 {s:Ste}:List.take 2 (List.drop 3 s.cs)=Al.cs ⟨s.p,s.w⟩:=rfl
def szAt (sz:List Int)(b:Int):Int:=(sz[b.toNat]?).getD 0
def ptrIn (sz:List Int)(x:By):Bool:=!(decide (x.st=2) && (decide ((sz.length:Int)≤x.b) || decide (szAt sz x.b < x.o)))
def okBlk (nv:Nat)(sz:List Int)(i:Nat)(b:Bl):Bool:=
 !(decide (b.st=1) && !decide ((b.l.length:Int)=szAt sz i)) && !((decide (1≤(i:Int)) && decide ((i:Int)≤nv)) && !decide (b.st=1)) && b.l.all (ptrIn sz)
def okAll (nv:Nat)(sz:List Int)(m:List Bl)(n:Nat):Bool:=(List.range n).all fun i=>match m[i]? with | some b=>okBlk nv sz i b | none=>true
def memIn (p:Pg)(m:List Bl):Bool:=memoryB m && decide (m.length=(wJ p).length) && okAll p.vars.length (wJ p) m m.length
def inStmts (p:Pg)(n:Int):Bool:=decide (0≤n) && decide (n < p.stmts.length)
def alarmB (p:Pg)(a:Al):Bool:=decide (a=⟨0,0⟩) || (inStmts p a.p && (decide (1≤a.w) && decide (a.w≤10)))
def stateB (p:Pg)(s:Ste):Bool:=(decide (0≤s.inp) && decide (s.inp≤400)) && s.next.all (inStmts p) && alarmB p ⟨s.p,s.w⟩ && memIn p s.blocks
theorem okAll_succ {nv:Nat}{sz:List Int}{m:List Bl}{n:Nat}(h:n < m.length):okAll nv sz m (n+1)=(okAll nv sz m n && okBlk nv sz n m[n]):=by
 unfold okAll
 rw [List.range_succ,List.all_append]
 simp [List.getElem?_eq_getElem h]
theorem okAll_no {nv:Nat}{sz:List Int}{m:List Bl}{n i:Nat}(hi:i < n)(h:i < m.length)(hb:okBlk nv sz i m[i]=false):okAll nv sz m n=false:=by
 unfold okAll
 rw [List.all_eq_false]
 exact ⟨i,by simpa using hi,by rw [List.getElem?_eq_getElem h]; simp [hb]⟩
theorem szAt_get {sz:List Int}{i:Nat}(h:i < sz.length):szAt sz i=sz[i]:=by
 unfold szAt
 rw [Int.toNat_natCast,List.getElem?_eq_getElem h]; rfl
theorem byteB_part {x:By}(h:byteB x=true)(h2:x.st=2):1≤x.b∧x.b≤32∧0≤x.o∧x.o≤32∧0≤x.i∧x.i≤3∧x.n=0:=by
 simp [byteB,h2] at h
 omega
theorem memoryB_block {m:List Bl}(h:memoryB m=true){b:Bl}(hb:b∈m):blockB b=true:=by
 simp only [memoryB,Bool.and_eq_true] at h
 exact List.all_eq_true.1 h.2 _ hb
theorem blockB_bytes {b:Bl}(h:blockB b=true):∀x∈b.l,byteB x=true:=by
 simp only [blockB,Bool.and_eq_true] at h
 exact List.all_eq_true.1 h.2
@[go_sem] theorem Pg.take2 {p:Pg}:List.take 2 p.cs=[.bool p.big,.int .i64 p.ptr]:=rfl
@[go_sem] theorem Cl.take6 {s:Cl}:List.take 6 (List.drop 3 s.cs)=s.v.cs:=rfl
@[go_sem] theorem Cl.take7 {s:Cl}:List.take 7 (List.drop 3 s.cs)=yJ s.v (.slice s.lA s.l.length s.lC):=rfl
def wX (ptr k:Int):Int:=if k=0∨k=11 then 1 else if k=7 then ptr else (wK k).tdiv 8
def yD (c:Pc):Bool:=
 if c.k=0 then decide (c.v=V.zero) && decide (c.l.length=0) else if c.k=11 then c.v.ok && decide (c.v.w=8) && jG c.l else isS c.k && absB c.k c.v c.l
def knownB (l:List Ba)(n:Int):Bool:=l.all fun x=>decide (x.b≤n)
def cellB (ptr:Int)(sz:List Int)(c:Pc):Bool:=
 yD c && (decide (1≤c.b) && decide (c.b < sz.length)) && decide (0≤c.p) && knownB c.l ((sz.length:Int) - 1) && decide (c.p.tmod (wX ptr c.k)=0) && decide (c.p≤szAt sz c.b - wX ptr c.k)
def beforeB (a b:Pc):Bool:=if a.b=b.b then (if a.p=b.p then decide (a.k < b.k) else decide (a.p < b.p)) else decide (a.b < b.b)
def prevOk (l:List Pc)(i:Nat)(c:Pc):Bool:=match l[i - 1]? with | some b=>beforeB b c | none=>true
def upAt (ptr:Int)(sz:List Int)(l:List Pc)(i:Nat):Bool:=match l[i]? with
 | some c=>cellB ptr sz c && (decide (i=0) || prevOk l i c)
 | none=>true
theorem upAt_get {ptr:Int}{sz:List Int}{l:List Pc}{i:Nat}{c:Pc}(h:l[i]? = some c):upAt ptr sz l i=(cellB ptr sz c && (decide (i=0) || prevOk l i c)):=by
 unfold upAt; rw [h]
theorem prevOk_get {l:List Pc}{i:Nat}{b c:Pc}(h:l[i - 1]? = some b):prevOk l i c=beforeB b c:=by
 unfold prevOk; rw [h]
def cellsUp (ptr:Int)(sz:List Int)(l:List Pc)(n:Nat):Bool:=(List.range n).all (upAt ptr sz l)
structure Pe where
 no:Bool
 cells:List Pc
 news:List Int
instance Pe.dec:DecidableEq Pe:=fun x y=>decidable_of_iff (x.no=y.no∧x.cells=y.cells∧x.news=y.news) (by cases x; cases y; simp)
def En.pe (e:En):Pe:=⟨e.no,e.cells.map Cl.pc,e.news⟩
def inB (n:Int):Bool:=decide (1≤n) && decide (n≤15)
def envB (p:Pg)(e:Pe):Bool:=
 if e.no=true then decide (e.cells.length=0) && decide (e.news.length=0)
 else decide (e.cells.length≤200) && decide (e.news.length=p.news.length) && e.news.all inB && cellsUp p.ptr (wJ p) e.cells e.cells.length
theorem cellsUp_succ {ptr:Int}{sz:List Int}{l:List Pc}{n:Nat}:cellsUp ptr sz l (n+1)=(cellsUp ptr sz l n && upAt ptr sz l n):=by
 unfold cellsUp
 rw [List.range_succ,List.all_append]
 simp
theorem cellsUp_no {ptr:Int}{sz:List Int}{l:List Pc}{n i:Nat}(hi:i < n)(h:upAt ptr sz l i=false):cellsUp ptr sz l n=false:=by
 unfold cellsUp
 rw [List.all_eq_false]
 exact ⟨i,by simpa using hi,by simp [h]⟩
theorem jW {p:Pg}(h:yK p=true):(p.ptr=2∨p.ptr=4)∧p.vars.length≤4∧p.news.length≤2∧(∀n∈p.vars,1≤n∧n≤32)∧(∀n∈p.news,1≤n∧n≤32):=by
 simp only [yK,sizesB,Bool.and_eq_true,Bool.or_eq_true,decide_eq_true_eq,List.all_eq_true,sizeB] at h
 obtain ⟨⟨⟨⟨⟨⟨⟨h1,h2⟩,h3⟩,_⟩,_⟩,_⟩,_⟩,_⟩:=h
 exact ⟨h1,h2.1,h3.1,h2.2,h3.2⟩
theorem sizes_len (p:Pg):(wJ p).length=1+p.vars.length+p.news.length:=by simp [wJ]; omega
theorem sizes_in {p:Pg}(h:yK p=true)(b:Int):0≤szAt (wJ p) b∧szAt (wJ p) b≤32:=by
 obtain ⟨_,_,_,h4,h5⟩:=jW h
 unfold szAt
 cases he:(wJ p)[b.toNat]? with
 | none=>simp
 | some n=>
  have hm:=List.mem_of_getElem? he
  simp only [wJ,List.mem_append,List.mem_cons,List.not_mem_nil,or_false,Option.getD_some] at hm ⊢
  rcases hm with (hm | hm) | hm
  ·omega
  ·have:=h4 _ hm; omega
  ·have:=h5 _ hm; omega
theorem wK_cases {k:Int}(h:isS k=true)(h7:¬k=7):wK k=8∨wK k=16∨wK k=32:=by
 have:isK k=true:=by simp [isS,isK] at h ⊢; omega
 rw [wK_of this]
 unfold ofW
 split
 ·omega
 split <;> omega
theorem jX {ptr k:Int}(hp:ptr=2∨ptr=4)(hk:k=0∨k=11∨isS k=true):1≤wX ptr k∧wX ptr k≤4:=by
 unfold wX
 split
 ·omega
 rename_i h0
 split
 ·omega
 rename_i h7
 have:isS k=true:=by
  rcases hk with h | h | h
  ·exact absurd (.inl h) h0
  ·exact absurd (.inr h) h0
  ·exact h
 rcases wK_cases this h7 with h | h | h <;> rw [h] <;> decide
theorem content_kind {c:Pc}(h:yD c=true):c.k=0∨c.k=11∨isS c.k=true:=by
 unfold yD at h
 split at h
 ·exact .inl (by assumption)
 split at h
 ·exact .inr (.inl (by assumption))
 ·simp only [Bool.and_eq_true] at h
  exact .inr (.inr h.1)
theorem there_known {l:List Ba}(h:jG l=true)(n:Int):knownB l (n - 1)=(decide (l.length=0) || decide ((l.getLast?.map (·.b)).getD 0 < n)):=by
 have hs:=(okAt_base h).2
 clear h
 cases l with
 | nil=>simp [knownB]
 | cons x l=>
  have key:∀(y:Ba) (l:List Ba),(y :: l).Pairwise (fun x y=>x.b < y.b)→∀z∈y :: l,z.b≤((y :: l).getLast (by simp)).b:=by
   intro y l
   induction l generalizing y with
   | nil=>intro _ z hz; simp at hz; subst hz; simp
   | cons u l ih=>
    intro hp z hz
    rw [List.getLast_cons (by simp)]
    rcases List.mem_cons.1 hz with rfl | hz
    ·have h1:=(List.pairwise_cons.1 hp).1 u (by simp)
     have h2:=ih u (List.pairwise_cons.1 hp).2 u (by simp)
     omega
    ·exact ih u (List.pairwise_cons.1 hp).2 z hz
  rw [List.getLast?_eq_some_getLast (by simp)]
  simp only [Option.map_some,Option.getD_some,List.length_cons,Nat.add_one_ne_zero,decide_false,Bool.false_or]
  have hk:=key x l hs
  generalize hg:(x :: l).getLast (by simp)=g at *
  have hgm:g∈x :: l:=by rw [←hg]; exact List.getLast_mem _
  unfold knownB
  by_cases hn:g.b < n
  ·rw [decide_eq_true hn,List.all_eq_true]
   intro z hz
   have:=hk z hz
   simp; omega
  ·rw [decide_eq_false hn,List.all_eq_false]
   exact ⟨g,hgm,by simp; omega⟩
def cmpV (a b:Int):Int:=if a < b then -1 else if b < a then 1 else 0
def orV (l:List Int):Int:=(l.find? fun n=>!decide (n=0)).getD 0
def ordV (a b:Pc):Int:=orV [cmpV a.b b.b,cmpV a.p b.p,cmpV a.k b.k]
theorem ord_before (a b:Pc):decide (0≤ordV a b) = !beforeB a b:=by
 have hc:∀x y:Int,(x < y∧cmpV x y = -1)∨(x=y∧cmpV x y=0)∨(y < x∧cmpV x y=1):=fun x y=>by
  unfold cmpV
  split
  ·exact .inl ⟨by assumption,rfl⟩
  split
  ·exact .inr (.inr ⟨by assumption,rfl⟩)
  ·exact .inr (.inl ⟨by omega,rfl⟩)
 unfold ordV beforeB orV
 generalize hx:cmpV a.b b.b=x at *
 generalize hy:cmpV a.p b.p=y at *
 generalize hz:cmpV a.k b.k=z at *
 have c1:=hc a.b b.b
 have c2:=hc a.p b.p
 have c3:=hc a.k b.k
 rw [hx] at c1
 rw [hy] at c2
 rw [hz] at c3
 clear hx hy hz hc
 rcases c1 with ⟨h1,rfl⟩ | ⟨h1,rfl⟩ | ⟨h1,rfl⟩
 ·have:¬a.b=b.b:=by omega
  simp [this,h1]
 ·rcases c2 with ⟨h2,rfl⟩ | ⟨h2,rfl⟩ | ⟨h2,rfl⟩
  ·have:¬a.p=b.p:=by omega
   simp [h1,this,h2]
  ·rcases c3 with ⟨h3,rfl⟩ | ⟨h3,rfl⟩ | ⟨h3,rfl⟩
   ·simp [h1,h2,h3]
   ·simp [h1,h2,h3]
   ·have:¬a.k < b.k:=by omega
    simp [h1,h2,this]; try omega
  ·have h4:¬a.p=b.p:=by omega
   have h5:¬a.p < b.p:=by omega
   simp [h1,h4,h5]; try omega
 ·have h4:¬a.b=b.b:=by omega
  have h5:¬a.b < b.b:=by omega
  simp [h4,h5]; try omega
theorem flatG_set {α:Type}{sz:Nat}{f:α→List Value}(hf:∀x,(f x).length=sz)(x:α):∀(l:List α) (i:Nat),i < l.length→(l.flatMap f).take (i * sz)++f x++(l.flatMap f).drop (i * sz+sz)=(l.set i x).flatMap f
 | [],i,hi=>by simp at hi
 | y :: l,0,hi=>by
  have:=hf y
  simp [this]
 | y :: l,i+1,hi=>by
  have ih:=flatG_set hf x l i (by simpa using hi)
  have hy:=hf y
  have e1:(i+1) * sz=sz+i * sz:=by rw [Nat.succ_mul]; omega
  rw [List.set_cons_succ,List.flatMap_cons,List.flatMap_cons,e1]
  rw [List.take_append,List.drop_append,hy]
  have t1:List.take (sz+i * sz) (f y)=f y:=List.take_of_length_le (by omega)
  have t2:List.drop (sz+i * sz+sz) (f y)=[]:=List.drop_eq_nil_of_le (by omega)
  have t3:sz+i * sz - sz=i * sz:=by omega
  have t4:sz+i * sz+sz - sz=i * sz+sz:=by omega
  rw [t1,t2,t3,t4,List.nil_append,←ih]
  simp only [List.append_assoc]
theorem flatG_rep {α:Type}{f:α→List Value}(x:α)(n:Nat):(List.replicate n (f x)).flatten=(List.replicate n x).flatMap f:=by
 induction n with
 | zero=>rfl
 | succ n ih=>rw [List.replicate_succ,List.flatten_cons,ih,List.replicate_succ,List.flatMap_cons]
def wantB (b o:Int)(i:Nat):By:=if 0 < b then ⟨2,0,b,o,i⟩ else ⟨1,0,0,0,0⟩
def ptrL (b o:Int)(n:Nat):List By:=(List.range n).map (wantB b o)
def yQ (l:List By)(i:Nat):By:=(l[i]?).getD ⟨0,0,0,0,0⟩
def jJ (l:List By):Sc × Int:=if l=ptrL (yQ l 0).b (yQ l 0).o l.length then (⟨true,0,(yQ l 0).b,(yQ l 0).o⟩,0) else (⟨false,0,0,0⟩,8)
def ordL (big:Bool)(l:List By):List By:=if big=true then l else l.reverse
def numL (l:List By):Int:=l.foldl (fun n b=>bor .i64 (shlv .i64 n 8) b.n) 0
def stIs (n:Int)(l:List By):Bool:=l.any fun b=>decide (b.st=n)
def yW (big:Bool)(k:Int)(l:List By):Sc × Int:=
 if stIs 0 l=true then (⟨false,0,0,0⟩,7) else if k=7 then jJ l else if stIs 2 l=true then (⟨false,0,0,0⟩,8) else (⟨false,numL (ordL big l),0,0⟩,0)
def putB (big:Bool)(n:Nat)(s:Sc)(i:Nat):By:=if s.p=true then wantB s.b s.o i else ⟨1,band .i64 (shrv .i64 s.n (8 * ((if big=true then n - 1 - i else i:Nat):Int))) 255,0,0,0⟩
def putL (big:Bool)(n:Nat)(s:Sc):List By:=(List.range n).map (putB big n s)
theorem gV (big:Bool)(n:Nat)(s:Sc):(putL big n s).length=n:=by simp [putL]
theorem ptrL_len (b o:Int)(n:Nat):(ptrL b o n).length=n:=by simp [ptrL]
theorem ptrL_get {b o:Int}{n i:Nat}(h:i < n):(ptrL b o n)[i]? = some (wantB b o i):=by simp [ptrL,h]
theorem putL_ptr (big:Bool)(n:Nat)(b o:Int):putL big n ⟨true,0,b,o⟩=ptrL b o n:=by
 unfold putL ptrL
 apply List.map_congr_left
 intro i _
 simp [putB]
theorem ptr_none {l:List By}(hb:∀x∈l,byteB x=true)(h0:stIs 0 l=false)(h2:stIs 2 l=false)(hl:0 < l.length) :
  jJ l=if l.all (fun x=>decide (x.n=0))=true then (⟨true,0,0,0⟩,0) else (⟨false,0,0,0⟩,8):=by
 have key:∀x∈l,x.st=1∧x.b=0∧x.o=0∧x.i=0:=fun x hx=>by
  have h:=hb x hx
  have a0:¬x.st=0:=fun e=>by
   rw [stIs,List.any_eq_false] at h0; have:=h0 x hx; simp [e] at this
  have a2:¬x.st=2:=fun e=>by
   rw [stIs,List.any_eq_false] at h2; have:=h2 x hx; simp [e] at this
  by_cases a1:x.st=1
  ·simp [byteB,a1] at h; exact ⟨a1,h.1.1.2,h.1.2,h.2⟩
  ·simp [byteB,a0,a1,a2] at h
 have e0:yQ l 0=l[0]:=by unfold yQ; rw [List.getElem?_eq_getElem hl]; rfl
 obtain ⟨_,k1,k2,_⟩:=key l[0] (List.getElem_mem hl)
 unfold jJ
 rw [e0,k1,k2]
 have hiff:l=ptrL 0 0 l.length↔l.all (fun x=>decide (x.n=0))=true:=by
  rw [List.all_eq_true]
  constructor
  ·intro h x hx
   rw [h] at hx
   simp only [ptrL,List.mem_map] at hx
   obtain ⟨i,_,rfl⟩:=hx
   simp [wantB]
  ·intro h
   apply List.ext_getElem?
   intro i
   by_cases hi:i < l.length
   ·rw [ptrL_get hi,List.getElem?_eq_getElem hi]
    have hm:=List.getElem_mem hi
    have:=h _ hm
    obtain ⟨q1,q2,q3,q4⟩:=key _ hm
    generalize l[i]=x at *
    obtain ⟨a,b,c,d,e⟩:=x
    simp at this q1 q2 q3 q4
    simp [wantB,this,q1,q2,q3,q4]
   ·rw [List.getElem?_eq_none (by omega),List.getElem?_eq_none (by simp [ptrL]; omega)]
 by_cases h:l.all (fun x=>decide (x.n=0))=true
 ·rw [if_pos h,if_pos (hiff.2 h)]
 ·rw [if_neg h,if_neg (fun e=>h (hiff.1 e))]
theorem ptr_some {l:List By}(hb:∀x∈l,byteB x=true)(h2:stIs 2 l=true)(hl:0 < l.length) :
  jJ l=if (yQ l 0).st=2∧ptrL (yQ l 0).b (yQ l 0).o l.length=l then (⟨true,0,(yQ l 0).b,(yQ l 0).o⟩,0) else (⟨false,0,0,0⟩,8):=by
 unfold jJ
 by_cases he:l=ptrL (yQ l 0).b (yQ l 0).o l.length
 ·rw [if_pos he]
  have:(yQ l 0).st=2:=by
   rw [stIs,List.any_eq_true] at h2
   obtain ⟨x,hx,hs⟩:=h2
   have hs':x.st=2:=by simpa using hs
   rw [he] at hx
   simp only [ptrL,List.mem_map] at hx
   obtain ⟨i,_,rfl⟩:=hx
   have hpos:0 < (yQ l 0).b:=by
    unfold wantB at hs'
    split at hs'
    ·assumption
    ·simp at hs'
   have h0:yQ l 0=wantB (yQ l 0).b (yQ l 0).o 0:=by
    have:=congrArg (fun m=>yQ m 0) he
    simp only [yQ] at this ⊢
    rw [ptrL_get hl] at this
    exact this
   rw [h0]
   unfold wantB
   rw [if_pos hpos]
  rw [if_pos ⟨this,he.symm⟩]
 ·rw [if_neg he,if_neg (fun h=>he h.2.symm)]
theorem RdG.cut {α:Type}{sz:Nat}{f:α→List Value}{F:Fz}{M:Hp}{a:Option Addr}{c:Nat}{l:List α}(h:RdG sz f F M (.slice a l.length c) l){lo n:Nat}(h2:lo+n≤l.length) :
  RdG sz f F M (.slice (if (c:Int)=lo then a else a.map (·.add (lo * sz))) ((l.drop lo).take n).length (c - lo)) ((l.drop lo).take n):=by
 have hlen:((l.drop lo).take n).length=n:=by simp; omega
 obtain ⟨h1,ad,cap,hc,e,h⟩:=h
 cases e
 refine ⟨by omega,_,_,by omega,rfl,?_⟩
 by_cases hn:n=0
 ·left; subst hn; simp
 right
 rcases h with h | ⟨b,o,cs,rfl,hb,rows⟩
 ·rw [h] at h2; simp at h2; omega
 rw [if_neg (by omega)]
 refine ⟨b,o+lo * sz,cs,?_,hb,?_⟩
 ·simp only [Option.map_some,Addr.add]
  split
  ·rename_i h0; rw [h0]; rfl
  ·rfl
 intro i hi
 have hi':lo+i < l.length:=by omega
 have:=rows (lo+i) hi'
 rw [Nat.add_mul,←Nat.add_assoc] at this
 rw [List.getElem_take,List.getElem_drop]
 exact this
theorem cut_len {α:Type}{l:List α}{lo n:Nat}(h2:lo+n≤l.length):((l.drop lo).take n).length=n:=by simp; omega
def sayV (big:Bool)(c:Pc)(l:List By):Bool:=
 if c.k=0 then decide ((yQ l 0).st=0) else if c.k=11 then decide ((yQ l 0).st=2) && (c.v.has (yQ l 0).i && pointsB c.l (yQ l 0).b (yQ l 0).o)
 else decide ((yW big c.k l).2=0) && hasB c.k c.v c.l (yW big c.k l).1
def yZ (m:List Bl)(b:Int):Bl:=(m[b.toNat]?).getD ⟨0,none,0,[]⟩
def cutB (ptr:Int)(m:List Bl)(c:Pc):List By:=((yZ m c.b).l.drop c.p.toNat).take (wX ptr c.k).toNat
def saysB (p:Pg)(m:List Bl)(c:Pc):Bool:=!decide ((yZ m c.b).st=1) || sayV p.big c (cutB p.ptr m c)
def newB (p:Pg)(m:List Bl)(news:List Int)(i:Nat):Bool:=!decide (band .i64 (shrv .i64 ((news[i]?).getD 0) (yZ m (p.vars.length+1+i)).st) 1=0)
def inEnv (p:Pg)(e:Pe)(m:List Bl):Bool:=!e.no && (e.cells.all (saysB p m) && (List.range e.news.length).all (newB p m e.news))
theorem byAt_mem {l:List By}(h:0 < l.length):yQ l 0∈l:=by
 unfold yQ; rw [List.getElem?_eq_getElem h]; exact List.getElem_mem h
theorem byteB_o {x:By}(h:byteB x=true):x.o≤32:=by
 unfold byteB at h
 split at h
 ·have:=of_decide_eq_true h
  rw [this]; decide
 split at h
 ·simp only [Bool.and_eq_true,decide_eq_true_eq] at h; omega
 split at h
 ·simp only [Bool.and_eq_true,decide_eq_true_eq] at h; omega
 ·cases h
theorem read_o {big:Bool}{k:Int}{l:List By}(hb:∀x∈l,byteB x=true)(hl:0 < l.length):(yW big k l).1.o≤32:=by
 have:=byteB_o (hb _ (byAt_mem hl))
 unfold yW
 split
 ·decide
 split
 ·unfold jJ
  split
  ·exact this
  ·decide
 split
 ·decide
 ·show (0:Int)≤32; decide
end Go.Ax
