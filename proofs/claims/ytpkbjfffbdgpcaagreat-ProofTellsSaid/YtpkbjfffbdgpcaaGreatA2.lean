/- Parts A2: the machine's runs of small codes, contracts of functions, plain facts. -/
import Derived.KernelRfl
import Derived.Test.YtpkbjfffbdgpcaaGreatA1
open Nat renaming le_refl->aN,lt_of_le_of_lt->dI,testBit_two_pow->iT
open Int renaming eq_ofNat_of_zero_le->aG
open Bool renaming and_eq_true->aC,or_eq_true->dJ
open List renaming all_eq_true->bW,map_append->bP,mem_append->aW,mem_cons->aQ,not_mem_nil->aV
open Option renaming bind_some->bY,map_some->cZ
set_option linter.unusedSimpArgs false
namespace Go.Ax
open Go
set_option linter.unusedSimpArgs false
theorem qDJ {P:Program}{n m:Nat}{σ:Env}{a:Act}{ops:Array Oper}{o:Oper}{so:SO}(ha:Agree n σ a)(hs:zH P m ops o=some so) :
  (so.g=none->Region.wanted o (yielded ops a.tmps)=true)/\
  (∀t want v,so.g=some (t,want)->look σ t=some v->(Region.wanted o (yielded ops a.tmps)=true↔v=.bool want))/\so.d=o.dst/\(∀t,o.dst=some t->t < m)/\qWG P o=some so.k:=by
 unfold zH at hs;cases hk:qWG P o with
 | none=>simp [hk] at hs
 | some k=>
  simp only [hk] at hs;split at hs
  ·rename_i hd;have hd':∀t,o.dst=some t->t < m:=fun t ht=>by simpa [ht] using hd
   split at hs
   ·rename_i hg;simp at hs; subst hs;exact ⟨fun _=>by simp [Region.wanted,hg],fun t want v h=>by simp at h,rfl,hd',rfl⟩
   ·rename_i j want hg;cases hj:(ops[j]?).bind (·.dst) with
    | none=>simp [hj] at hs
    | some t=>
     simp [hj] at hs; subst hs;refine ⟨fun h=>by simp at h,fun t' want' v h hv=>?_,rfl,hd',rfl⟩;simp at h;obtain ⟨rfl,rfl⟩:=h;have:=ha.get t v hv;simp only [Region.wanted,hg,yielded,hj,bY,this];cases v <;> simp
  ·simp at hs
section
variable {P:Program} {n:Nat} {ops:Array Oper} {Q:Exit->Act->World->Prop}
theorem yDA {s:Bool}{K:Env->Fz->Hp->Prop}{F0:Fz}{M0:Hp}{w0:World}(hQ:∀a w,St n K F0 M0 w0 a w->Q .normal a w) :
  ∀{os:List Oper} {sos:List SO} {σ:Env} {F:Fz} {M:Hp} {a:Act} {w:World},os.mapM (zH P n ops)=some sos->Agree n σ a->Rel F M w->Fr F0 M0 w0 F M w->
   iD P s sos K σ F M->wpList P ops Q os a w:=by
 intro os
 induction os with
 | nil=>
  intro sos σ F M a w hs ha hr hf h;simp at hs; subst hs;exact hQ a w ⟨σ,F,M,ha,hr,hf,h⟩
 | cons o os ih=>
  intro sos σ F M a w hs ha hr hf h;simp only [List.mapM_cons,Option.bind_eq_bind,Option.pure_def] at hs;cases ho:zH P n ops o with
  | none=>simp [ho] at hs
  | some so=>
   cases hos:os.mapM (zH P n ops) with
   | none=>simp [ho,hos] at hs
   | some rest=>
    simp [ho,hos] at hs; subst hs;obtain ⟨h1,h2,h3,h4,h5⟩:=qDJ ha ho;simp only [iD,stepG] at h;have next:∀a' w',St n (iD P s rest K) F M w a' w'->wpList P ops Q os a' w':=fun a' w' ⟨σ',F',M',ha',hr',hf',h'⟩=>ih hos ha' hr' (hf.trans hf') h'
    have run:iR P s so.d so.k (iD P s rest K) σ F M->o.wp P a w (wpList P ops Q os) Q:=fun hk=>by
     rw [h3] at hk;exact Oper.wp_mono next (yC (s:=s) h4 ha hr h5 hk)
    unfold wpList;cases hg:so.g with
    | none=>rw [hg] at h; rw [if_pos (h1 hg)]; exact .inl (run h)
    | some g=>
     obtain ⟨t,want⟩:=g;rw [hg] at h;obtain ⟨v,hv,hy,hn⟩:=h;have hiff:=h2 t want v hg hv;by_cases hb:v=.bool want
     ·rw [if_pos (hiff.2 hb)]; exact .inl (run (hy hb))
     ·rw [if_neg (fun e=>hb (hiff.1 e))];have:=hn hb;rw [h3] at this;exact ih hos (ha.put h4) hr hf this
end
def PK.ops:PK->List Operand
 | .mv x | .un _ x | .cv _ x | .fa _ x | .fd _ _ _ x | .ld _ _ x | .ex x _ | .ln x | .ls x | .cc x | .nc x | .sn _ x=>[x]
 | .pick c a b=>[c,a,b]
 | .bin _ x y | .eqb _ x y | .eqs _ _ x y | .ia _ x y | .iaa _ _ x y | .ix _ _ _ x y | .si x y=>[x,y]
 | .bd _ ps=>ps.map (·.2.2)
 | .mf _ f c=>f++c
 | .sl _ x lo hi=>x :: (lo.toList++hi.toList)
 | .mx xs | .mn xs=>xs
def SK.ops:SK->List Operand
 | .p q=>q.ops
 | .al _ _=>[]
 | .bx _ x=>[x]
 | .bs _ _ _ ps=>ps.map (·.2.2)
 | .ap _ _ _ x y | .ms _ _ _ _ x y | .cp _ x y=>[x,y]
 | .st _ _ x y=>[x,y]
 | .ca f args=>f :: args
 | .cq f args=>f :: args
 | .cf _ f args=>f :: args
 | .gz _ _ _ _ x y=>[x,y]
 | .mm=>[]
 | .ml _ x i=>[x,i]
 | .mu x i y=>[x,i,y]
 | .cl _ _ x=>[x]
def SK.fls:SK->List Nat
 | .st fl _ _ _=>fl
 | .cf fl _ _=>fl
 | _=>[]
def SK.mono (s:Bool):SK->Bool
 | .st .. | .cp .. | .cl ..=>false
 | .ca ..=>s
 | .cq ..=>false
 | .cf ..=>false
 | _=>true
def PK.still:PK->Bool
 | .ld ..=>false
 | _=>true
theorem oJ {σ σ':Env}:∀{l:List Operand} {vs:List Value},(∀x∈l,∀v,ev σ x=some v->ev σ' x=some v)->evs σ l=some vs->evs σ' l=some vs:=by
 intro l
 induction l with
 | nil=>intro vs _ h; exact h
 | cons x l ih=>
  intro vs h hv;simp only [evs] at hv ⊢;cases hx:ev σ x with
  | none=>simp [hx] at hv
  | some u=>
   cases hl:evs σ l with
   | none=>simp [hx,hl] at hv
   | some us=>
    rw [h x (by simp) u hx,ih (fun y hy=>h y (by simp [hy])) hl]
    simpa [hx,hl] using hv
theorem qWV {σ σ':Env}:∀{l:List (Nat × Nat × Operand)} {vs:List (Nat × Nat × Value)},(∀x∈l.map (·.2.2),∀v,ev σ x=some v->ev σ' x=some v)->iW σ l=some vs->iW σ' l=some vs:=by
 intro l
 induction l with
 | nil=>intro vs _ h; exact h
 | cons x l ih=>
  intro vs h hv;obtain ⟨o,m,x⟩:=x;simp only [iW] at hv ⊢;cases hx:ev σ x with
  | none=>simp [hx] at hv
  | some u=>
   cases hl:iW σ l with
   | none=>simp [hx,hl] at hv
   | some us=>
    rw [h x (by simp) u hx,ih (fun y hy=>h y (by simp only [List.map_cons,aQ]; exact .inr hy)) hl]
    simpa [hx,hl] using hv
theorem val_congr {σ σ':Env}{F F':Fz}{M M':Hp}{q:PK}{v:Value}(h:∀x∈q.ops,∀v,ev σ x=some v->ev σ' x=some v)(hm:q.still=true\/Le F M F' M')
  (hv:q.val σ F M=some v):q.val σ' F' M'=some v:=by
 have one:∀{x:Operand},x∈q.ops->∀{u:Value},ev σ x=some u->ev σ' x=some u:=fun {x} hx {u} hu=>h x hx u hu
 cases q <;> simp only [PK.ops] at h one <;> simp only [PK.val] at hv ⊢
 case mv x=>exact one (by simp) hv
 case pick c a b=>
  split at hv
  ·rename_i t ht;rw [one (by simp) ht];cases t
   ·simp at hv ⊢; exact one (by simp) hv
   ·simp at hv ⊢; exact one (by simp) hv
  ·simp at hv
 case bin o x y=>
  cases hx:ev σ x with
  | none=>simp [hx] at hv
  | some u=>cases hy:ev σ y with
   | none=>simp [hx,hy] at hv
   | some z=>rw [one (by simp) hx,one (by simp) hy]; simpa [hx,hy] using hv
 case eqb neg x y=>
  split at hv
  ·rename_i hx hy; rw [one (by simp) hx,one (by simp) hy]; exact hv
  ·simp at hv
 case eqs e neg x y=>
  split at hv
  ·rename_i hx hy; rw [one (by simp) hx,one (by simp) hy]; exact hv
  ·simp at hv
 case un o x=>
  cases hx:ev σ x with
  | none=>simp [hx] at hv
  | some u=>rw [one (by simp) hx]; simpa [hx] using hv
 case cv k x=>split at hv <;> first | (rename_i hx; rw [one (by simp) hx]; exact hv) | simp at hv
 case fa off x=>split at hv <;> first | (rename_i hx; rw [one (by simp) hx]; exact hv) | simp at hv
 case ia es x i=>split at hv <;> first | (rename_i hx hi; rw [one (by simp) hx,one (by simp) hi]; exact hv) | simp at hv
 case iaa len es x i=>split at hv <;> first | (rename_i hx hi; rw [one (by simp) hx,one (by simp) hi]; exact hv) | simp at hv
 case sn neg x=>split at hv <;> first | (rename_i hx; rw [one (by simp) hx]; exact hv) | simp at hv
 case si x i=>split at hv <;> first | (rename_i hx hi; rw [one (by simp) hx,one (by simp) hi]; exact hv) | simp at hv
 case fd agg off n x=>split at hv <;> first | (rename_i hx; rw [one (by simp) hx]; exact hv) | simp at hv
 case ix agg len es x i=>split at hv <;> first | (rename_i hx hi; rw [one (by simp) hx,one (by simp) hi]; exact hv) | simp at hv
 case ld agg n x=>
  split at hv
  ·rename_i b o hx;rw [one (by simp) hx];rcases hm with hm | hm
   ·simp [PK.still] at hm
   ·cases hb:blk F M b with
    | none=>simp [hb] at hv
    | some c=>
     obtain ⟨c',hc',hp⟩:=xYK hm hb;simp only [hb,bY] at hv;simp only [hc',bY];exact yDK hv hp
  ·simp at hv
 case bd z ps=>
  cases hp:iW σ ps with
  | none=>simp [hp] at hv
  | some vs=>rw [qWV h hp]; simpa [hp] using hv
 case ex x i=>split at hv <;> first | (rename_i hx; rw [one (by simp) hx]; exact hv) | simp at hv
 case mf fn f c=>
  cases hf:evs σ f with
  | none=>simp [hf,fnV] at hv
  | some fv=>cases hc:evs σ c with
   | none=>simp [hf,hc,fnV] at hv
   | some cv=>
    rw [oJ (fun x hx=>h x (by simp [hx])) hf,oJ (fun x hx=>h x (by simp [hx])) hc]
    simpa [hf,hc] using hv
 case sl es x lo hi=>
  cases hx:ev σ x with
  | none=>simp [hx] at hv
  | some u=>
   rw [one (by simp) hx];rw [hx] at hv;cases lo with
   | none=>cases hi with
    | none=>exact hv
    | some k=>cases hk:ev σ k with
     | none=>cases u <;> simp [hk] at hv
     | some kv=>simp only [cZ,Option.map_none,one (x:=k) (by simp) hk]; simpa only [cZ,Option.map_none,hk] using hv
   | some l=>cases hl:ev σ l with
    | none=>cases u <;> cases hi <;> simp [hl] at hv
    | some lv=>cases hi with
     | none=>simp only [cZ,Option.map_none,one (x:=l) (by simp) hl]; simpa only [cZ,Option.map_none,hl] using hv
     | some k=>cases hk:ev σ k with
      | none=>cases u <;> cases lv <;> simp [hl,hk] at hv
      | some kv=>simp only [cZ,one (x:=l) (by simp) hl,one (x:=k) (by simp) hk]; simpa only [cZ,hl,hk] using hv
 case ls x=>split at hv <;> first | (rename_i hx; rw [one (by simp) hx]; exact hv) | simp at hv
 case cc x=>split at hv <;> first | (rename_i hx; rw [one (by simp) hx]; exact hv) | simp at hv
 case ln x=>split at hv <;> first | (rename_i hx; rw [one (by simp) hx]; exact hv) | simp at hv
 case mx xs=>
  cases hp:evs σ xs with
  | none=>simp [hp] at hv
  | some vs=>rw [oJ h hp]; simpa [hp] using hv
 case mn xs=>
  cases hp:evs σ xs with
  | none=>simp [hp] at hv
  | some vs=>rw [oJ h hp]; simpa [hp] using hv
 case nc x=>split at hv <;> first | (rename_i hx; rw [one (by simp) hx]; exact hv) | simp at hv
end Go.Ax
namespace Go.Ax
open Go
theorem Le.vDK {F:Fz}{M M':Hp}{e es n m:Nat}{v v':Value}{xs ys:List Value}(ho:Own M e es v n xs)(h:yGQ F M e es v n m (xs++ys) v' M'):Le F M F M':=by
 rcases h with ⟨_,_,_,rfl⟩ | ⟨r,cap,hr,_,_,_,rfl⟩
 ·exact Le.refl _ _
 ·rcases hr with ⟨c,rfl⟩ | ⟨h1,h2⟩
  ·obtain ⟨_,ho⟩:=ho;rcases ho with ⟨h0,_⟩ | ⟨g,c',hv,hm,_⟩
   ·simp at h0
   ·simp at hv;obtain ⟨rfl,rfl⟩:=hv;exact Le.grow hm (List.prefix_append _ _)
  ·exact Le.upd h1 h2
theorem qGB {P:Program}{s:Bool}{d:Option Nat}{k:SK}{K K':Env->Fz->Hp->Prop}{σ σ':Env}{F:Fz}{M:Hp}
  (ho:∀x∈k.ops,∀v,ev σ x=some v->ev σ' x=some v)(hfl:∀t∈k.fls,∀v,look σ t=some v->look σ' t=some v)
  (h:∀v F' M',(k.mono s=true->Le F M F' M')->K (put σ d v) F' M'->K' (put σ' d v) F' M')(hh:iR P s d k K σ F M):iR P s d k K' σ' F M:=by
 cases k <;> simp only [iR] at hh ⊢ <;> simp only [SK.ops] at ho
 case p q=>obtain ⟨v,h1,h2⟩:=hh; exact ⟨v,val_congr ho (.inr (Le.refl _ _)) h1,h _ _ _ (fun _=>Le.refl _ _) h2⟩
 case al e z=>exact fun r h1 h2=>h _ _ _ (fun _=>Le.upd h1 h2) (hh r h1 h2)
 case bx e x=>obtain ⟨v,h1,h2⟩:=hh; exact ⟨v,ho x (by simp) v h1,fun r a b=>h _ _ _ (fun _=>Le.upd a b) (h2 r a b)⟩
 case bs e len z parts=>obtain ⟨ps,h1,cs,h2,h3⟩:=hh; exact ⟨ps,qWV ho h1,cs,h2,fun r a b=>h _ _ _ (fun _=>Le.upd a b) (h3 r a b)⟩
 case ap e es bytes x y=>
  obtain ⟨v,h1,u,h2,n,xs,h3,m,ys,h4,h5,h6,h7,h8⟩:=hh;exact ⟨v,ho x (by simp) v h1,u,ho y (by simp) u h2,n,xs,h3,m,ys,h4,h5,h6,h7,fun v' M' a=>h _ _ _ (fun _=>Le.vDK h3 a) (h8 v' M' a)⟩
 case st fl n a x=>
  obtain ⟨b,o,h1,v,h2,e,h3,h4,h5,h6,h7,h8⟩:=hh;exact ⟨b,o,ho a (by simp) _ h1,v,ho x (by simp) v h2,e,h3,h4,h5,h6,fun t ht=>by
   obtain ⟨u',h9,h10⟩:=h7 t ht;exact ⟨u',hfl t ht _ h9,h10⟩,h _ _ _ (fun hm=>by simp [SK.mono] at hm) h8⟩
 case ms e es bytes z l c=>
  obtain ⟨k,n,h1,k',m,h2,h3,h4,h5,h6⟩:=hh;exact ⟨k,n,ho l (by simp) _ h1,k',m,ho c (by simp) _ h2,h3,h4,h5,fun r a b=>h _ _ _ (fun _=>Le.upd a b) (h6 r a b)⟩
 case cp es x y=>
  obtain ⟨b,o,n,c,h1,u,h2,m,ys,h3,h4,e,h5,h6,h7⟩:=hh;exact ⟨b,o,n,c,ho x (by simp) _ h1,u,ho y (by simp) _ h2,m,ys,h3,h4,e,h5,h6,h _ _ _ (fun hm=>by simp [SK.mono] at hm) h7⟩
 case ca f args=>
  obtain ⟨g,fi,c,h1,vs,h2,h3⟩:=hh;exact ⟨g,fi,c,ho f (by simp) _ h1,vs,oJ (fun x hx=>ho x (by simp [hx])) h2,h3.mono fun v F' M' ⟨a,b⟩=>⟨a,h _ _ _ (fun hm=>a (by simpa [SK.mono] using hm)) b⟩⟩
 case cq f args=>
  obtain ⟨g,fi,c,h1,vs,h2,h3⟩:=hh;exact ⟨g,fi,c,ho f (by simp) _ h1,vs,oJ (fun x hx=>ho x (by simp [hx])) h2,h3.mono fun v F' M' b=>h _ _ _ (fun hm=>by simp [SK.mono] at hm) b⟩
 case cf fl f args=>
  obtain ⟨g,fi,c,h1,vs,h2,h3⟩:=hh;exact ⟨g,fi,c,ho f (by simp) _ h1,vs,oJ (fun x hx=>ho x (by simp [hx])) h2,h3.mono fun v F' M' ⟨a,b⟩=>⟨fun t ht=>by
   obtain ⟨u',h9,h10⟩:=a t ht;exact ⟨u',hfl t ht _ h9,h10⟩,h _ _ _ (fun hm=>by simp [SK.mono] at hm) b⟩⟩
 case gz e es bytes z x n=>
  obtain ⟨k,m,h1,h2,h3,h4,h5,h6⟩:=hh;exact ⟨k,m,ho x (by simp) _ h1,ho n (by simp) _ h2,h3,h4,h5,fun r c a b p q=>h _ _ _ (fun _=>Le.upd a b) (h6 r c a b p q)⟩
 case mm=>exact fun r h1 h2 h3=>h _ _ _ (fun _=>Le.nM _ _ _ _) (hh r h1 h2 h3)
 case ml z x i=>obtain ⟨r,l,n,h1,h2,h3,h4⟩:=hh; exact ⟨r,l,n,ho x (by simp) _ h1,ho i (by simp) _ h2,h3,h _ _ _ (fun _=>Le.refl _ _) h4⟩
 case mu x i y=>obtain ⟨r,l,n,v,h1,h2,h3,h4,h5,h6⟩:=hh; exact ⟨r,l,n,v,ho x (by simp) _ h1,ho i (by simp) _ h2,ho y (by simp) _ h3,h4,h5,h _ _ _ (fun _=>Le.nM _ _ _ _) h6⟩
 case cl es z x=>
  obtain ⟨a,n,c,h1,h2,h3,h4⟩:=hh;refine ⟨a,n,c,ho x (by simp) _ h1,h2,h3,?_⟩;rcases h4 with ⟨h4,h5⟩ | ⟨h4,b,o,e,h5,h6,h7,h8⟩
  ·exact .inl ⟨h4,h _ _ _ (fun _=>Le.refl _ _) h5⟩
  ·exact .inr ⟨h4,b,o,e,h5,h6,h7,h _ _ _ (fun hm=>by simp [SK.mono] at hm) h8⟩
theorem pX {σ:Env}{d:Option Nat}{t:Nat}{v:Value}(h:d≠some t):look (put σ d v) t=look σ t:=by
 cases d with
 | none=>rfl
 | some k=>have:¬k=t:=fun e=>h (by rw [e]); simp [put,look,this]
theorem rW {σ:Env}{d:Option Nat}{x:Operand}{v:Value}(h:∀t,x=.tmp t->d≠some t):ev (put σ d v) x=ev σ x:=by
 cases x with
 | tmp t=>exact pX (h t rfl)
 | _=>rfl
theorem Env.le_refl (σ:Env):Env.le σ σ:=fun _ _ h=>h
theorem Env.le_trans {a b c:Env}(h:Env.le a b)(k:Env.le b c):Env.le a c:=fun t v ht=>k t v (h t v ht)
theorem Env.xYY {σ σ':Env}(h:Env.le σ σ')(d:Option Nat)(v:Value):Env.le (put σ d v) (put σ' d v):=by
 intro t u hu;cases d with
 | none=>exact h t u hu
 | some k=>simp only [put,look] at hu ⊢; split <;> simp_all [h t u]
theorem Env.put_comm {σ:Env}{d e:Option Nat}{u v:Value}(h:∀t,d=some t->e≠some t):Env.le (put (put σ d u) e v) (put (put σ e v) d u):=by
 intro t w hw;cases d with
 | none=>cases e <;> exact hw
 | some k=>cases e with
  | none=>exact hw
  | some j=>
   have hkj:¬k=j:=fun he=>h k rfl (by rw [he])
   simp only [put,look] at hw ⊢;by_cases h1:k=t
   ·subst h1;have:¬j=k:=fun e=>hkj e.symm
    simp [this] at hw ⊢; exact hw
   ·simpa [h1] using hw
theorem vDJ {σ σ':Env}(h:Env.le σ σ'){x:Operand}{v:Value}(hv:ev σ x=some v):ev σ' x=some v:=by
 cases x with
 | tmp t=>exact h t v hv
 | _=>exact hv
def up (K:Env->Fz->Hp->Prop):Env->Fz->Hp->Prop:=fun σ' F M=>∃σ,Env.le σ σ'/\K σ F M
theorem xGC {K:Env->Fz->Hp->Prop}{σ:Env}{F:Fz}{M:Hp}(h:up (up K) σ F M):up K σ F M:=by
 obtain ⟨a,h1,b,h2,h3⟩:=h; exact ⟨b,Env.le_trans h2 h1,h3⟩
def GdT (o:SO)(σ:Env):Prop:=match o.g with | none=>True | some (t,w)=>look σ t=some (.bool w)
def GdF (o:SO)(σ:Env):Prop:=match o.g with | none=>False | some (t,w)=>∃v,look σ t=some v/\v≠.bool w
theorem iU {P:Program}{s:Bool}{o:SO}{K:Env->Fz->Hp->Prop}{σ:Env}{F:Fz}{M:Hp} :
  stepG P s o K σ F M↔(GdT o σ/\iR P s o.d o.k K σ F M)\/(GdF o σ/\K (put σ o.d undef) F M):=by
 cases hg:o.g with
 | none=>simp [stepG,GdT,GdF,hg]
 | some p=>
  obtain ⟨t,w⟩:=p;simp only [stepG,GdT,GdF,hg];constructor
  ·rintro ⟨v,h1,h2,h3⟩;by_cases hb:v=.bool w
   ·subst hb; exact .inl ⟨h1,h2 rfl⟩
   ·exact .inr ⟨⟨v,h1,hb⟩,h3 hb⟩
  ·rintro (⟨h1,h2⟩ | ⟨⟨v,h1,hb⟩,h2⟩)
   ·exact ⟨_,h1,fun _=>h2,fun h=>absurd rfl h⟩
   ·exact ⟨v,h1,fun h=>absurd h hb,fun _=>h2⟩
theorem wHV {P:Program}{s:Bool}{o:SO}{K:Env->Fz->Hp->Prop}{σ:Env}{F:Fz}{M:Hp}{e:Nat}{z:List Value}(hg:o.g=none)(hk:o.k=.al e z) :
  stepG P s o K σ F M↔∀r,F r=none->M r=none->K (put σ o.d (.pointer (some ⟨r,0,none⟩))) F (M.upd r ⟨z,e,z.length⟩):=by
 simp only [stepG,hg,hk,iR]
def SO.looks (o:SO):List Nat:=(o.k.ops.filterMap fun | .tmp t=>some t | _=>none)++(match o.g with | some (t,_)=>[t] | none=>[])
theorem vN {o:SO}{d:Option Nat}(h:∀t,d=some t->t ∉ o.looks):∀x∈o.k.ops,∀t,x=.tmp t->d≠some t:=by
 rintro x hx t rfl e;exact h t e (by simp only [SO.looks,aW,List.mem_filterMap]; exact .inl ⟨_,hx,rfl⟩)
theorem qL {o:SO}{σ:Env}{d:Option Nat}{v:Value}(h:∀t,d=some t->t ∉ o.looks):GdT o (put σ d v)↔GdT o σ:=by
 cases hg:o.g with
 | none=>simp [GdT,hg]
 | some p=>simp only [GdT,hg]; rw [pX]; intro e; exact h p.1 e (by simp [SO.looks,hg])
theorem qHA {o:SO}{σ:Env}{d:Option Nat}{v:Value}(h:∀t,d=some t->t ∉ o.looks):GdF o (put σ d v)↔GdF o σ:=by
 cases hg:o.g with
 | none=>simp [GdF,hg]
 | some p=>simp only [GdF,hg]; rw [pX]; intro e; exact h p.1 e (by simp [SO.looks,hg])
theorem xYA {o:SO}{σ σ':Env}(h:Env.le σ σ')(hg:GdT o σ):GdT o σ':=by
 cases hw:o.g with
 | none=>simp [GdT,hw]
 | some p=>simp only [GdT,hw] at hg ⊢; exact h _ _ hg
theorem xYB {o:SO}{σ σ':Env}(h:Env.le σ σ')(hg:GdF o σ):GdF o σ':=by
 cases hw:o.g with
 | none=>simp [GdF,hw] at hg
 | some p=>simp only [GdF,hw] at hg ⊢; obtain ⟨v,h1,h2⟩:=hg; exact ⟨v,h _ _ h1,h2⟩
theorem yDC {P:Program}{s:Bool}{o:SO}{K K':Env->Fz->Hp->Prop}{σ σ':Env}{F:Fz}{M:Hp}(hl:Env.le σ σ')
  (h:∀v F' M',K (put σ o.d v) F' M'->K' (put σ' o.d v) F' M')(hh:stepG P s o K σ F M):stepG P s o K' σ' F M:=by
 rw [iU] at hh ⊢;rcases hh with ⟨h1,h2⟩ | ⟨h1,h2⟩
 ·exact .inl ⟨xYA hl h1,qGB (fun x _ v hv=>vDJ hl hv) (fun t _ v hv=>hl t v hv) (fun v F' M' _ hk=>h v F' M' hk) h2⟩
 ·exact .inr ⟨xYB hl h1,h _ _ _ h2⟩
theorem qDG {P:Program}{s:Bool}:∀{l:List SO} {K:Env->Fz->Hp->Prop} {σ σ':Env} {F:Fz} {M:Hp},Env.le σ σ'->iD P s l K σ F M->iD P s l (up K) σ' F M:=by
 intro l
 induction l with
 | nil=>intro K σ σ' F M hl h; exact ⟨σ,hl,h⟩
 | cons o l ih=>intro K σ σ' F M hl h; exact yDC hl (fun v F' M' hk=>ih (Env.xYY hl o.d v) hk) h
theorem xWZ {P:Program}{s:Bool}{l:List SO}{K:Env->Fz->Hp->Prop}{σ:Env}{F:Fz}{M:Hp}(h:up (iD P s l K) σ F M):iD P s l (up K) σ F M:=by
 obtain ⟨σ0,hl,h⟩:=h; exact qDG hl h
theorem uZ {P:Program}{s:Bool}:∀{l:List SO} {K K':Env->Fz->Hp->Prop} {σ:Env} {F:Fz} {M:Hp},(∀σ F M,K σ F M->K' σ F M)->iD P s l K σ F M->iD P s l K' σ F M:=by
 intro l
 induction l with
 | nil=>intro K K' σ F M h hh; exact h _ _ _ hh
 | cons o l ih=>intro K K' σ F M h hh; exact vM (fun σ F M hk=>ih h hk) hh
def apartB (x y:SO):Bool:=
 (match x.d with | some d=>!(y.looks.contains d) && y.d != some d | none=>true) && (match y.d with | some d=>!(x.looks.contains d) | none=>true)
theorem wHH {x y:SO}(h:apartB x y=true):(∀t,x.d=some t->t ∉ y.looks)/\(∀t,y.d=some t->t ∉ x.looks)/\(∀t,x.d=some t->y.d≠some t):=by
 simp only [apartB,aC] at h;obtain ⟨h1,h2⟩:=h;refine ⟨fun t ht=>?_,fun t ht=>?_,fun t ht=>?_⟩
 ·rw [ht] at h1; simp at h1; exact h1.1
 ·rw [ht] at h2; simpa using h2
 ·rw [ht] at h1; simp at h1; exact h1.2
def qQH:SK->Env->Option (nH × (Nat->Value))
 | .al e z,_=>some (⟨z,e,z.length⟩,fun r=>.pointer (some ⟨r,0,none⟩))
 | .bx e x,σ=>(ev σ x).map fun v=>(⟨v.cells.toList,e,v.cells.toList.length⟩,fun r=>.pointer (some ⟨r,0,none⟩))
 | .bs e len z parts,σ=>(iW σ parts).bind fun ps=>(zG z ps).map fun cs=>(⟨cs,e,cs.length⟩,fun r=>.slice (some ⟨r,0,none⟩) len len)
 | .ms e es bytes z l c,σ=>match ev σ l,ev σ c with
  | some (.int _ n),some (.int _ m)=>if 0<=n/\n<=m/\m.toNat<=maxLen/\m.toNat * bytes<=140737488355328 then
    some (⟨(List.replicate m.toNat z).flatten,e,m.toNat * es⟩,fun r=>.slice (some ⟨r,0,none⟩) n.toNat m.toNat) else none
  | _,_=>none
 | _,_=>none
def SK.sO:SK->Bool
 | .al .. | .bx .. | .bs .. | .ms ..=>true
 | _=>false
theorem sZ {P:Program}{s:Bool}{d:Option Nat}{k:SK}{K:Env->Fz->Hp->Prop}{σ:Env}{F:Fz}{M:Hp}(hk:k.sO=true) :
  iR P s d k K σ F M↔∃p,qQH k σ=some p/\∀r,F r=none->M r=none->K (put σ d (p.2 r)) F (M.upd r p.1):=by
 cases k <;> simp only [SK.sO,Bool.false_eq_true] at hk <;> simp only [iR,qQH]
 case al e z=>simp
 case bx e x=>
  constructor
  ·rintro ⟨v,hv,h⟩; exact ⟨_,by rw [hv]; rfl,h⟩
  ·rintro ⟨p,hp,h⟩;cases hv:ev σ x with
   | none=>simp [hv] at hp
   | some v=>simp [hv] at hp; subst hp; exact ⟨v,rfl,h⟩
 case bs e len z parts=>
  constructor
  ·rintro ⟨ps,hp,cs,hc,h⟩; exact ⟨_,by rw [hp]; simp only [bY,hc]; rfl,h⟩
  ·rintro ⟨p,hp,h⟩;cases hv:iW σ parts with
   | none=>simp [hv] at hp
   | some ps=>cases hc:zG z ps with
    | none=>simp [hv,hc] at hp
    | some cs=>simp [hv,hc] at hp; subst hp; exact ⟨ps,rfl,cs,hc,h⟩
 case ms e es bytes z l c=>
  constructor
  ·rintro ⟨k,n,h1,k',m,h2,h3,h4,h5,h⟩;refine ⟨(⟨(List.replicate m z).flatten,e,m * es⟩,fun r=>.slice (some ⟨r,0,none⟩) n m),?_,h⟩;rw [h1,h2];simp only [];rw [if_pos ⟨by omega,by omega,by simpa using h4,by simpa using h5⟩];simp
  ·rintro ⟨p,hp,h⟩;split at hp
   ·rename_i k n k' m h1 h2;split at hp
    ·rename_i hc;simp at hp; subst hp;obtain ⟨n,rfl⟩:=aG hc.1;obtain ⟨m,rfl⟩:=aG (Int.le_trans hc.1 hc.2.1);refine ⟨k,n,h1,k',m,h2,by omega,by simpa using hc.2.2.1,by simpa using hc.2.2.2,fun r a b=>?_⟩;have:=h r a b
     simpa using this
    ·simp at hp
   ·simp at hp
theorem wJJ {σ σ':Env}:∀{l:List (Nat × Nat × Operand)},(∀x∈l.map (·.2.2),ev σ' x=ev σ x)->iW σ' l=iW σ l:=by
 intro l
 induction l with
 | nil=>intro _; rfl
 | cons x l ih=>
  intro h;obtain ⟨o,m,x⟩:=x;simp only [iW];rw [h x (by simp),ih (fun y hy=>h y (by simp only [List.map_cons,aQ]; exact .inr hy))]
theorem wC {o:SO}{σ:Env}{d:Option Nat}{v:Value}(h:∀t,d=some t->t ∉ o.looks):qQH o.k (put σ d v)=qQH o.k σ:=by
 have he:∀x∈o.k.ops,ev (put σ d v) x=ev σ x:=fun x hx=>rW (vN h x hx)
 cases hk:o.k <;> rw [hk] at he <;> simp only [qQH]
 case bx e x=>rw [he x (by simp [SK.ops])]
 case bs e len z parts=>rw [wJJ (fun x hx=>he x hx)]
 case ms e es bytes z l c=>rw [he l (by simp [SK.ops]),he c (by simp [SK.ops])]
theorem qDV {P:Program}{s:Bool}{d:Option Nat}{k:SK}{K K':Env->Fz->Hp->Prop}{σ:Env}{F:Fz}{M:Hp}(hI:Inf F M)
  (h:∀σ F M,Inf F M->K σ F M->K' σ F M)(hh:iR P s d k K σ F M):iR P s d k K' σ F M:=by
 cases k <;> simp only [iR] at hh ⊢
 case p q=>obtain ⟨v,h1,h2⟩:=hh; exact ⟨v,h1,h _ _ _ hI h2⟩
 case al e z=>exact fun r h1 h2=>h _ _ _ (hI.upd _ _) (hh r h1 h2)
 case bx e x=>obtain ⟨v,h1,h2⟩:=hh; exact ⟨v,h1,fun r a b=>h _ _ _ (hI.upd _ _) (h2 r a b)⟩
 case bs e len z parts=>obtain ⟨ps,h1,cs,h2,h3⟩:=hh; exact ⟨ps,h1,cs,h2,fun r a b=>h _ _ _ (hI.upd _ _) (h3 r a b)⟩
 case ap e es bytes x y=>
  obtain ⟨v,h1,u,h2,n,xs,h3,m,ys,h4,h5,h6,h7,h8⟩:=hh;refine ⟨v,h1,u,h2,n,xs,h3,m,ys,h4,h5,h6,h7,fun v' M' a=>h _ _ _ ?_ (h8 v' M' a)⟩;rcases a with ⟨_,_,_,rfl⟩ | ⟨r,cap,_,_,_,_,rfl⟩
  ·exact hI
  ·exact hI.upd _ _
 case st fl n a x=>obtain ⟨b,o,h1,v,h2,e,h3,h4,h5,h6,h7,h8⟩:=hh; exact ⟨b,o,h1,v,h2,e,h3,h4,h5,h6,h7,h _ _ _ (hI.upd _ _) h8⟩
 case ms e es bytes z l c=>obtain ⟨k,n,h1,k',m,h2,h3,h4,h5,h6⟩:=hh; exact ⟨k,n,h1,k',m,h2,h3,h4,h5,fun r a b=>h _ _ _ (hI.upd _ _) (h6 r a b)⟩
 case cp es x y=>obtain ⟨b,o,n,c,h1,u,h2,m,ys,h3,h4,e,h5,h6,h7⟩:=hh; exact ⟨b,o,n,c,h1,u,h2,m,ys,h3,h4,e,h5,h6,h _ _ _ (hI.upd _ _) h7⟩
 case ca f args=>obtain ⟨g,fi,c,h1,vs,h2,h3⟩:=hh; exact ⟨g,fi,c,h1,vs,h2,h3.qDW fun v F' M' ⟨w,hw⟩ ⟨a,b⟩=>⟨a,h _ _ _ hw.inf b⟩⟩
 case cq f args=>obtain ⟨g,fi,c,h1,vs,h2,h3⟩:=hh; exact ⟨g,fi,c,h1,vs,h2,h3.qDW fun v F' M' ⟨w,hw⟩ b=>h _ _ _ hw.inf b⟩
 case cf fl f args=>obtain ⟨g,fi,c,h1,vs,h2,h3⟩:=hh; exact ⟨g,fi,c,h1,vs,h2,h3.qDW fun v F' M' ⟨w,hw⟩ ⟨a,b⟩=>⟨a,h _ _ _ hw.inf b⟩⟩
 case gz e es bytes z x n=>obtain ⟨k,m,h1,h2,h3,h4,h5,h6⟩:=hh; exact ⟨k,m,h1,h2,h3,h4,h5,fun r c a b p q=>h _ _ _ (hI.upd _ _) (h6 r c a b p q)⟩
 case mm=>exact fun r h1 h2 h3=>h _ _ _ hI (hh r h1 h2 h3)
 case ml z x i=>obtain ⟨r,l,n,h1,h2,h3,h4⟩:=hh; exact ⟨r,l,n,h1,h2,h3,h _ _ _ hI h4⟩
 case mu x i y=>obtain ⟨r,l,n,v,h1,h2,h3,h4,h5,h6⟩:=hh; exact ⟨r,l,n,v,h1,h2,h3,h4,h5,h _ _ _ hI h6⟩
 case cl es z x=>
  obtain ⟨a,n,c,h1,h2,h3,h4⟩:=hh;refine ⟨a,n,c,h1,h2,h3,?_⟩;rcases h4 with ⟨h4,h5⟩ | ⟨h4,b,o,e,h5,h6,h7,h8⟩
  ·exact .inl ⟨h4,h _ _ _ hI h5⟩
  ·exact .inr ⟨h4,b,o,e,h5,h6,h7,h _ _ _ (hI.upd _ _) h8⟩
theorem qDH {P:Program}{s:Bool}{o:SO}{K K':Env->Fz->Hp->Prop}{σ:Env}{F:Fz}{M:Hp}(hI:Inf F M)
  (h:∀σ F M,Inf F M->K σ F M->K' σ F M)(hh:stepG P s o K σ F M):stepG P s o K' σ F M:=by
 rw [iU] at hh ⊢;rcases hh with ⟨h1,h2⟩ | ⟨h1,h2⟩
 ·exact .inl ⟨h1,qDV hI h h2⟩
 ·exact .inr ⟨h1,h _ _ _ hI h2⟩
def SK.calm:SK->Bool
 | .p (.ld ..)=>true
 | .p q=>q.still
 | k=>k.sO
def nR (s:Bool)(x y:SO):Bool:=apartB x y && match x.k with
 | .p q=>q.still || y.k.mono s || (match q,y.k with | .ld _ _ (.tmp t),.st fl _ _ _=>fl.contains t && x.d != some t | .ld _ _ (.tmp t),.cf fl _ _=>fl.contains t && x.d != some t | _,_=>false)
 | .al .. | .bx .. | .bs .. | .ms ..=>y.g.isNone && y.k.calm
 | .ca ..=>s && y.g.isNone && (match y.k with | .al ..=>true | _=>false)
 | _=>false
def SO.drop (y:SO)(d:Option Nat):SO:={ y with k:=y.k.kH (y.k.fls.filter fun t=>d != some t) }
theorem SK.qDD {k:SK}{fl:List Nat}(h:k.sO=true):k.kH fl=k:=by cases k <;> first | rfl | (simp [SK.sO] at h)
theorem SK.qDY {k:SK}{fl:List Nat}:(k.kH fl).ops=k.ops:=by cases k <;> first | rfl | (cases fl with | nil=>rfl | cons x l=>cases x <;> rfl)
theorem SK.wE {k:SK}{fl:List Nat}:(k.kH fl).calm=k.calm:=by cases k <;> first | rfl | (cases fl with | nil=>rfl | cons x l=>cases x <;> rfl)
theorem wXF {s:Bool}{y:SO}{d:Option Nat}:(y.drop d).k.mono s=y.k.mono s:=by cases hk:y.k <;> simp only [SO.drop,hk] <;> rfl
theorem SO.yXK {y:SO}{d:Option Nat}:(y.drop d).looks=y.looks:=by simp [SO.looks,SO.drop,SK.qDY]
theorem yXJ {P:Program}{s:Bool}{e:Option Nat}{d:Option Nat}{k:SK}{K:Env->Fz->Hp->Prop}{σ:Env}{F:Fz}{M:Hp}(h:iR P s e k K σ F M) :
  iR P s e (k.kH (k.fls.filter fun t=>d != some t)) K σ F M:=by
 cases k <;> try exact h
 case st=>obtain ⟨b,o,h1,v,h2,e,h3,h4,h5,h6,h7,h8⟩:=h; exact ⟨b,o,h1,v,h2,e,h3,h4,h5,h6,fun t ht=>h7 t (List.mem_filter.1 ht).1,h8⟩
 case cf=>obtain ⟨g,fi,c,h1,vs,h2,h3⟩:=h; exact ⟨g,fi,c,h1,vs,h2,h3.mono fun v F' M' ⟨a,b⟩=>⟨fun t ht=>a t (List.mem_filter.1 ht).1,b⟩⟩
def sQ (y z:SO):Bool:=match y.k with
 | .p (.ld _ _ (.tmp t))=>z.d != some t
 | _=>true
theorem wJG {s:Bool}{y x:SO}{z:SO}(h:nR s y x=true)(hz:sQ y z=true):nR s y (x.drop z.d)=true:=by
 have e1:apartB y (x.drop z.d)=apartB y x:=by simp only [apartB,SO.yXK]; rfl
 simp only [nR,aC] at h ⊢;rw [e1];refine ⟨h.1,?_⟩;have h:=h.2;cases hyk:y.k <;> rw [hyk] at h <;> (try simp only at h ⊢)
 case p q=>
  simp only [dJ] at h ⊢;have e2:(x.drop z.d).k.mono s=x.k.mono s:=wXF;rw [e2];rcases h with h | h
  ·exact .inl h
  refine .inr ?_;cases q <;> first | (simp at h; done) | skip;rename_i agg n ad;cases ad <;> first | (simp at h; done) | skip;rename_i t;simp only [sQ,hyk,bne_iff_ne,ne_eq] at hz;cases hxk:x.k <;> rw [hxk] at h <;> first | (simp at h; done) | skip
  case st fl m b c=>
   have e3:(x.drop z.d).k=.st (fl.filter fun t=>z.d != some t) m b c:=by simp [SO.drop,hxk,SK.kH,SK.fls]
   rw [e3];have h':(fl.contains t && y.d != some t)=true:=h;show ((fl.filter fun t=>z.d != some t).contains t && y.d != some t)=true;rw [aC,List.contains_iff_mem] at h' ⊢;exact ⟨List.mem_filter.2 ⟨h'.1,by simpa using hz⟩,h'.2⟩
  case cf fl m b=>
   have e3:(x.drop z.d).k=.cf (fl.filter fun t=>z.d != some t) m b:=by simp [SO.drop,hxk,SK.kH,SK.fls]
   rw [e3];have h':(fl.contains t && y.d != some t)=true:=h;show ((fl.filter fun t=>z.d != some t).contains t && y.d != some t)=true;rw [aC,List.contains_iff_mem] at h' ⊢;exact ⟨List.mem_filter.2 ⟨h'.1,by simpa using hz⟩,h'.2⟩
 case al=>simp only [SO.drop,SK.wE]; exact h
 case bx=>simp only [SO.drop,SK.wE]; exact h
 case bs=>simp only [SO.drop,SK.wE]; exact h
 case ms=>simp only [SO.drop,SK.wE]; exact h
 case ca=>
  simp only [aC] at h;obtain ⟨h1,h2⟩:=h;cases hxk:x.k <;> rw [hxk] at h2 <;> first | (simp at h2; done) | skip;simp only [SO.drop,hxk,SK.kH,aC];exact ⟨h1,trivial⟩
 all_goals first | (simp at h; done) | contradiction
theorem swap {P:Program}{s:Bool}{x y:SO}{K:Env->Fz->Hp->Prop}{σ:Env}{F:Fz}{M:Hp}(hI:Inf F M)(hs:nR s x y=true)(h:stepG P s x (stepG P s y K) σ F M) :
  stepG P s (y.drop x.d) (stepG P s x (up K)) σ F M:=by
 simp only [nR,aC] at hs
 obtain ⟨hap,hk⟩:=hs
 obtain ⟨a1,a2,a3⟩:=wHH hap
 have hop:∀u:Value,∀z∈y.k.ops,∀v,ev (put σ x.d u) z=some v->ev σ z=some v:=fun u z hz v hv=>by rwa [rW (vN a1 z hz)] at hv
  -- x yields u, and leaves memory: then y may go first
 have easy:∀u:Value,(∀v F' M',(y.k.mono s=true->Le F M F' M')->up K (put (put σ y.d v) x.d u) F' M'->stepG P s x (up K) (put σ y.d v) F' M')->
   stepG P s y K (put σ x.d u) F M->stepG P s (y.drop x.d) (stepG P s x (up K)) σ F M:=by
  intro u hx hy
  rw [iU] at hy ⊢
  rcases hy with ⟨h1,h2⟩ | ⟨h1,h2⟩
  ·refine .inl ⟨(qL a1).1 h1,qGB (by rw [show (y.drop x.d).k.ops=y.k.ops from SK.qDY]; exact hop u) (fun t ht v hv=>?_)
    (fun v F' M' hl hk=>hx v F' M' (by rw [show (y.drop x.d).k.mono s=y.k.mono s from wXF] at hl; exact hl) ⟨_,Env.put_comm a3,hk⟩) (yXJ h2)⟩
   have hne:x.d≠some t:=by
    cases hyk:y.k <;> simp only [SO.drop,hyk,SK.kH,SK.fls,List.filter_nil,aV] at ht
    all_goals simpa using (List.mem_filter.1 ht).2
   rwa [pX hne] at hv
  ·exact .inr ⟨(qHA a1).1 h1,hx _ _ _ (fun _=>Le.refl _ _) ⟨_,Env.put_comm a3,h2⟩⟩
 rw [iU] at h
 rcases h with ⟨hg,h⟩ | ⟨hg,h⟩
 case inr=>exact easy undef (fun v F' M' _ hk=>iU.2 (.inr ⟨(qHA a2).2 hg,hk⟩)) h
 have jZH:∀v:Value,∀z∈x.k.ops,∀u,ev σ z=some u->ev (put σ y.d v) z=some u:=fun v z hz u hu=>by rwa [rW (vN a2 z hz)]
 have alloc:x.k.sO=true->y.g.isNone=true->y.k.sO=true->stepG P s (y.drop x.d) (stepG P s x (up K)) σ F M:=by
  intro hxa hyg hya
  have hyd:y.drop x.d=y:=by simp only [SO.drop]; rw [SK.qDD hya]
  rw [hyd]
  have yDE:y.g=none:=by simpa using hyg
  have qZK:∀(K:Env->Fz->Hp->Prop) (σ:Env) (F:Fz) (M:Hp),stepG P s y K σ F M↔∃p,qQH y.k σ=some p/\∀r,F r=none->M r=none->K (put σ y.d (p.2 r)) F (M.upd r p.1):=by
   intro K σ F M
   simp only [stepG,yDE]
   exact sZ hya
  obtain ⟨px,hpx,h⟩:=(sZ hxa).1 h
  obtain ⟨q0,_,q1,q2⟩:=hI 0
  obtain ⟨py,hpy,_⟩:=(qZK _ _ _ _).1 (h q0 q1 q2)
  rw [wC a1] at hpy
  refine (qZK _ _ _ _).2 ⟨py,hpy,fun r r1 r2=>?_⟩
  refine iU.2 (.inl ⟨(qL a2).2 hg,(sZ hxa).2 ⟨px,by rw [wC a2]; exact hpx,fun q q1 q2=>?_⟩⟩)
  have hne:q≠r:=by rintro rfl; simp at q2
  rw [Hp.upd_ne hne] at q2
  obtain ⟨py',vDV,hh⟩:=(qZK _ _ _ _).1 (h q q1 q2)
  rw [wC a1,hpy] at vDV
  cases vDV
  have:=hh r r1 (by rw [Hp.upd_ne (Ne.symm hne)]; exact r2)
  rw [Hp.qDQ hne] at this
  exact ⟨_,Env.put_comm a3,this⟩
 have alloc2:x.k.sO=true->y.g.isNone=true->∀q,y.k=.p q->(q.still=true\/∃agg n ad,q=.ld agg n ad)->stepG P s (y.drop x.d) (stepG P s x (up K)) σ F M:=by
  intro hxa hyg q hyq hq
  have hyd:y.drop x.d=y:=by simp only [SO.drop,hyq,SK.kH]; rw [<-hyq]
  rw [hyd]
  have yDE:y.g=none:=by simpa using hyg
  have qZK:∀(K:Env->Fz->Hp->Prop) (σ:Env) (F:Fz) (M:Hp),stepG P s y K σ F M↔∃v,q.val σ F M=some v/\K (put σ y.d v) F M:=by
   intro K σ F M
   simp only [stepG,yDE,hyq,iR]
  obtain ⟨px,hpx,h⟩:=(sZ hxa).1 h
  rw [hyq] at hop
    -- its value, with the new block or without it
  have key:∃v,q.val σ F M=some v/\∀r,F r=none->M r=none->q.val (put σ x.d (px.2 r)) F (M.upd r px.1)=some v:=by
   obtain ⟨q0,_,q1,q2⟩:=hI 0
   obtain ⟨v0,hv0,_⟩:=(qZK _ _ _ _).1 (h q0 q1 q2)
   rcases hq with hq | ⟨agg,n,ad,rfl⟩
   ·have e0:q.val σ F M=some v0:=val_congr (fun z hz w hw=>hop (px.2 q0) z (by simpa [SK.ops] using hz) w hw) (.inl hq) hv0
    refine ⟨v0,e0,fun r r1 r2=>?_⟩
    obtain ⟨v,hv,_⟩:=(qZK _ _ _ _).1 (h r r1 r2)
    have e1:q.val σ F M=some v:=val_congr (fun z hz w hw=>hop (px.2 r) z (by simpa [SK.ops] using hz) w hw) (.inl hq) hv
    rw [e0] at e1; cases e1; exact hv
   ·have addr:∀r,F r=none->M r=none->∃b o v,ev σ ad=some (.pointer (some ⟨b,o,none⟩))/\ev (put σ x.d (px.2 r)) ad=some (.pointer (some ⟨b,o,none⟩))/\(PK.ld agg n ad).val (put σ x.d (px.2 r)) F (M.upd r px.1)=some v/\(blk F (M.upd r px.1) b).bind (fun c=>rd agg n c o)=some v:=by
     intro r r1 r2
     obtain ⟨v,hv,_⟩:=(qZK _ _ _ _).1 (h r r1 r2)
     have hv':=hv
     simp only [PK.val] at hv'
     split at hv'
     ·rename_i b o hb
      exact ⟨b,o,v,hop (px.2 r) ad (by simp [SK.ops,PK.ops]) _ hb,hb,hv,hv'⟩
     ·simp at hv'
    obtain ⟨b,o,v0,a0,_,_,_⟩:=addr q0 q1 q2
    obtain ⟨q3,q4,q5,q6⟩:=hI (b+1)
    obtain ⟨b',o',v,a1,_,_,a2⟩:=addr q3 q5 q6
    rw [a0] at a1; cases a1
    have hb3:¬b=q3:=by omega
    have e3:blk F (M.upd q3 px.1) b=blk F M b:=by simp [blk,Hp.upd_ne hb3]
    rw [e3] at a2
    refine ⟨v,by simp only [PK.val,a0]; exact a2,fun r r1 r2=>?_⟩
    have hbr:¬b=r:=by
     rintro rfl
     simp [blk,r1,r2] at a2
    obtain ⟨b',o',v',c1,_,c2,c3⟩:=addr r r1 r2
    rw [a0] at c1; cases c1
    have e4:blk F (M.upd r px.1) b=blk F M b:=by simp [blk,Hp.upd_ne hbr]
    rw [e4,a2] at c3
    cases c3; exact c2
  obtain ⟨v,hv,hall⟩:=key
  refine (qZK _ _ _ _).2 ⟨v,hv,?_⟩
  refine iU.2 (.inl ⟨(qL a2).2 hg,(sZ hxa).2 ⟨px,by rw [wC a2]; exact hpx,fun r r1 r2=>?_⟩⟩)
  obtain ⟨v',hv',hh⟩:=(qZK _ _ _ _).1 (h r r1 r2)
  rw [hall r r1 r2] at hv'
  cases hv'
  exact ⟨_,Env.put_comm a3,hh⟩
 have allocs:x.k.sO=true->y.g.isNone=true->y.k.calm=true->stepG P s (y.drop x.d) (stepG P s x (up K)) σ F M:=by
  intro hxa hyg hc
  cases hyk:y.k with
  | p q=>
   refine alloc2 hxa hyg q hyk ?_
   rw [hyk] at hc
   cases q <;> first | exact .inr ⟨_,_,_,rfl⟩ | exact .inl hc
  | al=>exact alloc hxa hyg (by rw [hyk]; rfl)
  | bx=>exact alloc hxa hyg (by rw [hyk]; rfl)
  | bs=>exact alloc hxa hyg (by rw [hyk]; rfl)
  | ms=>exact alloc hxa hyg (by rw [hyk]; rfl)
  | _=>rw [hyk] at hc; simp [SK.calm,SK.sO] at hc
 cases hxk:x.k with
 | p q=>
  rw [hxk] at h hk jZH
  obtain ⟨u,hu,h⟩:=h
  simp only [dJ] at hk
  rcases hk with hk | hk
  ·refine easy u (fun v F' M' hl hK=>iU.2 (.inl ⟨(qL a2).2 hg,?_⟩)) h
   rw [hxk]
   exact ⟨u,val_congr (jZH v) (hk.imp id hl) hu,hK⟩
  ·-- a load,and a store elsewhere
   cases q <;> first | (simp at hk; done) | skip
   rename_i agg n ad
   cases ad <;> first | (simp at hk; done) | skip
   rename_i t
   have vDH:∀(σ':Env) (F':Fz) (M':Hp),ev σ' (.tmp t)=ev σ (.tmp t)->(∀b' o',look σ t=some (.pointer (some ⟨b',o',none⟩))->blk F' M' b'=blk F M b')->(PK.ld agg n (.tmp t)).val σ' F' M'=some u:=by
    intro σ' F' M' h1 h2
    simp only [PK.val] at hu ⊢
    rw [h1]
    simp only [ev] at hu ⊢
    split at hu
    ·rename_i b' o' hb
     simp only [h2 b' o' hb]
     exact hu
    ·simp at hu
   have hld:∀(σ':Env) (M':Hp),ev σ' (.tmp t)=ev σ (.tmp t)->(∀b' o',look σ t=some (.pointer (some ⟨b',o',none⟩))->M' b'=M b')->(PK.ld agg n (.tmp t)).val σ' F M'=some u:=
    fun σ' M' h1 h2=>vDH σ' F M' h1 (fun b' o' hb=>by simp only [blk,h2 b' o' hb])
   cases hyk:y.k <;> rw [hyk] at hk <;> first | (simp at hk; done) | skip
   case cf fl f args=>
    simp only [aC,List.contains_iff_mem,bne_iff_ne,ne_eq] at hk
    obtain ⟨hmem,hxd⟩:=hk
    rw [iU] at h ⊢
    rcases h with ⟨h1,h2⟩ | ⟨h1,h2⟩
    ·refine .inl ⟨(qL a1).1 h1,?_⟩
     rw [hyk] at h2
     rw [show (y.drop x.d).k=.cf (fl.filter fun t=>x.d != some t) f args by simp [SO.drop,hyk,SK.kH,SK.fls]]
     rw [hyk] at hop
     obtain ⟨g,fi,c,e1,vs,e2,e3⟩:=h2
     refine ⟨g,fi,c,hop u f (by simp [SK.ops]) _ e1,vs,oJ (fun z hz=>hop u z (by simp [SK.ops,hz])) e2,e3.mono fun v F' M' ⟨e4,e5⟩=>?_⟩
     have hfl:∀t'∈fl.filter (fun t=>x.d != some t),∃u,look σ t'=some u/\∀b o,u=.pointer (some ⟨b,o,none⟩)->blk F' M' b=blk F M b:=by
      intro t' ht'
      obtain ⟨ht1,ht2⟩:=List.mem_filter.1 ht'
      obtain ⟨u',h3,h4⟩:=e4 t' ht1
      rw [pX (by simpa using ht2)] at h3
      exact ⟨u',h3,h4⟩
     refine ⟨hfl,iU.2 (.inl ⟨(qL a2).2 hg,?_⟩)⟩
     rw [hxk]
     refine ⟨u,vDH _ _ _ (rW (vN a2 (.tmp t) (by simp [hxk,SK.ops,PK.ops]))) (fun b' o' hb=>?_),_,Env.put_comm a3,e5⟩
     obtain ⟨u',h3,h4⟩:=hfl t (List.mem_filter.2 ⟨hmem,by simpa using hxd⟩)
     rw [h3] at hb
     cases hb
     exact h4 _ _ rfl
    ·refine .inr ⟨(qHA a1).1 h1,?_⟩
     refine iU.2 (.inl ⟨(qL a2).2 hg,?_⟩)
     rw [hxk]
     exact ⟨u,hld _ _ (rW (vN a2 (.tmp t) (by simp [hxk,SK.ops,PK.ops]))) (fun b' o' _=>rfl),_,Env.put_comm a3,h2⟩
   rename_i fl m b z
   simp only [aC,List.contains_iff_mem,bne_iff_ne,ne_eq] at hk
   obtain ⟨hmem,hxd⟩:=hk
   rw [iU] at h ⊢
   rcases h with ⟨h1,h2⟩ | ⟨h1,h2⟩
   ·refine .inl ⟨(qL a1).1 h1,?_⟩
    rw [hyk] at h2
    rw [show (y.drop x.d).k=.st (fl.filter fun t=>x.d != some t) m b z by simp [SO.drop,hyk,SK.kH,SK.fls]]
    rw [hyk] at hop
    obtain ⟨g,o,e1,v,e2,e,e3,e4,e5,e6,e7,e8⟩:=h2
    have hfl:∀t'∈fl.filter (fun t=>x.d != some t),∃u,look σ t'=some u/\∀b' o',u=.pointer (some ⟨b',o',none⟩)->b'≠g:=by
     intro t' ht'
     obtain ⟨ht1,ht2⟩:=List.mem_filter.1 ht'
     obtain ⟨u',h3,h4⟩:=e7 t' ht1
     rw [pX (by simpa using ht2)] at h3
     exact ⟨u',h3,h4⟩
    refine ⟨g,o,hop u b (by simp [SK.ops]) _ e1,v,hop u z (by simp [SK.ops]) _ e2,e,e3,e4,e5,e6,hfl,?_⟩
    refine iU.2 (.inl ⟨(qL a2).2 hg,?_⟩)
    rw [hxk]
    refine ⟨u,hld _ _ (rW (vN a2 (.tmp t) (by simp [hxk,SK.ops,PK.ops]))) (fun b' o' hb=>?_),_,Env.put_comm a3,e8⟩
    obtain ⟨u',h3,h4⟩:=hfl t (List.mem_filter.2 ⟨hmem,by simpa using hxd⟩)
    rw [h3] at hb
    cases hb
    exact Hp.upd_ne (h4 _ _ rfl)
   ·refine .inr ⟨(qHA a1).1 h1,?_⟩
    refine iU.2 (.inl ⟨(qL a2).2 hg,?_⟩)
    rw [hxk]
    exact ⟨u,hld _ _ (rW (vN a2 (.tmp t) (by simp [hxk,SK.ops,PK.ops]))) (fun b' o' _=>rfl),_,Env.put_comm a3,h2⟩
 | al e z=>rw [hxk] at hk; simp only [aC] at hk; exact allocs (by rw [hxk]; rfl) hk.1 hk.2
 | bx e z=>rw [hxk] at hk; simp only [aC] at hk; exact allocs (by rw [hxk]; rfl) hk.1 hk.2
 | bs e len z parts=>rw [hxk] at hk; simp only [aC] at hk; exact allocs (by rw [hxk]; rfl) hk.1 hk.2
 | ms e es bytes z l c=>rw [hxk] at hk; simp only [aC] at hk; exact allocs (by rw [hxk]; rfl) hk.1 hk.2
 | gz e es b z l c=>rw [hxk] at hk; simp at hk
 | mm=>rw [hxk] at hk; simp at hk
 | ml z x i=>rw [hxk] at hk; simp at hk
 | mu x i y=>rw [hxk] at hk; simp at hk
 | cl es z x=>rw [hxk] at hk; simp at hk
 | ca f args=>
  rw [hxk] at h hk jZH
  simp only [aC] at hk
  obtain ⟨⟨hs1,hyg⟩,hyk⟩:=hk
  cases xWK:y.k <;> simp [xWK] at hyk
  rename_i e2 z2
  have yDE:y.g=none:=by simpa using hyg
  have hyd:y.drop x.d=y:=by simp only [SO.drop]; rw [SK.qDD (by rw [xWK]; rfl)]
  rw [hyd,wHV yDE xWK]
  simp only [iR] at h
  obtain ⟨g,fi,c,hf,vs,hvs,h⟩:=h
  intro r r1 r2
  refine iU.2 (.inl ⟨(qL a2).2 hg,?_⟩)
  rw [hxk]
  refine ⟨g,fi,c,jZH _ f (by simp [SK.ops]) _ hf,vs,oJ (fun z hz=>jZH _ z (by simp [SK.ops,hz])) hvs,(h.frame (e:=⟨z2,e2,z2.length⟩) r1 r2).mono ?_⟩
  rintro v F' M'' ⟨M',rfl,f1,f2,hl,hK⟩
  have hl:Le F M F' M':=hl hs1
  refine ⟨fun _=>⟨hl.fz,fun b en hb=>?_,fun b b1 b2=>?_⟩,_,Env.put_comm a3,(wHV yDE xWK).1 hK r f1 f2⟩
  ·by_cases hbr:b=r
   ·subst hbr; simp at hb; subst hb; exact ⟨_,Hp.qV _ _ _,List.prefix_refl _⟩
   ·rw [Hp.upd_ne hbr] at hb ⊢; exact hl.mu b en hb
  ·have hbr:b≠r:=by rintro rfl; simp at b2
   rw [Hp.upd_ne hbr] at b2 ⊢; exact hl.ap b b1 b2
 | ap e es b z u=>rw [hxk] at hk; simp at hk
 | cq f args=>rw [hxk] at hk; simp at hk
 | cf fl f args=>rw [hxk] at hk; simp at hk
 | st fl m z u=>rw [hxk] at hk; simp at hk
 | cp es z u=>rw [hxk] at hk; simp at hk
theorem SK.qDA (k:SK)(a b:List Nat):∃c,(k.kH a).kH b=k.kH c:=by
 cases k
 case ca f args=>cases a with
  | nil=>exact ⟨b,rfl⟩
  | cons x l=>cases x with
   | zero=>exact ⟨0 :: l,rfl⟩
   | succ x=>exact ⟨1 :: b,rfl⟩
 all_goals exact ⟨b,rfl⟩
def sS (l1:List SO)(x:SO):SO:=l1.foldr (fun y x=>x.drop y.d) x
theorem wJV:∀(l1:List SO) (x:SO),∃fl,sS l1 x = { x with k:=x.k.kH fl }:=by
 intro l1
 induction l1 with
 | nil=>intro x; exact ⟨x.k.fls,by cases x with | mk d g k=>cases k <;> rfl⟩
 | cons y l1 ih=>
  intro x;obtain ⟨fl,h⟩:=ih x;obtain ⟨c,hc⟩:=SK.qDA x.k fl ((x.k.kH fl).fls.filter (fun t=>y.d != some t));refine ⟨c,?_⟩;show (sS l1 x).drop y.d=_;rw [h];simp only [SO.drop,hc]
theorem qHW {s:Bool}{y:SO}:∀{l1:List SO} {x:SO},nR s y x=true->(∀z∈l1,sQ y z=true)->nR s y (sS l1 x)=true:=by
 intro l1
 induction l1 with
 | nil=>intro x h _; exact h
 | cons z l1 ih=>intro x h hz; exact wJG (ih h fun q hq=>hz q (by simp [hq])) (hz z (by simp))
theorem bubble {P:Program}{s:Bool}:∀{l1 l2:List SO} {x:SO} {K:Env->Fz->Hp->Prop} {σ:Env} {F:Fz} {M:Hp},Inf F M->l1.Pairwise (fun y z=>sQ y z=true)->(∀y∈l1,nR s y x=true)->
  iD P s (l1++x :: l2) K σ F M->stepG P s (sS l1 x) (iD P s (l1++l2) (up K)) σ F M:=by
 intro l1
 induction l1 with
 | nil=>intro l2 x K σ F M _ _ _ h; exact vM (fun σ F M hk=>qDG (Env.le_refl _) hk) h
 | cons y l1 ih=>
  intro l2 x K σ F M hI hp hs h;obtain ⟨hp1,hp2⟩:=List.pairwise_cons.1 hp;have h1:stepG P s y (stepG P s (sS l1 x) (iD P s (l1++l2) (up K))) σ F M:=qDH hI (fun σ F M hI hk=>ih hI hp2 (fun z hz=>hs z (by simp [hz])) hk) h;have h2:=swap hI (qHW (hs y (by simp)) hp1) h1;refine vM (fun σ F M hk=>?_) h2;exact vM (fun σ F M hk=>uZ (fun σ F M=>xGC) (xWZ hk)) hk
end Go.Ax
namespace Go.Ax
open Go
set_option linter.unusedSimpArgs false
def wF (ops:Array Oper)(i:Nat):List Nat:=match ops[i]? with
 | some o=>o.after.toList.filterMap fun e=>if Region.binds .any e then some e.on else none
 | none=>[]
inductive Anc (ops:Array Oper):Nat->Nat->Prop
 | one {y i:Nat}:y∈wF ops i->Anc ops y i
 | more {y p i:Nat}:Anc ops y p->p∈wF ops i->Anc ops y i
def getM:List (Nat × Nat)->Nat->Nat
 | [],_=>0
 | (k,m) :: l,i=>if k=i then m else getM l i
def qXW (st:List (Nat × Nat)):List Nat->Nat
 | []=>0
 | p :: l=>2 ^ p ||| (getM st p ||| qXW st l)
def xWJ (s:Bool)(ops:Array Oper):List (Nat × SO)->List (Nat × Nat)->List (Nat × SO)->Bool
 | _,_,[]=>true
 | seen,st,(i,x) :: l=>
  (wF ops i).all (fun p=>seen.any fun y=>y.1 == p) && !(seen.any fun y=>y.1 == i) &&
  seen.all (fun y=>sQ y.2 x && (nR s y.2 x || (qXW st (wF ops i)).testBit y.1)) && xWJ s ops ((i,x) :: seen) ((i,qXW st (wF ops i)) :: st) l
def okD (s:Bool)(ops:Array Oper)(l:List (Nat × SO)):Bool:=(xWJ s ops [] [] l && (List.range ops.size).all fun i=>l.any fun y=>y.1 == i) && l.length == ops.size
theorem wHD {ops:Array Oper}{st:List (Nat × Nat)}{i:Nat}(hst:∀j y,(getM st j).testBit y=true->Anc ops y j):∀(l:List Nat),(∀p∈l,p∈wF ops i)->
  ∀y,(qXW st l).testBit y=true->Anc ops y i:=by
 intro l
 induction l with
 | nil=>intro _ y h; simp [qXW] at h
 | cons p l ih=>
  intro hl y h;simp only [qXW,Nat.testBit_or,iT,dJ,decide_eq_true_eq] at h;rcases h with h | h | h
  ·subst h; exact .one (hl _ (by simp))
  ·exact .more (hst p y h) (hl p (by simp))
  ·exact ih (fun q hq=>hl q (by simp [hq])) y h
structure Inv (s:Bool)(P:Program)(n:Nat)(ops:Array Oper)(listed:Array Bool)(l0:List (Nat × SO)):Prop where
 size:listed.size=ops.size
 xWG:∀p∈l0,∃o so fl,ops[p.1]? = some o/\zH P n ops o=some so/\p.2 = { so with k:=so.k.kH fl }
 mem:∀i,i < ops.size->(listed.getD i false=false↔∃p∈l0,p.1=i)
 pairs:l0.Pairwise fun y x=>y.1≠x.1/\sQ y.2 x.2=true/\(nR s y.2 x.2=true\/Anc ops y.1 x.1)
 top:∀l1 x l2,l0=l1++x :: l2->∀p∈wF ops x.1,listed.getD p false=true\/∃y∈l1,y.1=p
 down:∀i,listed.getD i false=true->∀p∈wF ops i,listed.getD p false=true
theorem yDF {s:Bool}{ops:Array Oper}:∀{l seen:List (Nat × SO)} {st:List (Nat × Nat)},(∀j y,(getM st j).testBit y=true->Anc ops y j)->xWJ s ops seen st l=true->
  l.Pairwise (fun y x=>y.1≠x.1/\sQ y.2 x.2=true/\(nR s y.2 x.2=true\/Anc ops y.1 x.1))/\(∀y∈seen,∀x∈l,y.1≠x.1/\sQ y.2 x.2=true/\(nR s y.2 x.2=true\/Anc ops y.1 x.1))/\
  ∀l1 x l2,l=l1++x :: l2->∀p∈wF ops x.1,(∃y∈seen,y.1=p)\/∃y∈l1,y.1=p:=by
 intro l
 induction l with
 | nil=>intro seen st _ _; exact ⟨List.Pairwise.nil,by simp,fun l1 x l2 h=>by simp at h⟩
 | cons a l ih=>
  intro seen st hst h;obtain ⟨i,x⟩:=a;simp only [xWJ,aC] at h;obtain ⟨⟨⟨h1,h2⟩,h3⟩,h4⟩:=h;have hmask:=wHD (i:=i) hst (wF ops i) (fun p hp=>hp);obtain ⟨g1,g2,g3⟩:=ih (seen:=(i,x) :: seen) (st:=(i,qXW st (wF ops i)) :: st) (fun j y hy=>by
   simp only [getM] at hy;split at hy
   ·rename_i e; subst e; exact hmask y hy
   ·exact hst j y hy) h4
  have hne:∀y∈seen,y.1≠i:=by
   intro y hy e;simp at h2;exact h2 y.1 y.2 hy e
  have hpr:∀y∈seen,sQ y.2 x=true/\(nR s y.2 x=true\/Anc ops y.1 i):=by
   intro y hy;have:=bW.1 h3 y hy;simp only [aC,dJ] at this;exact ⟨this.1,this.2.imp id (hmask y.1)⟩
  refine ⟨List.pairwise_cons.2 ⟨fun z hz=>g2 (i,x) (by simp) z hz,g1⟩,?_,?_⟩
  ·intro y hy z hz;rcases aQ.1 hz with rfl | hz
   ·exact ⟨hne y hy,hpr y hy⟩
   ·exact g2 y (by simp [hy]) z hz
  ·intro l1 z l2 he p hp;cases l1 with
   | nil=>
    simp at he;obtain ⟨rfl,rfl⟩:=he;have:=bW.1 h1 p hp;simp only [List.any_eq_true,beq_iff_eq] at this;exact .inl this
   | cons b l1=>
    simp at he;obtain ⟨rfl,rfl⟩:=he;rcases g3 l1 z l2 rfl p hp with ⟨y,hy,hyp⟩ | ⟨y,hy,hyp⟩
    ·rcases aQ.1 hy with rfl | hy
     ·exact .inr ⟨_,by simp,hyp⟩
     ·exact .inl ⟨y,hy,hyp⟩
    ·exact .inr ⟨y,by simp [hy],hyp⟩
theorem qDB {a:Array Bool}{i j:Nat}(hi:i < a.size):(a.setIfInBounds i true).getD j false=if i=j then true else a.getD j false:=by
 simp only [Array.getD_eq_getD_getElem?,Array.getElem?_setIfInBounds];split <;> simp_all
section
variable {P:Program} {s:Bool} {n:Nat} {ops:Array Oper} {Q:Exit->Act->World->Prop}
theorem mem_ready {listed:Array Bool}{i:Nat}(hs:listed.size=ops.size) :
  i∈Region.ready .any ops listed↔i < ops.size/\listed.getD i false=false/\∀p∈wF ops i,listed.getD p false=true:=by
 unfold Region.ready wF;simp only [List.mem_filter,List.mem_range,aC,Bool.not_eq_true'];constructor
 ·rintro ⟨h1,h2,h3⟩;obtain ⟨o,ho⟩:∃o,ops[i]? = some o:=⟨ops[i],by simp [h1]⟩
  refine ⟨h1,?_,?_⟩
  ·have:i < listed.size:=by omega
   simpa [Array.getD_eq_getD_getElem?,this] using h2
  ·rw [ho] at h3 ⊢;intro p hp;simp only [List.mem_filterMap] at hp;obtain ⟨e,he,hb⟩:=hp;split at hb
   ·rename_i hbi;simp at hb; subst hb;simp only [cZ,Option.getD_some,Array.all_eq_true'] at h3;have:=h3 e (Array.mem_toList_iff.1 he)
    simpa [hbi] using this
   ·simp at hb
 ·rintro ⟨h1,h2,h3⟩;obtain ⟨o,ho⟩:∃o,ops[i]? = some o:=⟨ops[i],by simp [h1]⟩
  refine ⟨h1,?_,?_⟩
  ·have:i < listed.size:=by omega
   simpa [Array.getD_eq_getD_getElem?,this] using h2
  ·rw [ho] at h3 ⊢;simp only [cZ,Option.getD_some,Array.all_eq_true'];intro e he;by_cases hb:Region.binds .any e=true
   ·have:=h3 e.on (List.mem_filterMap.2 ⟨e,Array.mem_toList_iff.2 he,by simp [hb]⟩);simp [hb,this]
   ·simp [hb]
theorem yYQ {K:Env->Fz->Hp->Prop}{F0:Fz}{M0:Hp}{w0:World}(hQ:∀a w,St n K F0 M0 w0 a w->Q .normal a w) :
  ∀(fuel:Nat) {l0:List (Nat × SO)} {listed:Array Bool} {σ:Env} {F:Fz} {M:Hp} {a:Act} {w:World},l0.length=fuel->Inv s P n ops listed l0->
   Agree n σ a->Rel F M w->Fr F0 M0 w0 F M w->iD P s (l0.map (·.2)) (up K) σ F M->wpAny P .any ops Q fuel listed a w:=by
 intro fuel
 induction fuel with
 | zero=>
  intro l0 listed σ F M a w hl hi ha hr hf h;obtain rfl:l0=[]:=by simpa using hl
  obtain ⟨σ',hle,hk⟩:=h;refine ⟨?_,hQ a w ⟨σ',F,M,ha.mono hle,hr,hf,hk⟩⟩;cases hrd:Region.ready .any ops listed with
  | nil=>rfl
  | cons i l=>
   have:=(mem_ready hi.size).1 (by rw [hrd]; simp:i∈Region.ready .any ops listed);have:=(hi.mem i this.1).1 this.2.1;simp at this
 | succ fuel ih=>
  intro l0 listed σ F M a w hl hi ha hr hf h;refine ⟨fun hnil=>?_,fun i hri=>?_⟩
  ·-- the first one is ready
   exfalso;cases l0 with
   | nil=>simp at hl
   | cons x l=>
    obtain ⟨o,_,_,ho,_⟩:=hi.xWG x (by simp);have hlt:x.1 < ops.size:=(Array.getElem?_eq_some_iff.1 ho).1;have:x.1∈Region.ready .any ops listed:=(mem_ready hi.size).2 ⟨hlt,(hi.mem x.1 hlt).2 ⟨x,by simp,rfl⟩,fun p hp=>by
     rcases hi.top [] x l rfl p hp with h | ⟨y,hy,_⟩
     ·exact h
     ·simp at hy⟩
    rw [hnil] at this; simp at this
  ·obtain ⟨hlt,hnl,hpl⟩:=(mem_ready hi.size).1 hri;obtain ⟨x,hx,rfl⟩:=(hi.mem i hlt).1 hnl;obtain ⟨l1,l2,rfl⟩:=List.append_of_mem hx;obtain ⟨o,so,fl,ho,hso,hxe⟩:=hi.xWG x (by simp)
      -- nothing ahead of it is an ancestor
   have hup:∀y i,Anc ops y i->(∀p∈wF ops i,listed.getD p false=true)->listed.getD y false=true:=by
    intro y i hy
    induction hy with
    | one h=>exact fun hp=>hp _ h
    | more h1 h2 ih1=>exact fun hp=>ih1 (hi.down _ (hp _ h2))
   have hsw:∀y∈l1.map (·.2),nR s y x.2=true:=by
    intro y hy;obtain ⟨z,hz,rfl⟩:=List.mem_map.1 hy;have hpw:=(List.pairwise_append.1 hi.pairs).2.2 z hz x (by simp);rcases hpw.2.2 with h | h
    ·exact h
    ·exfalso;have h1:=hup _ _ h hpl;obtain ⟨oz,_,_,hoz,_⟩:=hi.xWG z (by simp [hz]);have hzl:z.1 < ops.size:=(Array.getElem?_eq_some_iff.1 hoz).1;have h2:=(hi.mem z.1 hzl).2 ⟨z,by simp [hz],rfl⟩;rw [h1] at h2; simp at h2
   rw [bP,List.map_cons] at h;have kQK:(l1.map (·.2)).Pairwise (fun y z=>sQ y z=true):=by
    rw [List.pairwise_map];exact (List.pairwise_append.1 hi.pairs).1.imp fun h=>h.2.1
   have hb:=bubble hr.inf kQK hsw h;obtain ⟨fl2,hdr⟩:=wJV (l1.map (·.2)) x.2;have hnew:Inv s P n ops (listed.setIfInBounds x.1 true) (l1++l2):=by
    have hxs:x.1 < listed.size:=by rw [hi.size]; exact hlt
    have hpw:=hi.pairs;have hne1:∀y∈l1,y.1≠x.1:=fun y hy=>((List.pairwise_append.1 hpw).2.2 y hy x (by simp)).1
    have hne2:∀y∈l2,y.1≠x.1:=fun y hy=>((List.pairwise_cons.1 (List.pairwise_append.1 hpw).2.1).1 y hy).1.symm
    refine ⟨by simp [hi.size],fun p hp=>hi.xWG p (by simp at hp ⊢; exact hp.imp id .inr),fun i hi'=>?_,?_,?_,?_⟩
    ·rw [qDB hxs];by_cases hxi:x.1=i
     ·subst hxi;simp only [if_true,Bool.true_eq_false,false_iff];rintro ⟨p,hp,hpe⟩;rcases aW.1 hp with hp | hp
      ·exact hne1 p hp hpe
      ·exact hne2 p hp hpe
     ·rw [if_neg hxi,hi.mem i hi'];constructor
      ·rintro ⟨p,hp,rfl⟩;refine ⟨p,?_,rfl⟩;simp at hp ⊢;rcases hp with hp | rfl | hp
       ·exact .inl hp
       ·exact absurd rfl hxi
       ·exact .inr hp
      ·rintro ⟨p,hp,rfl⟩;exact ⟨p,by simp at hp ⊢; exact hp.imp id .inr,rfl⟩
    ·refine hpw.sublist ?_;exact List.Sublist.append (List.Sublist.refl _) (List.sublist_cons_self _ _)
    ·intro m1 z m2 he p hp;rw [qDB hxs];by_cases hxp:x.1=p
     ·exact .inl (by simp [hxp])
     ·rw [if_neg hxp]
            -- where z stands in the whole
      rcases List.append_eq_append_iff.1 he with ⟨c,h1,h2⟩ | ⟨c,h1,h2⟩
      ·-- l1++c=m1,l2=c++z :: m2
       rcases hi.top (l1++x :: c) z m2 (by rw [h2]; simp) p hp with h | ⟨y,hy,hyp⟩
       ·exact .inl h
       ·refine .inr ⟨y,?_,hyp⟩;rw [h1];simp at hy ⊢;rcases hy with hy | rfl | hy
        ·exact .inl hy
        ·exact absurd hyp hxp
        ·exact .inr hy
      ·cases c with
       | nil=>
        simp at h1 h2;rcases hi.top (l1++[x]) z m2 (by rw [<-h2]; simp) p hp with h | ⟨y,hy,hyp⟩
        ·exact .inl h
        ·refine .inr ⟨y,?_,hyp⟩;rw [<-h1];simp at hy ⊢;rcases hy with hy | rfl
         ·exact hy
         ·exact absurd hyp hxp
       | cons c0 c=>
        simp at h2;obtain ⟨rfl,h2⟩:=h2;rcases hi.top m1 z (c++x :: l2) (by rw [h1]; simp) p hp with h | ⟨y,hy,hyp⟩
        ·exact .inl h
        ·exact .inr ⟨y,hy,hyp⟩
    ·intro i hi' p hp;rw [qDB hxs] at hi' ⊢;by_cases hxp:x.1=p
     ·simp [hxp]
     ·rw [if_neg hxp];by_cases hxi:x.1=i
      ·subst hxi; exact hpl p hp
      ·rw [if_neg hxi] at hi'; exact hi.down i hi' p hp
   obtain ⟨h1,h2,h3,h4,h5⟩:=qDJ ha hso;have hxd:x.2.d=so.d:=by rw [hxe]
   have hxg:x.2.g=so.g:=by rw [hxe]
   obtain ⟨fl3,hxk⟩:∃fl3,(sS (l1.map (·.2)) x.2).k=so.k.kH fl3:=by
    rw [hdr,hxe];exact SK.qDA _ _ _
   have xYC:(sS (l1.map (·.2)) x.2).g=x.2.g:=by rw [hdr]
   have vDD:(sS (l1.map (·.2)) x.2).d=x.2.d:=by rw [hdr]
   rw [<-hxg] at h1 h2;have next:∀a' w',St n (iD P s (l1.map (·.2)++l2.map (·.2)) (up (up K))) F M w a' w'->wpAny P .any ops Q fuel (listed.setIfInBounds x.1 true) a' w':=by
    rintro a' w' ⟨σ',F',M',ha',hr',hf',h'⟩;refine ih (by simp at hl ⊢; omega) hnew ha' hr' (hf.trans hf') ?_;rw [bP];exact uZ (fun _ _ _=>xGC) h'
   unfold wpOp;rw [ho];simp only;rw [iU] at hb;have run:iR P s (sS (l1.map (·.2)) x.2).d (sS (l1.map (·.2)) x.2).k (iD P s (l1.map (·.2)++l2.map (·.2)) (up (up K))) σ F M->o.wp P a w (wpAny P .any ops Q fuel (listed.setIfInBounds x.1 true)) Q:=fun hk=>by
    rw [vDD,hxd,h3,hxk] at hk;exact Oper.wp_mono next (wXD (s:=s) h4 ha hr h5 hk)
   rcases hb with ⟨hg,hk⟩ | ⟨hg,hk⟩
   ·have hw:Region.wanted o (yielded ops a.tmps)=true:=by
     cases hg':x.2.g with
     | none=>exact h1 hg'
     | some p=>obtain ⟨t,want⟩:=p; simp only [GdT,xYC,hg'] at hg; exact (h2 t want _ hg' hg).2 rfl
    rw [if_pos hw];exact .inl (run hk)
   ·have hw:¬Region.wanted o (yielded ops a.tmps)=true:=by
     cases hg':x.2.g with
     | none=>simp [GdF,xYC,hg'] at hg
     | some p=>
      obtain ⟨t,want⟩:=p;simp only [GdF,xYC,hg'] at hg;obtain ⟨v,hv,hvn⟩:=hg;exact fun e=>hvn ((h2 t want v hg' hv).1 e)
    rw [if_neg hw];rw [vDD,hxd,h3] at hk;exact next _ _ ⟨_,F,M,ha.put h4,hr,Fr.refl _ _ _,hk⟩
theorem qDC {K:Env->Fz->Hp->Prop}{id:Nat}{l:List (Nat × SO)}{σ:Env}{F:Fz}{M:Hp}{a:Act}{w:World}(hm:P.follows .mixedOrders=true)
  (hQ:∀a' w',St n K F M w a' w'->Q .normal a' w')(hs:∀p∈l,∃o so fl,ops[p.1]? = some o/\zH P n ops o=some so/\p.2 = { so with k:=so.k.kH fl })(hok:okD s ops l=true)
  (ha:Agree n σ a)(hr:Rel F M w)(h:iD P s (l.map (·.2)) K σ F M):(Code.region id ops true).wp P Q a w:=by
 simp only [okD,aC] at hok;obtain ⟨⟨h1,h2⟩,h3⟩:=hok;obtain ⟨g1,_,g3⟩:=yDF (seen:=[]) (st:=[]) (fun j y hy=>by simp [getM] at hy) h1;have hall:∀i,i < ops.size->∃p∈l,p.1=i:=fun i hi=>by
  have:=bW.1 h2 i (List.mem_range.2 hi)
  simpa only [List.any_eq_true,beq_iff_eq] using this
 have hfalse:∀i,(Array.replicate ops.size false).getD i false=false:=fun i=>by simp [Array.getD_eq_getD_getElem?,Array.getElem?_replicate]; split <;> rfl
 have hlen:l.length=ops.size:=by simpa using h3
 refine wp_region_any hm ?_;refine yYQ (n:=n) (K:=K) (F0:=F) (M0:=M) (w0:=w) hQ ops.size (l0:=l) hlen ⟨by simp,hs,fun i hi=>?_,g1,fun l1 x l2 he p hp=>?_,fun i hi=>?_⟩ ha (hr.like ⟨rfl,rfl,⟨rfl,Nat.le_succ _⟩,rfl⟩) (Fr.like ⟨rfl,rfl,⟨rfl,Nat.le_succ _⟩,rfl⟩)
  (qDG (Env.le_refl _) h)
 ·rw [hfalse]; simp only [true_iff]; exact hall i hi
 ·rcases g3 l1 x l2 he p hp with ⟨y,hy,_⟩ | hy
  ·simp at hy
  ·exact .inr hy
 ·rw [hfalse] at hi; simp at hi
end
end Go.Ax
namespace Go.Ax
open Go
inductive SC where
 | skip
 | ret
 | exit (i:Nat)
 | ops (l:List SO)
 | zO (l:List SO)
 | opq (l:List SO)
 | seq (a b:SC)
 | cond (c:Operand) (a b:SC)
 | block (i:Nat) (c:SC)
 | loop (c:SC)
 | bad
def qGC (P:Program)(n:Nat)(ops:Array Oper)(ord:List (Nat × List Nat)):Option (List (Nat × SO)):=
 ord.mapM fun i=>(ops[i.1]?).bind fun o=>(zH P n ops o).map fun s=>(i.1,{ s with k:=s.k.kH i.2 })
def rP (P:Program)(n:Nat):Code->List (List (Nat × List Nat))->Option (SC × List (List (Nat × List Nat)))
 | .skip,hs=>some (.skip,hs)
 | .ret,hs=>some (.ret,hs)
 | .exit i,hs=>some (.exit i,hs)
 | .region _ ops false,hs=>match ops.toList.mapM (zH P n ops) with
  | some l=>some (.ops l,hs)
  | none=>some (.bad,hs)
 | .region _ ops true,hs=>match hs with
  | []=>none
  | ord :: hs=>match qGC P n ops ord with
   | none=>none
   | some l=>if okD false ops l=true then some (.opq (l.map (·.2)),hs) else if okD true ops l=true then some (.zO (l.map (·.2)),hs) else none
 | .seq a b,hs=>match rP P n a hs with
  | none=>none
  | some (x,hs)=>match rP P n b hs with
   | none=>none
   | some (y,hs)=>some (.seq x y,hs)
 | .cond c a b,hs=>match rP P n a hs with
  | none=>none
  | some (x,hs)=>match rP P n b hs with
   | none=>none
   | some (y,hs)=>some (.cond c x y,hs)
 | .block i c,hs=>match rP P n c hs with
  | none=>none
  | some (x,hs)=>some (.block i x,hs)
 | .loop c,hs=>match rP P n c hs with
  | none=>none
  | some (x,hs)=>some (.loop x,hs)
 | _,_=>none
inductive Ex where
 | n | r | e (i:Nat)
abbrev Post:=Ex->Env->Fz->Hp->Prop
def Post.andThen (next:Env->Fz->Hp->Prop)(Q:Post):Post
 | .n=>next
 | x=>Q x
def Post.inBlock (i:Nat)(Q:Post):Post
 | .e j=>if j=i then Q .n else Q (.e j)
 | x=>Q x
def W (P:Program):SC->Post->Env->Fz->Hp->Prop
 | .bad,_=>fun _ _ _=>False
 | .skip,Q=>Q .n
 | .ret,Q=>Q .r
 | .exit i,Q=>Q (.e i)
 | .ops l,Q=>iD P false l (Q .n)
 | .zO l,Q=>iD P true l (Q .n)
 | .opq l,Q=>iD P false l (Q .n)
 | .seq a b,Q=>W P a (Post.andThen (W P b Q) Q)
 | .cond c a b,Q=>fun σ F M=>∃t,ev σ c=some (.bool t)/\(t=true->W P a Q σ F M)/\(t=false->W P b Q σ F M)
 | .block i c,Q=>W P c (Q.inBlock i)
 | .loop c,Q=>fun σ F M=>∃(I:Nat->Env->Fz->Hp->Prop) (n:Nat),(∃F' M',Wk F M F' M'/\I n σ F' M')/\∀n σ F M,I n σ F M->W P c (Post.andThen (fun σ F M=>∃m,m < n/\I m σ F M) Q) σ F M
theorem rX {P:Program}:∀{c:SC} {Q Q':Post} {σ:Env} {F:Fz} {M:Hp},(∀x σ F M,Q x σ F M->Q' x σ F M)->W P c Q σ F M->W P c Q' σ F M:=by
 intro c
 induction c with
 | bad=>intro Q Q' σ F M h hh; exact hh.elim
 | skip=>intro Q Q' σ F M h hh; exact h _ _ _ _ hh
 | ret=>intro Q Q' σ F M h hh; exact h _ _ _ _ hh
 | exit i=>intro Q Q' σ F M h hh; exact h _ _ _ _ hh
 | ops l=>intro Q Q' σ F M h hh; exact uZ (fun σ F M=>h .n σ F M) hh
 | zO l=>intro Q Q' σ F M h hh; exact uZ (fun σ F M=>h .n σ F M) hh
 | opq l=>intro Q Q' σ F M h hh; exact uZ (fun σ F M=>h .n σ F M) hh
 | seq a b iha ihb=>
  intro Q Q' σ F M h hh;refine iha (fun x σ F M hx=>?_) hh;cases x with
  | n=>exact ihb h hx
  | r=>exact h _ _ _ _ hx
  | e i=>exact h _ _ _ _ hx
 | cond c a b iha ihb=>
  intro Q Q' σ F M h hh;obtain ⟨t,h1,h2,h3⟩:=hh;exact ⟨t,h1,fun ht=>iha h (h2 ht),fun ht=>ihb h (h3 ht)⟩
 | block i c ih=>
  intro Q Q' σ F M h hh;refine ih (fun x σ F M hx=>?_) hh;cases x with
  | n=>exact h _ _ _ _ hx
  | r=>exact h _ _ _ _ hx
  | e j=>simp only [Post.inBlock] at hx ⊢; split <;> simp_all
 | loop c ih=>
  intro Q Q' σ F M h hh;obtain ⟨I,n,h1,h2⟩:=hh;refine ⟨I,n,h1,fun n σ F M hi=>ih (fun x σ F M hx=>?_) (h2 n σ F M hi)⟩;cases x with
  | n=>exact hx
  | r=>exact h _ _ _ _ hx
  | e j=>exact h _ _ _ _ hx
def qWH (n:Nat)(Q:Post)(F0:Fz)(M0:Hp)(w0:World):Exit->Act->World->Prop
 | .normal,a,w=>St n (Q .n) F0 M0 w0 a w
 | .ret,a,w=>St n (Q .r) F0 M0 w0 a w
 | .exit i,a,w=>St n (Q (.e i)) F0 M0 w0 a w
 | _,_,_=>False
theorem qWH.trans {n:Nat}{Q:Post}{F0 F1:Fz}{M0 M1:Hp}{w0 w1:World}(h:Fr F0 M0 w0 F1 M1 w1):∀e a w,qWH n Q F1 M1 w1 e a w->qWH n Q F0 M0 w0 e a w:=by
 intro e a w hh;cases e <;> simp only [qWH] at hh ⊢
 all_goals first | exact hh | (obtain ⟨σ,F,M,h1,h2,h3,h4⟩:=hh; exact ⟨σ,F,M,h1,h2,h.trans h3,h4⟩)
theorem qDE {P:Program}{n:Nat}{ops:Array Oper}:∀{ord:List (Nat × List Nat)} {l:List (Nat × SO)},qGC P n ops ord=some l->∀p∈l,∃o so fl,ops[p.1]? = some o/\zH P n ops o=some so/\p.2 = { so with k:=so.k.kH fl }:=by
 intro ord
 induction ord with
 | nil=>intro l h; simp [qGC] at h; subst h; simp
 | cons i ord ih=>
  intro l h;simp only [qGC,List.mapM_cons,Option.bind_eq_bind,Option.pure_def] at h;cases ho:ops[i.1]? with
  | none=>simp [ho] at h
  | some o=>
   cases hs:zH P n ops o with
   | none=>simp [ho,hs] at h
   | some s=>
    cases hr:qGC P n ops ord with
    | none=>simp only [qGC] at hr; simp [ho,hs,hr] at h
    | some r=>
     have hr':=hr;simp only [qGC] at hr;simp [ho,hs,hr] at h;subst h;intro p hp;rcases aQ.1 hp with rfl | hp
     ·exact ⟨o,s,i.2,ho,hs,rfl⟩
     ·exact ih hr' p hp
theorem yXG {p:Nat->Prop}(h:∃m,p m):∃m,p m/\∀k,p k->m<=k:=by
 obtain ⟨m,hm⟩:=h
 induction m using Nat.strongRecOn with
 | _ m ih=>
  by_cases hh:∃k,k < m/\p k
  ·obtain ⟨k,hk,hp⟩:=hh; exact ih k hk hp
  ·exact ⟨m,hm,fun k hk=>Nat.le_of_not_lt fun hlt=>hh ⟨k,hlt,hk⟩⟩
theorem yXV {P:Program}{n:Nat}(hm:P.follows .mixedOrders=true):∀{c:Code} {sc:SC} {hs hs':List (List (Nat × List Nat))},rP P n c hs=some (sc,hs')->
  ∀{Q:Post} {σ:Env} {F:Fz} {M:Hp} {a:Act} {w:World},Agree n σ a->Rel F M w->W P sc Q σ F M->c.wp P (qWH n Q F M w) a w:=by
 intro c
 induction c with
 | skip=>intro sc hs hs' h Q σ F M a w ha hr hw; simp [rP] at h; obtain ⟨rfl,rfl⟩:=h; exact wp_skip ⟨σ,F,M,ha,hr,Fr.refl _ _ _,hw⟩
 | ret=>intro sc hs hs' h Q σ F M a w ha hr hw; simp [rP] at h; obtain ⟨rfl,rfl⟩:=h; exact wp_ret ⟨σ,F,M,ha,hr,Fr.refl _ _ _,hw⟩
 | exit i=>intro sc hs hs' h Q σ F M a w ha hr hw; simp [rP] at h; obtain ⟨rfl,rfl⟩:=h; exact wp_exit ⟨σ,F,M,ha,hr,Fr.refl _ _ _,hw⟩
 | region id ops draw=>
  intro sc hs hs' h Q σ F M a w ha hr hw;cases draw with
  | false=>
   simp only [rP] at h;cases hl:ops.toList.mapM (zH P n ops) with
   | none=>simp [hl] at h; obtain ⟨rfl,rfl⟩:=h; exact hw.elim
   | some l=>
    simp [hl] at h; obtain ⟨rfl,rfl⟩:=h;exact wp_region_list (yDA (K:=Q .n) (F0:=F) (M0:=M) (w0:=w) (fun a w h=>h) hl ha hr (Fr.refl _ _ _) hw)
  | true=>
   simp only [rP] at h;cases hs with
   | nil=>simp at h
   | cons ord hs=>
    cases hl:qGC P n ops ord with
    | none=>simp [hl] at h
    | some l=>
     simp only [hl] at h;split at h
     ·rename_i hok;cases h;exact qDC (s:=false) hm (fun a w h=>h) (qDE hl) hok ha hr hw
     ·split at h
      ·rename_i hok;cases h;exact qDC (s:=true) hm (fun a w h=>h) (qDE hl) hok ha hr hw
      ·cases h
 | seq x y ihx ihy=>
  intro sc hs hs' h Q σ F M a w ha hr hw;simp only [rP] at h;split at h
  ·simp at h
  ·rename_i sx hs1 h1;split at h
   ·simp at h
   ·rename_i sy hs2 h2;simp at h; obtain ⟨rfl,rfl⟩:=h;refine wp_seq (Code.wp_mono (fun e a w hh=>?_) (ihx h1 ha hr hw));cases e <;> simp only [qWH,Exit.then] at hh ⊢
    case normal=>
     obtain ⟨σ',F',M',ha',hr',hf',hw'⟩:=hh;exact Code.wp_mono (qWH.trans hf') (ihy h2 ha' hr' hw')
    all_goals exact hh
 | cond c x y ihx ihy=>
  intro sc hs hs' h Q σ F M a w ha hr hw;simp only [rP] at h;split at h
  ·simp at h
  ·rename_i sx hs1 h1;split at h
   ·simp at h
   ·rename_i sy hs2 h2;simp at h; obtain ⟨rfl,rfl⟩:=h;obtain ⟨t,hc,ht,hf⟩:=hw;exact wp_cond_split (ha.ev hc) (fun e=>ihx h1 ha hr (ht e)) (fun e=>ihy h2 ha hr (hf e))
 | block i c ih=>
  intro sc hs hs' h Q σ F M a w ha hr hw;simp only [rP] at h;split at h
  ·simp at h
  ·rename_i sx hs1 h1;simp at h; obtain ⟨rfl,rfl⟩:=h;refine wp_block (Code.wp_mono (fun e a w hh=>?_) (ih h1 ha hr hw));cases e <;> simp only [qWH,Exit.inBlock] at hh ⊢
   case exit j=>
    simp only [Post.inBlock] at hh;split <;> simp_all
   all_goals exact hh
 | loop c ih=>
  intro sc hs hs' h Q σ F M a w ha hr hw;simp only [rP] at h;split at h
  ·simp at h
  ·rename_i sx hs1 h1;simp at h; obtain ⟨rfl,rfl⟩:=h;obtain ⟨I,k,⟨F1,M1,hwk,hi⟩,hrd⟩:=hw
   let J:Nat->Act->World->Prop:=fun m a' w'=>∃σ' F' M',Agree n σ' a'/\Rel F' M' w'/\Fr F M w F' M' w'/\I m σ' F' M'
   classical
   refine wp_loop (fun a' w'=>∃m,J m a' w') (fun a' w'=>if h:∃m,J m a' w' then Classical.choose (yXG h) else 0) ⟨k,σ,F1,M1,ha,hwk.rel _ hr,⟨rfl,⟨rfl,aN _⟩,rfl,aN _,fun b hb hm hp=>⟨rfl,hwk.jXY b hm,hwk.xQE b hp,fun hf=>hwk.xQC b hf hm⟩⟩,hi⟩ ?_;intro a' w' hJ;have hmin:=Classical.choose_spec (yXG hJ);rw [dif_pos hJ];obtain ⟨⟨σ',F',M',ha',hr',hf',hi'⟩,kQG⟩:=hmin;refine Code.wp_mono (fun e a2 w2 hh=>?_) (ih h1 ha' hr' (hrd _ σ' F' M' hi'));cases e <;> simp only [qWH,Exit.then] at hh ⊢
   case normal=>
    obtain ⟨σ2,F2,M2,ha2,hr2,hf2,m,hlt,hi2⟩:=hh;have hJ2:∃m,J m a2 w2:=⟨m,σ2,F2,M2,ha2,hr2,hf'.trans hf2,hi2⟩
    refine ⟨hJ2,?_⟩;rw [dif_pos hJ2];exact dI ((Classical.choose_spec (yXG hJ2)).2 m ⟨σ2,F2,M2,ha2,hr2,hf'.trans hf2,hi2⟩) hlt
   all_goals first | exact hh.elim | (obtain ⟨σ2,F2,M2,g1,g2,g3,g4⟩:=hh; exact ⟨σ2,F2,M2,g1,g2,hf'.trans g3,g4⟩)
 | _=>intro sc hs hs' h; simp [rP] at h
inductive RS where
 | t (t:Nat)
 | c (agg:Bool) (n a:Nat)
def qGE (P:Program):List ResultVar->Option (List RS)
 | []=>some []
 | .tmp t :: l=>(qGE P l).map fun r=>.t t :: r
 | .cell a ty :: l=>match qHQ P ty,sizeT P ty,qGE P l with
  | some b,some n,some r=>some (.c b n a :: r)
  | _,_,_=>none
def qHX (σ:Env)(F:Fz)(M:Hp):List RS->Option (List Value)
 | []=>some []
 | .t t :: l=>(look σ t).bind fun v=>(qHX σ F M l).map fun vs=>v :: vs
 | .c b n a :: l=>match look σ a with
  | some (.pointer (some ⟨g,o,none⟩))=>(blk F M g).bind fun c=>(rd b n c o).bind fun v=>(qHX σ F M l).map fun vs=>v :: vs
  | _=>none
def wJH:List Value->Value
 | [v]=>v
 | vs=>.tuple vs.toArray
def jZY (a:Act):ResultVar->Sem Value
 | .tmp t=>pure (a.tmps.getD t undef)
 | .cell c t=>do loadVar t (<-asAddr (a.tmps.getD c undef))
theorem wHY {P:Program}{n:Nat}{σ:Env}{F:Fz}{M:Hp}{a:Act}{w:World}(ha:Agree n σ a)(hr:Rel F M w) :
  ∀{l:List ResultVar} {rs:List RS} {vs:List Value},qGE P l=some rs->qHX σ F M rs=some vs->
   (l.mapM (jZY a)).run P w=.ok vs w:=by
 intro l
 induction l with
 | nil=>intro rs vs h hv; simp [qGE] at h; subst h; simp [qHX] at hv; subst hv; simp
 | cons x l ih=>
  intro rs vs h hv;cases x with
  | tmp t=>
   simp only [qGE] at h;cases hl:qGE P l with
   | none=>simp [hl] at h
   | some r=>
    simp [hl] at h; subst h;simp only [qHX] at hv;cases ht:look σ t with
    | none=>simp [ht] at hv
    | some v=>
     cases hvs:qHX σ F M r with
     | none=>simp [ht,hvs] at hv
     | some us=>
      simp [ht,hvs] at hv; subst hv;have:=ha.get t v ht;have ih':=ih hl hvs;simp only [List.mapM_cons,jZY,Sem.run_bind,Sem.run_pure,Result.andThen_ok];rw [ih'];simp [Array.getD_eq_getD_getElem?,this]
  | cell c t=>
   simp only [qGE] at h;split at h
   ·rename_i b m r h1 h2 h3;simp at h; subst h;simp only [qHX] at hv;split at hv
    ·rename_i g o hlk;cases hb:blk F M g with
     | none=>simp [hb] at hv
     | some cs=>
      cases hrd:rd b m cs o with
      | none=>simp [hb,hrd] at hv
      | some v=>
       cases hvs:qHX σ F M r with
       | none=>simp [hb,hvs] at hv
       | some us=>
        simp [hb,hrd,hvs] at hv; subst hv;have h4:=ha.get c _ hlk;have ih':=ih h3 hvs;simp only [List.mapM_cons,jZY,Sem.run_bind];rw [show a.tmps.getD c undef=.pointer (some ⟨g,o,none⟩) by simp [Array.getD_eq_getD_getElem?,h4]];simp only [asAddr,Sem.run_pure,Result.andThen_ok,qGA hr h1 h2 hb hrd,ih']
    ·simp at hv
   ·simp at h
def yXH:List Value->Nat->Env
 | [],_=>[]
 | v :: l,k=>(k,v) :: yXH l (k+1)
theorem yYW:∀{l:List Value} {k t:Nat} {v:Value},look (yXH l k) t=some v->k<=t/\l[t - k]? = some v:=by
 intro l
 induction l with
 | nil=>intro k t v h; simp [yXH,look] at h
 | cons x l ih=>
  intro k t v h;simp only [yXH,look] at h;split at h
  ·rename_i e; subst e; simp at h; subst h; simp
  ·obtain ⟨h1,h2⟩:=ih h;refine ⟨by omega,?_⟩;rw [show t - k=(t - (k+1))+1 by omega]
   simpa using h2
structure SF where
 n:Nat
 rs:List RS
 c:SC
def qY (P:Program)(fn:Func)(hs:List (List (Nat × List Nat))):Option SF:=
  if (fn.name == "runtime.NumGoroutine") = true then none else
 match fn.body with
 | none=>none
 | some c=>match rP P fn.ntmps c hs,qGE P fn.results.toList with
  | some (sc,[]),some rs=>some ⟨fn.ntmps,rs,sc⟩
  | _,_=>none
def xWV (rs:List RS)(R:Value->Fz->Hp->Prop):Post
 | .e _=>fun _ _ _=>False
 | _=>fun σ F M=>∃vs,qHX σ F M rs=some vs/\∃F' M',Wk F M F' M'/\R (wJH vs) F' M'
theorem qZ {P:Program}{f:FuncId}{fn:Func}{hs:List (List (Nat × List Nat))}{sf:SF}{args:List Value}{F:Fz}{M:Hp}{R:Value->Fz->Hp->Prop}
  (hm:P.follows .mixedOrders=true)(hf:P.funcs[f]? = some fn)(hsf:qY P fn hs=some sf)(hn:args.length<=sf.n)
  (h:W P sf.c (xWV sf.rs R) (yXH args 0) F M):aI P f args F M R:=by
 unfold qY at hsf;split at hsf
 ·simp at hsf
 ·rename_i hname;split at hsf
  ·simp at hsf
  ·rename_i c hb;split at hsf
   ·rename_i sc rs h1 h2;simp at hsf; subst hsf;refine aI.wk ⟨⟨fn,hf,by simpa using hname,by simp [hb]⟩,fun w hr=>?_⟩;have ha:Agree fn.ntmps (yXH args 0) { tmps:=args.toArray++Array.replicate (fn.ntmps - args.toArray.size) undef,defers:=[] }:=by
     refine ⟨by simp at hn ⊢; omega,rfl,fun t v ht=>?_⟩;obtain ⟨_,h3⟩:=yYW ht;have hlt:=(List.getElem?_eq_some_iff.1 h3).1;simp at h3 hlt;show (args.toArray++Array.replicate (fn.ntmps - args.toArray.size) undef)[t]? = some v;rw [Array.getElem?_append_left (by simpa using hlt)]
     simpa using h3
    have hw:=yXV hm h1 ha hr h;refine calls_of_wp hf hb (Code.wp_mono (fun e a w' hh=>?_) hw);cases e <;> simp only [qWH] at hh
    all_goals first | exact hh.elim | skip
    all_goals
     obtain ⟨σ',F',M',ha',hr',hfr,hret⟩:=hh;simp only [xWV] at hret
    all_goals
     obtain ⟨vs,hvs,F2,M2,hwk,hR⟩:=hret;have hrun:=wHY ha' hr' h2 hvs;refine ⟨ha'.defers,wJH vs,?_,wJH vs,F',M',rfl,hr',hfr,F2,M2,hwk,hR⟩;have e1:results fn a.tmps=(fun vs:Array Value=>if h:vs.size=1 then vs[0] else .tuple vs) <$> fn.results.mapM (jZY a):=by
      unfold results jZY;rfl
     rw [e1,Array.mapM_eq_mapM_toList];simp only [Sem.run_map];rw [hrun];simp only [Result.andThen_ok]
     congr 1
     match vs with
     | []=>simp [wJH]
     | [v]=>simp [wJH]
     | u :: v :: l=>simp [wJH]
   ·simp at hsf
end Go.Ax
namespace Go.Ax.N
open Go Go.Ax
abbrev t (n:Nat):Operand:=.tmp n
abbrev i (n:Int):Operand:=.const (.int .i64 n)
abbrev b (v:Bool):Operand:=.const (.bool v)
def o (d:Nat)(q:PK):SO:=⟨some d,none,.p q⟩
def og (d g:Nat)(w:Bool)(q:PK):SO:=⟨some d,some (g,w),.p q⟩
def k (d:Nat)(s:SK):SO:=⟨some d,none,s⟩
def kn (s:SK):SO:=⟨none,none,s⟩
abbrev m (d a:Nat):SO:=o d (.mv (t a))
abbrev f (d n a:Nat):SO:=o d (.fa n (t a))
abbrev l (d a:Nat):SO:=o d (.ld false 1 (t a))
abbrev L (d n a:Nat):SO:=o d (.ld true n (t a))
abbrev z (d a:Nat):SO:=o d (.ln (t a))
abbrev x (d n a c:Nat):SO:=o d (.ia n (t a) (t c))
abbrev w (d:Nat) (v:Int):SO:=o d (.mv (i v))
abbrev B (d:Nat) (v:Bool):SO:=o d (.mv (b v))
abbrev e (d a n:Nat):SO:=o d (.ex (t a) n)
abbrev q (d:Nat) (r:BinOp) (a:Nat) (v:Int):SO:=o d (.bin r (t a) (i v))
abbrev p (d:Nat) (r:BinOp) (a c:Nat):SO:=o d (.bin r (t a) (t c))
abbrev P (d a c:Nat):SO:=o d (.pick (t a) (t c) (b false))
abbrev R (d a c:Nat):SO:=o d (.pick (t a) (b true) (t c))
abbrev u (d a:Nat):SO:=o d (.un .not (t a))
abbrev gl (d g:Nat) (y:Bool) (a:Nat):SO:=og d g y (.ld false 1 (t a))
end Go.Ax.N
namespace Go.Ax
open Go
set_option linter.unusedVariables false
attribute [go_sem] Hp.qV not_false_eq_true
@[go_sem] theorem Hp.qK {M:Hp} {b k:Nat} {e:nH} (h:¬k=b):M.upd b e k=M k:=Hp.upd_ne h
theorem nX {M:Hp}{b r:Nat}{e:nH}:((M.upd b e) r=none)=(¬r=b/\M r=none):=by
 apply propext;by_cases h:r=b
 ·subst h; simp
 ·simp [Hp.upd_ne h,h]
@[go_sem] theorem wH {F:Fz} {M:Hp} {b:Nat} {e:nH}:blk F (M.upd b e) b=some e.cells:=by simp [blk]
@[go_sem] theorem iG {F:Fz} {M:Hp} {b k:Nat} {e:nH} (h:¬k=b):blk F (M.upd b e) k=blk F M k:=by simp [blk,Hp.upd_ne h]
theorem qG {F:Fz}{M:Hp}{b:Nat}{e:nH}(h:M b=some e):blk F M b=some e.cells:=by simp [blk,h]
theorem vDY {F:Fz}{M:Hp}{b:Nat}{c:List Value}(h:F b=some c)(hm:M b=none):blk F M b=some c:=by simp [blk,h,hm]
def setH (M:Hp)(b:Nat)(e:nH):Hp:=M.upd b e
@[go_sem] theorem vGD {M:Hp} {b:Nat} {x e:nH}:setH (M.upd b x) b e=M.upd b e:=Hp.wZ
@[go_sem] theorem gGZ {M:Hp} {b r:Nat} {x e:nH} (h:¬b=r):setH (M.upd r x) b e=(setH M b e).upd r x:=(Hp.qDQ (Ne.symm h))
section
variable (P:Program) (s:Bool) (d:Option Nat) (l:List SO) (K:Env->Fz->Hp->Prop) (σ:Env) (F:Fz) (M:Hp)
def oK (o:Option Value):Prop:=∃v,o=some v/\iD P s l K (put σ d v) F M
def stepW (k:SK):Prop:=iR P s d k (iD P s l K) σ F M
def gK (w:Bool)(k:SK)(o:Option Value):Prop:=∃u,o=some u/\(u=.bool w->stepW P s d l K σ F M k)/\(u≠.bool w->iD P s l K (put σ d undef) F M)
def mkR:Option Nat->Nat->Value
 | none,r=>.pointer (some ⟨r,0,none⟩)
 | some n,r=>.slice (some ⟨r,0,none⟩) n n
def nK (mk:Option Nat)(e:nH):Prop:=∀r,F r=none->M r=none->iD P s l K (put σ d (mkR mk r)) F (M.upd r e)
def bxK (e:Nat)(o:Option Value):Prop:=∃v,o=some v/\nK P s d l K σ F M none ⟨v.cells.toList,e,v.cells.toList.length⟩
def bsK (e len:Nat)(o:Option (List Value)):Prop:=∃cs,o=some cs/\nK P s d l K σ F M (some len) ⟨cs,e,cs.length⟩
def yGX (g:Nat)(args:List Value):Prop:=aI P g args F M fun v F' M'=>(s=true->Le F M F' M')/\iD P s l K (put σ d v) F' M'
def jZA (g:Nat)(args:List Value):Prop:=aI P g args F M fun v F' M'=>iD P s l K (put σ d v) F' M'
def xWH (g:Nat)(fi ca:Array Value)(o:Option (List Value)):Prop:=∃vs,o=some vs/\jZA P s d l K σ F M g (fi.toList++vs++ca.toList)
def cqK (args:List Operand)(o:Option Value):Prop:=∃g fi ca,o=some (.func (.func g) fi ca)/\xWH P s d l K σ F M g fi ca (evs σ args)
def xGE (fl:List Nat)(g:Nat)(args:List Value):Prop:=aI P g args F M fun v F' M'=>(∀t∈fl,∃u,look σ t=some u/\∀b o,u=.pointer (some ⟨b,o,none⟩)->blk F' M' b=blk F M b)/\iD P s l K (put σ d v) F' M'
def xWD (fl:List Nat)(g:Nat)(fi ca:Array Value)(o:Option (List Value)):Prop:=∃vs,o=some vs/\xGE P s d l K σ F M fl g (fi.toList++vs++ca.toList)
def cfK (fl:List Nat)(args:List Operand)(o:Option Value):Prop:=∃g fi ca,o=some (.func (.func g) fi ca)/\xWD P s d l K σ F M fl g fi ca (evs σ args)
def xWY (g:Nat)(fi ca:Array Value)(o:Option (List Value)):Prop:=∃vs,o=some vs/\yGX P s d l K σ F M g (fi.toList++vs++ca.toList)
def caK (args:List Operand)(o:Option Value):Prop:=∃g fi ca,o=some (.func (.func g) fi ca)/\xWY P s d l K σ F M g fi ca (evs σ args)
def jZB (M':Hp)(A:Prop):Prop:=A/\iD P s l K (put σ d undef) F M'
def jZC (fl:List Nat)(n b o:Nat)(v:Value)(oe:Option nH):Prop:=∃e,oe=some e/\
 jZB P s d l K σ F (setH M b ⟨e.cells.take o++v.cells.toList++e.cells.drop (o+n),e.elem,e.size⟩)
  (v.cells.size=n/\wQ v.cells.toList/\o+n<=e.cells.length/\∀t∈fl,∃u,look σ t=some u/\∀b' o',u=.pointer (some ⟨b',o',none⟩)->b'≠b)
def jZE (fl:List Nat)(n b o:Nat)(ov:Option Value):Prop:=∃v,ov=some v/\jZC P s d l K σ F M fl n b o v (M b)
def stK (fl:List Nat)(n:Nat)(x:Operand)(oa:Option Value):Prop:=∃b o,oa=some (.pointer (some ⟨b,o,none⟩))/\jZE P s d l K σ F M fl n b o (ev σ x)
def apK (e es bytes:Nat)(ox oy:Option Value):Prop:=∃v,ox=some v/\∃u,oy=some u/\∃n xs,Own M e es v n xs/\∃m ys,Src F M es u m ys/\wQ ys/\
   n+m<=maxLen/\(n+m) * bytes<=140737488355328/\∀v' M',yGQ F M e es v n m (xs++ys) v' M'->iD P s l K (put σ d v') F M'
def msK (e es bytes:Nat)(z:List Value)(ox oy:Option Value):Prop:=∃k n,ox=some (.int k (n:Nat))/\∃k' m,oy=some (.int k' (m:Nat))/\n<=m/\m<=maxLen/\m * bytes<=140737488355328/\
   ∀r,F r=none->M r=none->iD P s l K (put σ d (.slice (some ⟨r,0,none⟩) n m)) F (M.upd r ⟨(List.replicate m z).flatten,e,m * es⟩)
def gzK (e es bytes:Nat)(z:List Value)(ox on:Option Value):Prop:=∃k m,ox=some (.slice none 0 0)/\on=some (.int k (m:Nat))/\0 < m/\m<=maxLen/\m * bytes<=140737488355328/\
   ∀r cap,F r=none->M r=none->m<=cap->cap<=maxLen->iD P s l K (put σ d (.slice (some ⟨r,0,none⟩) m cap)) F (M.upd r ⟨(List.replicate m z).flatten,e,cap * es⟩)
def mmK:Prop:=∀r,F r=none->M r=none->F.mp r=none->iD P s l K (put σ d (.map (some r))) (F.nM r []) M
def mlK (z:Value)(ox oi:Option Value):Prop:=∃r m n,ox=some (.map (some r))/\oi=some (.int .i64 n)/\F.mp r=some m/\iD P s l K (put σ d (((qI m n 0).map (·.2)).getD z)) F M
def muK (ox oi ov:Option Value):Prop:=∃r m n v,ox=some (.map (some r))/\oi=some (.int .i64 n)/\ov=some v/\F.mp r=some m/\qI m n 0=none/\iD P s l K (put σ d undef) (F.nM r (m++[(n,v)])) M
def cpK (es:Nat)(ox oy:Option Value):Prop:=∃b o n c,ox=some (.slice (some ⟨b,o,none⟩) n c)/\∃u,oy=some u/\∃m ys,Src F M es u m ys/\wQ ys/\∃e,M b=some e/\
   o+n * es<=e.cells.length/\
   iD P s l K (put σ d (.int .i64 (min m n:Nat))) F (M.upd b ⟨e.cells.take o++ys.take (min m n * es)++e.cells.drop (o+min m n * es),e.elem,e.size⟩)
def clK (es:Nat)(z:List Value)(ox:Option Value):Prop:=∃a n c,ox=some (.slice a n c)/\wQ z/\z.length=es/\((n=0/\iD P s l K (put σ d (.tuple #[])) F M)\/(0 < n/\∃b o e,a=some ⟨b,o,none⟩/\M b=some e/\o+n * es<=e.cells.length/\
   iD P s l K (put σ d (.tuple #[])) F (M.upd b ⟨e.cells.take o++(List.replicate n z).flatten++e.cells.drop (o+n * es),e.elem,e.size⟩)))
end
section
variable {P:Program} {s:Bool} {d:Option Nat} {t:Nat} {l:List SO} {K:Env->Fz->Hp->Prop} {σ:Env} {F:Fz} {M:Hp}
@[go_sem] theorem w_nil:iD P s [] K σ F M=K σ F M:=rfl
@[go_sem] theorem w_o {q:PK}:iD P s (N.o t q :: l) K σ F M=oK P s (some t) l K σ F M (q.val σ F M):=rfl
@[go_sem] theorem w_og {q:PK} {g:Nat} {w:Bool}:iD P s (N.og t g w q :: l) K σ F M=gK P s (some t) l K σ F M w (.p q) (look σ g):=rfl
@[go_sem] theorem w_k {k:SK}:iD P s (N.k t k :: l) K σ F M=stepW P s (some t) l K σ F M k:=rfl
@[go_sem] theorem w_kn {k:SK}:iD P s (N.kn k :: l) K σ F M=stepW P s none l K σ F M k:=rfl
@[go_sem] theorem w_g {g:Nat} {w:Bool} {k:SK}:iD P s (⟨d,some (g,w),k⟩ :: l) K σ F M=gK P s d l K σ F M w k (look σ g):=rfl
@[go_sem] theorem w_n {k:SK}:iD P s (⟨none,none,k⟩ :: l) K σ F M=stepW P s none l K σ F M k:=rfl
@[go_sem] theorem gGJ {v:Value}:oK P s d l K σ F M (some v)=iD P s l K (put σ d v) F M:=by simp [oK]
@[go_sem] theorem gK_tt {k:SK}:gK P s d l K σ F M true k (some (.bool true))=stepW P s d l K σ F M k:=by simp [gK]
@[go_sem] theorem gK_ff {k:SK}:gK P s d l K σ F M false k (some (.bool false))=stepW P s d l K σ F M k:=by simp [gK]
@[go_sem] theorem gK_tf {k:SK}:gK P s d l K σ F M true k (some (.bool false))=iD P s l K (put σ d undef) F M:=by simp [gK]
@[go_sem] theorem gK_ft {k:SK}:gK P s d l K σ F M false k (some (.bool true))=iD P s l K (put σ d undef) F M:=by simp [gK]
theorem qZJ {w b:Bool}{k:SK}(h1:b=w->stepW P s d l K σ F M k)(h2:b=(!w)->iD P s l K (put σ d undef) F M):gK P s d l K σ F M w k (some (.bool b)):=
 ⟨_,rfl,fun h=>h1 (by simpa using h),fun h=>h2 (by cases b <;> cases w <;> simp_all)⟩
@[go_sem] theorem s_p {q:PK}:stepW P s d l K σ F M (.p q)=oK P s d l K σ F M (q.val σ F M):=rfl
@[go_sem] theorem s_al {e:Nat} {z:List Value}:stepW P s d l K σ F M (.al e z)=nK P s d l K σ F M none ⟨z,e,z.length⟩:=rfl
@[go_sem] theorem s_bx {e:Nat} {x:Operand}:stepW P s d l K σ F M (.bx e x)=bxK P s d l K σ F M e (ev σ x):=rfl
@[go_sem] theorem vDB {e:Nat} {v:Value}:bxK P s d l K σ F M e (some v)=nK P s d l K σ F M none ⟨v.cells.toList,e,v.cells.toList.length⟩:=by simp [bxK]
@[go_sem] theorem s_bs {e len:Nat} {z:List Value} {parts:List (Nat × Nat × Operand)}:stepW P s d l K σ F M (.bs e len z parts)=bsK P s d l K σ F M e len ((iW σ parts).bind fun ps=>zG z ps):=by
 apply propext;simp only [stepW,iR,bsK,nK,mkR];constructor
 ·rintro ⟨ps,h1,cs,h2,h3⟩; exact ⟨cs,by rw [h1]; exact h2,h3⟩
 ·rintro ⟨cs,h1,h3⟩;cases hp:iW σ parts with
  | none=>simp [hp] at h1
  | some ps=>exact ⟨ps,rfl,cs,by simpa [hp] using h1,h3⟩
@[go_sem] theorem vDC {e len:Nat} {cs:List Value}:bsK P s d l K σ F M e len (some cs)=nK P s d l K σ F M (some len) ⟨cs,e,cs.length⟩:=by simp [bsK]
@[go_sem] theorem s_ca {f:Operand} {args:List Operand}:stepW P s d l K σ F M (.ca f args)=caK P s d l K σ F M args (ev σ f):=rfl
@[go_sem] theorem vDE {args:List Operand} {g:Nat} {fi ca:Array Value}:caK P s d l K σ F M args (some (.func (.func g) fi ca))=xWY P s d l K σ F M g fi ca (evs σ args):=by
 apply propext; constructor
 ·rintro ⟨_,_,_,h,hk⟩; cases h; exact hk
 ·intro h; exact ⟨_,_,_,rfl,h⟩
@[go_sem] theorem vGY {g:Nat} {fi ca:Array Value} {vs:List Value}:xWY P s d l K σ F M g fi ca (some vs)=yGX P s d l K σ F M g (fi.toList++vs++ca.toList):=by simp [xWY]
@[go_sem] theorem s_cq {f:Operand} {args:List Operand}:stepW P s d l K σ F M (.cq f args)=cqK P s d l K σ F M args (ev σ f):=rfl
@[go_sem] theorem vDF {args:List Operand} {g:Nat} {fi ca:Array Value}:cqK P s d l K σ F M args (some (.func (.func g) fi ca))=xWH P s d l K σ F M g fi ca (evs σ args):=by
 apply propext; constructor
 ·rintro ⟨_,_,_,h,hk⟩; cases h; exact hk
 ·intro h; exact ⟨_,_,_,rfl,h⟩
@[go_sem] theorem vGA {g:Nat} {fi ca:Array Value} {vs:List Value}:xWH P s d l K σ F M g fi ca (some vs)=jZA P s d l K σ F M g (fi.toList++vs++ca.toList):=by simp [xWH]
@[go_sem] theorem s_cf {fl:List Nat} {f:Operand} {args:List Operand}:stepW P s d l K σ F M (.cf fl f args)=cfK P s d l K σ F M fl args (ev σ f):=rfl
@[go_sem] theorem vYQ {fl:List Nat} {args:List Operand} {g:Nat} {fi ca:Array Value}:cfK P s d l K σ F M fl args (some (.func (.func g) fi ca))=xWD P s d l K σ F M fl g fi ca (evs σ args):=by
 apply propext; constructor
 ·rintro ⟨_,_,_,h,hk⟩; cases h; exact hk
 ·intro h; exact ⟨_,_,_,rfl,h⟩
@[go_sem] theorem vGB {fl:List Nat} {g:Nat} {fi ca:Array Value} {vs:List Value}:xWD P s d l K σ F M fl g fi ca (some vs)=xGE P s d l K σ F M fl g (fi.toList++vs++ca.toList):=by simp [xWD]
theorem vW {g:Nat}{args:List Value}{R:Value->Fz->Hp->Prop}(h:aI P g args F M R)
  (hr:∀v F' M',R v F' M'->iD P s l K (put σ d v) F' M'):jZA P s d l K σ F M g args:=h.mono hr
@[go_sem] theorem s_st {fl:List Nat} {n:Nat} {a x:Operand}:stepW P s d l K σ F M (.st fl n a x)=stK P s d l K σ F M fl n x (ev σ a):=by
 apply propext;simp only [stepW,iR,stK,jZE,jZC,jZB,setH];constructor
 ·rintro ⟨b,o,h1,v,h2,e,h3,h4,h5,h6,h7,h8⟩; exact ⟨b,o,h1,v,h2,e,h3,⟨h4,h5,h6,h7⟩,h8⟩
 ·rintro ⟨b,o,h1,v,h2,e,h3,⟨h4,h5,h6,h7⟩,h8⟩; exact ⟨b,o,h1,v,h2,e,h3,h4,h5,h6,h7,h8⟩
@[go_sem] theorem vYW {fl:List Nat} {n b o:Nat} {x:Operand}:stK P s d l K σ F M fl n x (some (.pointer (some ⟨b,o,none⟩)))=jZE P s d l K σ F M fl n b o (ev σ x):=by
 apply propext; constructor
 ·rintro ⟨_,_,h,hk⟩; cases h; exact hk
 ·intro h; exact ⟨_,_,rfl,h⟩
@[go_sem] theorem vGC {fl:List Nat} {n b o:Nat} {v:Value}:jZE P s d l K σ F M fl n b o (some v)=jZC P s d l K σ F M fl n b o v (M b):=by simp [jZE]
@[go_sem] theorem vGE {fl:List Nat} {n b o:Nat} {v:Value} {e:nH}:jZC P s d l K σ F M fl n b o v (some e) =
  jZB P s d l K σ F (setH M b ⟨e.cells.take o++v.cells.toList++e.cells.drop (o+n),e.elem,e.size⟩)
  (v.cells.size=n/\wQ v.cells.toList/\o+n<=e.cells.length/\∀t∈fl,∃u,look σ t=some u/\∀b' o',u=.pointer (some ⟨b',o',none⟩)->b'≠b):=by simp [jZC]
@[go_sem] theorem vGF {M':Hp}:jZB P s d l K σ F M' True=iD P s l K (put σ d undef) F M':=by simp [jZB]
@[go_sem] theorem s_ap {e es bytes:Nat} {x y:Operand}:stepW P s d l K σ F M (.ap e es bytes x y)=apK P s d l K σ F M e es bytes (ev σ x) (ev σ y):=rfl
@[go_sem] theorem s_ms {e es bytes:Nat} {z:List Value} {x y:Operand}:stepW P s d l K σ F M (.ms e es bytes z x y)=msK P s d l K σ F M e es bytes z (ev σ x) (ev σ y):=rfl
@[go_sem] theorem s_cp {es:Nat} {x y:Operand}:stepW P s d l K σ F M (.cp es x y)=cpK P s d l K σ F M es (ev σ x) (ev σ y):=rfl
@[go_sem] theorem s_cl {es:Nat} {z:List Value} {x:Operand}:stepW P s d l K σ F M (.cl es z x)=clK P s d l K σ F M es z (ev σ x):=rfl
@[go_sem] theorem s_gz {e es bytes:Nat} {z:List Value} {x y:Operand}:stepW P s d l K σ F M (.gz e es bytes z x y)=gzK P s d l K σ F M e es bytes z (ev σ x) (ev σ y):=rfl
theorem xYE {e es bytes:Nat}{z:List Value}{k:IntKind}{m:Nat}(h0:0 < m)(h1:m<=maxLen)(h2:m * bytes<=140737488355328)
  (h3:∀r cap,F r=none->M r=none->m<=cap->cap<=maxLen->iD P s l K (put σ d (.slice (some ⟨r,0,none⟩) m cap)) F (M.upd r ⟨(List.replicate m z).flatten,e,cap * es⟩)) :
  gzK P s d l K σ F M e es bytes z (some (.slice none 0 0)) (some (.int k m)):=⟨k,m,rfl,rfl,h0,h1,h2,h3⟩
@[go_sem] theorem s_mm:stepW P s d l K σ F M .mm=mmK P s d l K σ F M:=rfl
@[go_sem] theorem s_ml {z:Value} {x i:Operand}:stepW P s d l K σ F M (.ml z x i)=mlK P s d l K σ F M z (ev σ x) (ev σ i):=rfl
@[go_sem] theorem s_mu {x i y:Operand}:stepW P s d l K σ F M (.mu x i y)=muK P s d l K σ F M (ev σ x) (ev σ i) (ev σ y):=rfl
theorem xYF {z:Value}{r:Nat}{m:List (Int × Value)}{n:Int}(h:F.mp r=some m)(hk:iD P s l K (put σ d (((qI m n 0).map (·.2)).getD z)) F M) :
  mlK P s d l K σ F M z (some (.map (some r))) (some (.int .i64 n)):=⟨r,m,n,rfl,rfl,h,hk⟩
theorem vQQ {r:Nat}{m:List (Int × Value)}{n:Int}{v:Value}(h:F.mp r=some m)(hn:qI m n 0=none)(hk:iD P s l K (put σ d undef) (F.nM r (m++[(n,v)])) M) :
  muK P s d l K σ F M (some (.map (some r))) (some (.int .i64 n)) (some v):=⟨r,m,n,v,rfl,rfl,rfl,h,hn,hk⟩
@[go_sem] theorem kQY {r k:Nat} {m:List (Int × Value)}:(F.nM r m).f k=F.f k:=rfl
@[go_sem] theorem yGZ {r:Nat} {m:List (Int × Value)}:(F.nM r m).mp r=some m:=by simp [Fz.nM]
@[go_sem] theorem yYX {r:Nat} {m m':List (Int × Value)}:(F.nM r m).nM r m'=F.nM r m':=by
 simp only [Fz.nM,Fz.mk.injEq,true_and]
 funext k
 split <;> rfl
@[go_sem] theorem vYX {r k:Nat} {m:List (Int × Value)}:blk (F.nM r m) M k=blk F M k:=rfl
@[go_sem] theorem vYZ {v:Value}:put σ (some t) v=(t,v) :: σ:=rfl
@[go_sem] theorem vYK {v:Value}:put σ none v=σ:=rfl
attribute [go_sem] mkR
theorem wJD {e es bytes:Nat}{v u:Value}{n m:Nat}{xs ys:List Value}(h3:Own M e es v n xs)(h4:Src F M es u m ys)(h5:wQ ys)
  (h6:n+m<=maxLen)(h7:(n+m) * bytes<=140737488355328)(h8:∀v' M',yGQ F M e es v n m (xs++ys) v' M'->iD P s l K (put σ d v') F M'):apK P s d l K σ F M e es bytes (some v) (some u):=
 ⟨v,rfl,u,rfl,n,xs,h3,m,ys,h4,h5,h6,h7,h8⟩
theorem rY {e es bytes:Nat}{z:List Value}{k k':IntKind}{n m:Nat}(h3:n<=m)(h4:m<=maxLen)(h5:m * bytes<=140737488355328)
  (h6:∀r,F r=none->M r=none->iD P s l K (put σ d (.slice (some ⟨r,0,none⟩) n m)) F (M.upd r ⟨(List.replicate m z).flatten,e,m * es⟩)) :
  msK P s d l K σ F M e es bytes z (some (.int k n)) (some (.int k' m)):=⟨k,n,rfl,k',m,rfl,h3,h4,h5,h6⟩
theorem wW {g:Nat}{args:List Value}{R:Value->Fz->Hp->Prop}(h:aI P g args F M R)
  (hr:∀v F' M',R v F' M'->(s=true->Le F M F' M')/\iD P s l K (put σ d v) F' M'):yGX P s d l K σ F M g args:=h.mono hr
theorem qQ {g:Nat}{args:List Value}{r:Value}(h:aI P g args F M fun v F' M'=>v=r/\F'=F/\M'=M)
  (hr:iD P s l K (put σ d r) F M):yGX P s d l K σ F M g args:=h.mono fun v F' M' ⟨h1,h2,h3⟩=>by subst h1; subst h2; subst h3; exact ⟨fun _=>Le.refl _ _,hr⟩
end
section
variable (P:Program) (a b:SC) (Q:Post) (σ:Env) (F:Fz) (M:Hp)
def zI (o:Option Value):Prop:=∃t,o=some (.bool t)/\(t=true->W P a Q σ F M)/\(t=false->W P b Q σ F M)
def lK (R:Value->Fz->Hp->Prop)(v:Value):Prop:=∃F' M',Wk F M F' M'/\R v F' M'
def xWA (R:Value->Fz->Hp->Prop)(o:Option (List Value)):Prop:=∃vs,o=some vs/\lK F M R (wJH vs)
end
section
variable {P:Program} {a b:SC} {Q:Post} {σ:Env} {F:Fz} {M:Hp}
@[go_sem] theorem kQA:W P .skip Q σ F M=Q .n σ F M:=rfl
@[go_sem] theorem W_ret:W P .ret Q σ F M=Q .r σ F M:=rfl
@[go_sem] theorem kQB {i:Nat}:W P (.exit i) Q σ F M=Q (.e i) σ F M:=rfl
@[go_sem] theorem W_ops {l:List SO}:W P (.ops l) Q σ F M=iD P false l (Q .n) σ F M:=rfl
@[go_sem] theorem W_opq {l:List SO}:W P (.opq l) Q σ F M=iD P false l (Q .n) σ F M:=rfl
@[go_sem] theorem W_opd {l:List SO}:W P (.zO l) Q σ F M=iD P true l (Q .n) σ F M:=rfl
@[go_sem] theorem vYJ:W P (.seq a b) Q σ F M=W P a (Post.andThen (W P b Q) Q) σ F M:=rfl
@[go_sem] theorem kQC {c:Operand}:W P (.cond c a b) Q σ F M=zI P a b Q σ F M (ev σ c):=rfl
@[go_sem] theorem gGG:zI P a b Q σ F M (some (.bool true))=W P a Q σ F M:=by simp [zI]
@[go_sem] theorem gGV:zI P a b Q σ F M (some (.bool false))=W P b Q σ F M:=by simp [zI]
theorem qZG {t:Bool}(h1:t=true->W P a Q σ F M)(h2:t=false->W P b Q σ F M):zI P a b Q σ F M (some (.bool t)):=⟨t,rfl,h1,h2⟩
@[go_sem] theorem gGH {i:Nat}:W P (.block i a) Q σ F M=W P a (Q.inBlock i) σ F M:=rfl
@[go_sem] theorem kQE {next:Env->Fz->Hp->Prop}:Post.andThen next Q .n σ F M=next σ F M:=rfl
@[go_sem] theorem kQF {next:Env->Fz->Hp->Prop}:Post.andThen next Q .r σ F M=Q .r σ F M:=rfl
@[go_sem] theorem kWQ {next:Env->Fz->Hp->Prop} {i:Nat}:Post.andThen next Q (.e i) σ F M=Q (.e i) σ F M:=rfl
@[go_sem] theorem vVQ {i:Nat}:Q.inBlock i .n σ F M=Q .n σ F M:=rfl
@[go_sem] theorem vVW {i:Nat}:Q.inBlock i .r σ F M=Q .r σ F M:=rfl
@[go_sem] theorem xWB {i:Nat}:Q.inBlock i (.e i) σ F M=Q .n σ F M:=by simp [Post.inBlock]
@[go_sem] theorem vQW {i j:Nat} (h:¬j=i):Q.inBlock i (.e j) σ F M=Q (.e j) σ F M:=by simp [Post.inBlock,h]
@[go_sem] theorem ret_r {rs:List RS} {R:Value->Fz->Hp->Prop}:xWV rs R .r σ F M=xWA F M R (qHX σ F M rs):=rfl
@[go_sem] theorem ret_n {rs:List RS} {R:Value->Fz->Hp->Prop}:xWV rs R .n σ F M=xWA F M R (qHX σ F M rs):=rfl
@[go_sem] theorem vVX {R:Value->Fz->Hp->Prop} {vs:List Value}:xWA F M R (some vs)=lK F M R (wJH vs):=by simp [xWA]
theorem iQ {c:SC}(I:Nat->Env->Fz->Hp->Prop)(n:Nat)(h0:I n σ F M)
  (h:∀n σ F M,I n σ F M->W P c (Post.andThen (fun σ F M=>∃m,m < n/\I m σ F M) Q) σ F M):W P (.loop c) Q σ F M:=⟨I,n,⟨F,M,Wk.refl F M,h0⟩,h⟩
theorem Wk.short {F:Fz}{M:Hp}{r:Nat}{e:nH}{c:List Value}(h:M r=some e)(hc:c <+: e.cells):Wk F M F (M.upd r ⟨c,e.elem,e.size⟩):=by
 refine ⟨fun w hw=>⟨hw.fz,fun b n hb=>?_,fun b hb=>?_,hw.mp⟩,fun _ h _=>h,fun b hb=>?_,fun _ h=>h⟩
 ·by_cases hbr:b=r
  ·subst hbr;rw [Hp.qV] at hb;cases hb;obtain ⟨cur,h1,h2,h3⟩:=hw.mu _ _ h;exact ⟨cur,h1,hc.trans h2,h3⟩
  ·rw [Hp.upd_ne hbr] at hb; exact hw.mu b n hb
 ·by_cases hbr:b=r
  ·subst hbr; exact hw.ap _ (by rw [h]; simp)
  ·rw [Hp.upd_ne hbr] at hb; exact hw.ap b hb
 ·by_cases hbr:b=r
  ·subst hbr; rw [h] at hb; cases hb
  ·rw [Hp.upd_ne hbr]; exact hb
end
@[go_sem] theorem vVZ {l:Env} {k:Nat} {v:Value}:look ((k,v) :: l) k=some v:=by simp [look]
@[go_sem] theorem gGD {l:Env} {k t:Nat} {v:Value} (h:¬k=t):look ((k,v) :: l) t=look l t:=by simp [look,h]
attribute [go_sem] ev evs iW yXH qHX wJH PK.val xQF unV fnV zG rd bY cZ
section
variable {F:Fz} {M:Hp} {R:Value->Fz->Hp->Prop} {v:Value}
theorem qW (h:R v F M):lK F M R v:=⟨F,M,Wk.refl F M,h⟩
theorem qH {r:Nat}{e:nH}(hm:M r=none)(h:lK F M R v):lK F (M.upd r e) R v:=by
 obtain ⟨F',M',h1,h2⟩:=h;exact ⟨F',M',(Wk.drop hm).trans h1,h2⟩
theorem wZQ {a b:Nat}{x y:nH}(hne:¬a=b)(h:lK F ((M.upd b y).upd a x) R v):lK F ((M.upd a x).upd b y) R v:=by
 rw [Hp.qDQ hne]; exact h
end
end Go.Ax
