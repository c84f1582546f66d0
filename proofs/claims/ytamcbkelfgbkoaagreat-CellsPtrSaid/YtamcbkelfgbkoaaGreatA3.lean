/- Parts A3: the machine's runs of small codes, contracts of functions, plain facts. -/
import Derived.KernelRfl
import Derived.Test.YtamcbkelfgbkoaaGreatA2
set_option linter.unusedSimpArgs false
namespace Go.Ax
open Go
inductive SC where
 | skip
 | ret
 | exit (i:Nat)
 | ops (l:List SO)
 | opd (l:List SO)
 | opq (l:List SO)
 | seq (a b:SC)
 | cond (c:Operand) (a b:SC)
 | block (i:Nat) (c:SC)
 | loop (c:SC)
 | bad
def slimD (P:Program)(n:Nat)(ops:Array Oper)(ord:List (Nat × List Nat)):Option (List (Nat × SO)):=
 ord.mapM fun i=>(ops[i.1]?).bind fun o=>(slimO P n ops o).map fun s=>(i.1,{ s with k:=s.k.withFl i.2 })
def slimC (P:Program)(n:Nat):Code→List (List (Nat × List Nat))→Option (SC × List (List (Nat × List Nat)))
 | .skip,hs=>some (.skip,hs)
 | .ret,hs=>some (.ret,hs)
 | .exit i,hs=>some (.exit i,hs)
 | .region _ ops false,hs=>match ops.toList.mapM (slimO P n ops) with
  | some l=>some (.ops l,hs)
  | none=>some (.bad,hs)
 | .region _ ops true,hs=>match hs with
  | []=>none
  | ord :: hs=>match slimD P n ops ord with
   | none=>none
   | some l=>if okD false ops l=true then some (.opq (l.map (·.2)),hs) else if okD true ops l=true then some (.opd (l.map (·.2)),hs) else none
 | .seq a b,hs=>match slimC P n a hs with
  | none=>none
  | some (x,hs)=>match slimC P n b hs with
   | none=>none
   | some (y,hs)=>some (.seq x y,hs)
 | .cond c a b,hs=>match slimC P n a hs with
  | none=>none
  | some (x,hs)=>match slimC P n b hs with
   | none=>none
   | some (y,hs)=>some (.cond c x y,hs)
 | .block i c,hs=>match slimC P n c hs with
  | none=>none
  | some (x,hs)=>some (.block i x,hs)
 | .loop c,hs=>match slimC P n c hs with
  | none=>none
  | some (x,hs)=>some (.loop x,hs)
 | _,_=>none
inductive Ex where
 | n | r | e (i:Nat)
abbrev Post:=Ex→Env→Fz→Hp→Prop
def Post.andThen (next:Env→Fz→Hp→Prop)(Q:Post):Post
 | .n=>next
 | x=>Q x
def Post.inBlock (i:Nat)(Q:Post):Post
 | .e j=>if j=i then Q .n else Q (.e j)
 | x=>Q x
def W (P:Program):SC→Post→Env→Fz→Hp→Prop
 | .bad,_=>fun _ _ _=>False
 | .skip,Q=>Q .n
 | .ret,Q=>Q .r
 | .exit i,Q=>Q (.e i)
 | .ops l,Q=>opsW P false l (Q .n)
 | .opd l,Q=>opsW P true l (Q .n)
 | .opq l,Q=>opsW P false l (Q .n)
 | .seq a b,Q=>W P a (Post.andThen (W P b Q) Q)
 | .cond c a b,Q=>fun σ F M=>∃t,ev σ c=some (.bool t)∧(t=true→W P a Q σ F M)∧(t=false→W P b Q σ F M)
 | .block i c,Q=>W P c (Q.inBlock i)
 | .loop c,Q=>fun σ F M=>∃(I:Nat→Env→Fz→Hp→Prop) (n:Nat),(∃F' M',Wk F M F' M'∧I n σ F' M')∧∀n σ F M,I n σ F M→W P c (Post.andThen (fun σ F M=>∃m,m < n∧I m σ F M) Q) σ F M
theorem W_mono {P:Program}:∀{c:SC} {Q Q':Post} {σ:Env} {F:Fz} {M:Hp},(∀x σ F M,Q x σ F M→Q' x σ F M)→W P c Q σ F M→W P c Q' σ F M:=by
 intro c
 induction c with
 | bad=>intro Q Q' σ F M h hh; exact hh.elim
 | skip=>intro Q Q' σ F M h hh; exact h _ _ _ _ hh
 | ret=>intro Q Q' σ F M h hh; exact h _ _ _ _ hh
 | exit i=>intro Q Q' σ F M h hh; exact h _ _ _ _ hh
 | ops l=>intro Q Q' σ F M h hh; exact opsW_mono (fun σ F M=>h .n σ F M) hh
 | opd l=>intro Q Q' σ F M h hh; exact opsW_mono (fun σ F M=>h .n σ F M) hh
 | opq l=>intro Q Q' σ F M h hh; exact opsW_mono (fun σ F M=>h .n σ F M) hh
 | seq a b iha ihb=>
  intro Q Q' σ F M h hh
  refine iha (fun x σ F M hx=>?_) hh
  cases x with
  | n=>exact ihb h hx
  | r=>exact h _ _ _ _ hx
  | e i=>exact h _ _ _ _ hx
 | cond c a b iha ihb=>
  intro Q Q' σ F M h hh
  obtain ⟨t,h1,h2,h3⟩:=hh
  exact ⟨t,h1,fun ht=>iha h (h2 ht),fun ht=>ihb h (h3 ht)⟩
 | block i c ih=>
  intro Q Q' σ F M h hh
  refine ih (fun x σ F M hx=>?_) hh
  cases x with
  | n=>exact h _ _ _ _ hx
  | r=>exact h _ _ _ _ hx
  | e j=>simp only [Post.inBlock] at hx ⊢; split <;> simp_all
 | loop c ih=>
  intro Q Q' σ F M h hh
  obtain ⟨I,n,h1,h2⟩:=hh
  refine ⟨I,n,h1,fun n σ F M hi=>ih (fun x σ F M hx=>?_) (h2 n σ F M hi)⟩
  cases x with
  | n=>exact hx
  | r=>exact h _ _ _ _ hx
  | e j=>exact h _ _ _ _ hx
def PostC (n:Nat)(Q:Post)(F0:Fz)(M0:Hp)(w0:World):Exit→Act→World→Prop
 | .normal,a,w=>St n (Q .n) F0 M0 w0 a w
 | .ret,a,w=>St n (Q .r) F0 M0 w0 a w
 | .exit i,a,w=>St n (Q (.e i)) F0 M0 w0 a w
 | _,_,_=>False
theorem PostC.trans {n:Nat}{Q:Post}{F0 F1:Fz}{M0 M1:Hp}{w0 w1:World}(h:Fr F0 M0 w0 F1 M1 w1):∀e a w,PostC n Q F1 M1 w1 e a w→PostC n Q F0 M0 w0 e a w:=by
 intro e a w hh
 cases e <;> simp only [PostC] at hh ⊢
 all_goals first | exact hh | (obtain ⟨σ,F,M,h1,h2,h3,h4⟩:=hh; exact ⟨σ,F,M,h1,h2,h.trans h3,h4⟩)
theorem slimD_spec {P:Program}{n:Nat}{ops:Array Oper}:∀{ord:List (Nat × List Nat)} {l:List (Nat × SO)},slimD P n ops ord=some l→∀p∈l,∃o so fl,ops[p.1]? = some o∧slimO P n ops o=some so∧p.2 = { so with k:=so.k.withFl fl }:=by
 intro ord
 induction ord with
 | nil=>intro l h; simp [slimD] at h; subst h; simp
 | cons i ord ih=>
  intro l h
  simp only [slimD,List.mapM_cons,Option.bind_eq_bind,Option.pure_def] at h
  cases ho:ops[i.1]? with
  | none=>simp [ho] at h
  | some o=>
   cases hs:slimO P n ops o with
   | none=>simp [ho,hs] at h
   | some s=>
    cases hr:slimD P n ops ord with
    | none=>simp only [slimD] at hr; simp [ho,hs,hr] at h
    | some r=>
     have hr':=hr
     simp only [slimD] at hr
     simp [ho,hs,hr] at h
     subst h
     intro p hp
     rcases List.mem_cons.1 hp with rfl | hp
     ·exact ⟨o,s,i.2,ho,hs,rfl⟩
     ·exact ih hr' p hp
theorem wf_min {p:Nat→Prop}(h:∃m,p m):∃m,p m∧∀k,p k→m≤k:=by
 obtain ⟨m,hm⟩:=h
 induction m using Nat.strongRecOn with
 | _ m ih=>
  by_cases hh:∃k,k < m∧p k
  ·obtain ⟨k,hk,hp⟩:=hh; exact ih k hk hp
  ·exact ⟨m,hm,fun k hk=>Nat.le_of_not_lt fun hlt=>hh ⟨k,hlt,hk⟩⟩
theorem code_sound {P:Program}{n:Nat}(hm:P.follows .mixedOrders=true):∀{c:Code} {sc:SC} {hs hs':List (List (Nat × List Nat))},slimC P n c hs=some (sc,hs')→
  ∀{Q:Post} {σ:Env} {F:Fz} {M:Hp} {a:Act} {w:World},Agree n σ a→Rel F M w→W P sc Q σ F M→c.wp P (PostC n Q F M w) a w:=by
 intro c
 induction c with
 | skip=>intro sc hs hs' h Q σ F M a w ha hr hw; simp [slimC] at h; obtain ⟨rfl,rfl⟩:=h; exact wp_skip ⟨σ,F,M,ha,hr,Fr.refl _ _ _,hw⟩
 | ret=>intro sc hs hs' h Q σ F M a w ha hr hw; simp [slimC] at h; obtain ⟨rfl,rfl⟩:=h; exact wp_ret ⟨σ,F,M,ha,hr,Fr.refl _ _ _,hw⟩
 | exit i=>intro sc hs hs' h Q σ F M a w ha hr hw; simp [slimC] at h; obtain ⟨rfl,rfl⟩:=h; exact wp_exit ⟨σ,F,M,ha,hr,Fr.refl _ _ _,hw⟩
 | region id ops draw=>
  intro sc hs hs' h Q σ F M a w ha hr hw
  cases draw with
  | false=>
   simp only [slimC] at h
   cases hl:ops.toList.mapM (slimO P n ops) with
   | none=>simp [hl] at h; obtain ⟨rfl,rfl⟩:=h; exact hw.elim
   | some l=>
    simp [hl] at h; obtain ⟨rfl,rfl⟩:=h
    exact wp_region_list (ops_sound (K:=Q .n) (F0:=F) (M0:=M) (w0:=w) (fun a w h=>h) hl ha hr (Fr.refl _ _ _) hw)
  | true=>
   simp only [slimC] at h
   cases hs with
   | nil=>simp at h
   | cons ord hs=>
    cases hl:slimD P n ops ord with
    | none=>simp [hl] at h
    | some l=>
     simp only [hl] at h
     split at h
     ·rename_i hok
      cases h
      exact region_any (s:=false) hm (fun a w h=>h) (slimD_spec hl) hok ha hr hw
     ·split at h
      ·rename_i hok
       cases h
       exact region_any (s:=true) hm (fun a w h=>h) (slimD_spec hl) hok ha hr hw
      ·cases h
 | seq x y ihx ihy=>
  intro sc hs hs' h Q σ F M a w ha hr hw
  simp only [slimC] at h
  split at h
  ·simp at h
  ·rename_i sx hs1 h1
   split at h
   ·simp at h
   ·rename_i sy hs2 h2
    simp at h; obtain ⟨rfl,rfl⟩:=h
    refine wp_seq (Code.wp_mono (fun e a w hh=>?_) (ihx h1 ha hr hw))
    cases e <;> simp only [PostC,Exit.then] at hh ⊢
    case normal=>
     obtain ⟨σ',F',M',ha',hr',hf',hw'⟩:=hh
     exact Code.wp_mono (PostC.trans hf') (ihy h2 ha' hr' hw')
    all_goals exact hh
 | cond c x y ihx ihy=>
  intro sc hs hs' h Q σ F M a w ha hr hw
  simp only [slimC] at h
  split at h
  ·simp at h
  ·rename_i sx hs1 h1
   split at h
   ·simp at h
   ·rename_i sy hs2 h2
    simp at h; obtain ⟨rfl,rfl⟩:=h
    obtain ⟨t,hc,ht,hf⟩:=hw
    exact wp_cond_split (ha.ev hc) (fun e=>ihx h1 ha hr (ht e)) (fun e=>ihy h2 ha hr (hf e))
 | block i c ih=>
  intro sc hs hs' h Q σ F M a w ha hr hw
  simp only [slimC] at h
  split at h
  ·simp at h
  ·rename_i sx hs1 h1
   simp at h; obtain ⟨rfl,rfl⟩:=h
   refine wp_block (Code.wp_mono (fun e a w hh=>?_) (ih h1 ha hr hw))
   cases e <;> simp only [PostC,Exit.inBlock] at hh ⊢
   case exit j=>
    simp only [Post.inBlock] at hh
    split <;> simp_all
   all_goals exact hh
 | loop c ih=>
  intro sc hs hs' h Q σ F M a w ha hr hw
  simp only [slimC] at h
  split at h
  ·simp at h
  ·rename_i sx hs1 h1
   simp at h; obtain ⟨rfl,rfl⟩:=h
   obtain ⟨I,k,⟨F1,M1,hwk,hi⟩,hrd⟩:=hw
   let J:Nat→Act→World→Prop:=fun m a' w'=>∃σ' F' M',Agree n σ' a'∧Rel F' M' w'∧Fr F M w F' M' w'∧I m σ' F' M'
   classical
   refine wp_loop (fun a' w'=>∃m,J m a' w') (fun a' w'=>if h:∃m,J m a' w' then Classical.choose (wf_min h) else 0) ⟨k,σ,F1,M1,ha,hwk.rel _ hr,⟨rfl,⟨rfl,Nat.le_refl _⟩,rfl,Nat.le_refl _,fun b hb hm hp=>⟨rfl,hwk.domM b hm,hwk.domP b hp,fun hf=>hwk.domF b hf hm⟩⟩,hi⟩ ?_
   intro a' w' hJ
   have hmin:=Classical.choose_spec (wf_min hJ)
   rw [dif_pos hJ]
   obtain ⟨⟨σ',F',M',ha',hr',hf',hi'⟩,hleast⟩:=hmin
   refine Code.wp_mono (fun e a2 w2 hh=>?_) (ih h1 ha' hr' (hrd _ σ' F' M' hi'))
   cases e <;> simp only [PostC,Exit.then] at hh ⊢
   case normal=>
    obtain ⟨σ2,F2,M2,ha2,hr2,hf2,m,hlt,hi2⟩:=hh
    have hJ2:∃m,J m a2 w2:=⟨m,σ2,F2,M2,ha2,hr2,hf'.trans hf2,hi2⟩
    refine ⟨hJ2,?_⟩
    rw [dif_pos hJ2]
    exact Nat.lt_of_le_of_lt ((Classical.choose_spec (wf_min hJ2)).2 m ⟨σ2,F2,M2,ha2,hr2,hf'.trans hf2,hi2⟩) hlt
   all_goals first | exact hh.elim | (obtain ⟨σ2,F2,M2,g1,g2,g3,g4⟩:=hh; exact ⟨σ2,F2,M2,g1,g2,hf'.trans g3,g4⟩)
 | _=>intro sc hs hs' h; simp [slimC] at h
inductive RS where
 | t (t:Nat)
 | c (agg:Bool) (n a:Nat)
def slimR (P:Program):List ResultVar→Option (List RS)
 | []=>some []
 | .tmp t :: l=>(slimR P l).map fun r=>.t t :: r
 | .cell a ty :: l=>match aggT P ty,sizeT P ty,slimR P l with
  | some b,some n,some r=>some (.c b n a :: r)
  | _,_,_=>none
def retL (σ:Env)(F:Fz)(M:Hp):List RS→Option (List Value)
 | []=>some []
 | .t t :: l=>(look σ t).bind fun v=>(retL σ F M l).map fun vs=>v :: vs
 | .c b n a :: l=>match look σ a with
  | some (.pointer (some ⟨g,o,none⟩))=>(blk F M g).bind fun c=>(rd b n c o).bind fun v=>(retL σ F M l).map fun vs=>v :: vs
  | _=>none
def retV:List Value→Value
 | [v]=>v
 | vs=>.tuple vs.toArray
def resF (a:Act):ResultVar→Sem Value
 | .tmp t=>pure (a.tmps.getD t undef)
 | .cell c t=>do loadVar t (←asAddr (a.tmps.getD c undef))
theorem results_run {P:Program}{n:Nat}{σ:Env}{F:Fz}{M:Hp}{a:Act}{w:World}(ha:Agree n σ a)(hr:Rel F M w) :
  ∀{l:List ResultVar} {rs:List RS} {vs:List Value},slimR P l=some rs→retL σ F M rs=some vs→
   (l.mapM (resF a)).run P w=.ok vs w:=by
 intro l
 induction l with
 | nil=>intro rs vs h hv; simp [slimR] at h; subst h; simp [retL] at hv; subst hv; simp
 | cons x l ih=>
  intro rs vs h hv
  cases x with
  | tmp t=>
   simp only [slimR] at h
   cases hl:slimR P l with
   | none=>simp [hl] at h
   | some r=>
    simp [hl] at h; subst h
    simp only [retL] at hv
    cases ht:look σ t with
    | none=>simp [ht] at hv
    | some v=>
     cases hvs:retL σ F M r with
     | none=>simp [ht,hvs] at hv
     | some us=>
      simp [ht,hvs] at hv; subst hv
      have:=ha.get t v ht
      have ih':=ih hl hvs
      simp only [List.mapM_cons,resF,Sem.run_bind,Sem.run_pure,Result.andThen_ok]
      rw [ih']
      simp [Array.getD_eq_getD_getElem?,this]
  | cell c t=>
   simp only [slimR] at h
   split at h
   ·rename_i b m r h1 h2 h3
    simp at h; subst h
    simp only [retL] at hv
    split at hv
    ·rename_i g o hlk
     cases hb:blk F M g with
     | none=>simp [hb] at hv
     | some cs=>
      cases hrd:rd b m cs o with
      | none=>simp [hb,hrd] at hv
      | some v=>
       cases hvs:retL σ F M r with
       | none=>simp [hb,hvs] at hv
       | some us=>
        simp [hb,hrd,hvs] at hv; subst hv
        have h4:=ha.get c _ hlk
        have ih':=ih h3 hvs
        simp only [List.mapM_cons,resF,Sem.run_bind]
        rw [show a.tmps.getD c undef=.pointer (some ⟨g,o,none⟩) by simp [Array.getD_eq_getD_getElem?,h4]]
        simp only [asAddr,Sem.run_pure,Result.andThen_ok,run_loadVar hr h1 h2 hb hrd,ih']
    ·simp at hv
   ·simp at h
def env0:List Value→Nat→Env
 | [],_=>[]
 | v :: l,k=>(k,v) :: env0 l (k+1)
theorem look_env0:∀{l:List Value} {k t:Nat} {v:Value},look (env0 l k) t=some v→k≤t∧l[t - k]? = some v:=by
 intro l
 induction l with
 | nil=>intro k t v h; simp [env0,look] at h
 | cons x l ih=>
  intro k t v h
  simp only [env0,look] at h
  split at h
  ·rename_i e; subst e; simp at h; subst h; simp
  ·obtain ⟨h1,h2⟩:=ih h
   refine ⟨by omega,?_⟩
   rw [show t - k=(t - (k+1))+1 by omega]
   simpa using h2
structure SF where
 n:Nat
 rs:List RS
 c:SC
def qD (P:Program)(fn:Func)(hs:List (List (Nat × List Nat))):Option SF:=
  if (fn.name == "runtime.NumGoroutine") = true then none else
 match fn.body with
 | none=>none
 | some c=>match slimC P fn.ntmps c hs,slimR P fn.results.toList with
  | some (sc,[]),some rs=>some ⟨fn.ntmps,rs,sc⟩
  | _,_=>none
def RetP (rs:List RS)(R:Value→Fz→Hp→Prop):Post
 | .e _=>fun _ _ _=>False
 | _=>fun σ F M=>∃vs,retL σ F M rs=some vs∧∃F' M',Wk F M F' M'∧R (retV vs) F' M'
theorem qZ {P:Program}{f:FuncId}{fn:Func}{hs:List (List (Nat × List Nat))}{sf:SF}{args:List Value}{F:Fz}{M:Hp}{R:Value→Fz→Hp→Prop}
  (hm:P.follows .mixedOrders=true)(hf:P.funcs[f]? = some fn)(hsf:qD P fn hs=some sf)(hn:args.length≤sf.n)
  (h:W P sf.c (RetP sf.rs R) (env0 args 0) F M):CallsA P f args F M R:=by
 unfold qD at hsf
 split at hsf
 ·simp at hsf
 ·rename_i hname
  split at hsf
  ·simp at hsf
  ·rename_i c hb
   split at hsf
   ·rename_i sc rs h1 h2
    simp at hsf; subst hsf
    refine CallsA.wk ⟨⟨fn,hf,by simpa using hname,by simp [hb]⟩,fun w hr=>?_⟩
    have ha:Agree fn.ntmps (env0 args 0) { tmps:=args.toArray++Array.replicate (fn.ntmps - args.toArray.size) undef,defers:=[] }:=by
     refine ⟨by simp at hn ⊢; omega,rfl,fun t v ht=>?_⟩
     obtain ⟨_,h3⟩:=look_env0 ht
     have hlt:=(List.getElem?_eq_some_iff.1 h3).1
     simp at h3 hlt
     show (args.toArray++Array.replicate (fn.ntmps - args.toArray.size) undef)[t]? = some v
     rw [Array.getElem?_append_left (by simpa using hlt)]
     simpa using h3
    have hw:=code_sound hm h1 ha hr h
    refine calls_of_wp hf hb (Code.wp_mono (fun e a w' hh=>?_) hw)
    cases e <;> simp only [PostC] at hh
    all_goals first | exact hh.elim | skip
    all_goals
     obtain ⟨σ',F',M',ha',hr',hfr,hret⟩:=hh
     simp only [RetP] at hret
    all_goals
     obtain ⟨vs,hvs,F2,M2,hwk,hR⟩:=hret
     have hrun:=results_run ha' hr' h2 hvs
     refine ⟨ha'.defers,retV vs,?_,retV vs,F',M',rfl,hr',hfr,F2,M2,hwk,hR⟩
     have e1:results fn a.tmps=(fun vs:Array Value=>if h:vs.size=1 then vs[0] else .tuple vs) <$> fn.results.mapM (resF a):=by
      unfold results resF
      rfl
     rw [e1,Array.mapM_eq_mapM_toList]
     simp only [Sem.run_map]
     rw [hrun]
     simp only [Result.andThen_ok]
     congr 1
     match vs with
     | []=>simp [retV]
     | [v]=>simp [retV]
     | u :: v :: l=>simp [retV]
   ·simp at hsf
end Go.Ax
namespace Go.Ax.N
open Go Go.Ax
abbrev t (n:Nat):Operand:=.tmp n
abbrev i (n:Int):Operand:=.const (.int .i64 n)
abbrev b (v:Bool):Operand:=.const (.bool v)
def o (d:Nat)(q:PK):SO:=⟨some d,none,.p q⟩
def og (d g:Nat)(w:Bool)(q:PK):SO:=⟨some d,some (g,w),.p q⟩
def k (d:Nat)(s:SK):SO:=⟨some d,none,s⟩
def kn (s:SK):SO:=⟨none,none,s⟩
abbrev m (d a:Nat):SO:=o d (.mv (t a))
abbrev f (d n a:Nat):SO:=o d (.fa n (t a))
abbrev l (d a:Nat):SO:=o d (.ld false 1 (t a))
abbrev L (d n a:Nat):SO:=o d (.ld true n (t a))
abbrev z (d a:Nat):SO:=o d (.ln (t a))
abbrev x (d n a c:Nat):SO:=o d (.ia n (t a) (t c))
abbrev w (d:Nat) (v:Int):SO:=o d (.mv (i v))
abbrev B (d:Nat) (v:Bool):SO:=o d (.mv (b v))
abbrev e (d a n:Nat):SO:=o d (.ex (t a) n)
abbrev q (d:Nat) (r:BinOp) (a:Nat) (v:Int):SO:=o d (.bin r (t a) (i v))
abbrev p (d:Nat) (r:BinOp) (a c:Nat):SO:=o d (.bin r (t a) (t c))
abbrev P (d a c:Nat):SO:=o d (.pick (t a) (t c) (b false))
abbrev R (d a c:Nat):SO:=o d (.pick (t a) (b true) (t c))
abbrev u (d a:Nat):SO:=o d (.un .not (t a))
abbrev gl (d g:Nat) (y:Bool) (a:Nat):SO:=og d g y (.ld false 1 (t a))
end Go.Ax.N
namespace Go.Ax
open Go
set_option linter.unusedVariables false
attribute [go_sem] Hp.qJ not_false_eq_true
@[go_sem] theorem Hp.qK {M:Hp} {b k:Nat} {e:Ent} (h:¬k=b):M.upd b e k=M k:=Hp.upd_ne h
theorem upd_none {M:Hp}{b r:Nat}{e:Ent}:((M.upd b e) r=none)=(¬r=b∧M r=none):=by
 apply propext
 by_cases h:r=b
 ·subst h; simp
 ·simp [Hp.upd_ne h,h]
@[go_sem] theorem wY {F:Fz} {M:Hp} {b:Nat} {e:Ent}:blk F (M.upd b e) b=some e.cells:=by simp [blk]
@[go_sem] theorem blk_upd_ne {F:Fz} {M:Hp} {b k:Nat} {e:Ent} (h:¬k=b):blk F (M.upd b e) k=blk F M k:=by simp [blk,Hp.upd_ne h]
theorem qG {F:Fz}{M:Hp}{b:Nat}{e:Ent}(h:M b=some e):blk F M b=some e.cells:=by simp [blk,h]
theorem blk_F {F:Fz}{M:Hp}{b:Nat}{c:List Value}(h:F b=some c)(hm:M b=none):blk F M b=some c:=by simp [blk,h,hm]
def setH (M:Hp)(b:Nat)(e:Ent):Hp:=M.upd b e
@[go_sem] theorem setH_same {M:Hp} {b:Nat} {x e:Ent}:setH (M.upd b x) b e=M.upd b e:=Hp.wG
@[go_sem] theorem setH_ne {M:Hp} {b r:Nat} {x e:Ent} (h:¬b=r):setH (M.upd r x) b e=(setH M b e).upd r x:=(Hp.upd_comm (Ne.symm h))
section
variable (P:Program) (s:Bool) (d:Option Nat) (l:List SO) (K:Env→Fz→Hp→Prop) (σ:Env) (F:Fz) (M:Hp)
def oK (o:Option Value):Prop:=∃v,o=some v∧opsW P s l K (put σ d v) F M
def stepW (k:SK):Prop:=stepK P s d k (opsW P s l K) σ F M
def gK (w:Bool)(k:SK)(o:Option Value):Prop:=∃u,o=some u∧(u=.bool w→stepW P s d l K σ F M k)∧(u≠.bool w→opsW P s l K (put σ d undef) F M)
def mkR:Option Nat→Nat→Value
 | none,r=>.pointer (some ⟨r,0,none⟩)
 | some n,r=>.slice (some ⟨r,0,none⟩) n n
def nK (mk:Option Nat)(e:Ent):Prop:=∀r,F r=none→M r=none→opsW P s l K (put σ d (mkR mk r)) F (M.upd r e)
def bxK (e:Nat)(o:Option Value):Prop:=∃v,o=some v∧nK P s d l K σ F M none ⟨v.cells.toList,e,v.cells.toList.length⟩
def bsK (e len:Nat)(o:Option (List Value)):Prop:=∃cs,o=some cs∧nK P s d l K σ F M (some len) ⟨cs,e,cs.length⟩
def callK (g:Nat)(args:List Value):Prop:=CallsA P g args F M fun v F' M'=>(s=true→Le F M F' M')∧opsW P s l K (put σ d v) F' M'
def callQ (g:Nat)(args:List Value):Prop:=CallsA P g args F M fun v F' M'=>opsW P s l K (put σ d v) F' M'
def cqK2 (g:Nat)(fi ca:Array Value)(o:Option (List Value)):Prop:=∃vs,o=some vs∧callQ P s d l K σ F M g (fi.toList++vs++ca.toList)
def cqK (args:List Operand)(o:Option Value):Prop:=∃g fi ca,o=some (.func (.func g) fi ca)∧cqK2 P s d l K σ F M g fi ca (evs σ args)
def callF (fl:List Nat)(g:Nat)(args:List Value):Prop:=CallsA P g args F M fun v F' M'=>(∀t∈fl,∃u,look σ t=some u∧∀b o,u=.pointer (some ⟨b,o,none⟩)→blk F' M' b=blk F M b)∧opsW P s l K (put σ d v) F' M'
def cfK2 (fl:List Nat)(g:Nat)(fi ca:Array Value)(o:Option (List Value)):Prop:=∃vs,o=some vs∧callF P s d l K σ F M fl g (fi.toList++vs++ca.toList)
def cfK (fl:List Nat)(args:List Operand)(o:Option Value):Prop:=∃g fi ca,o=some (.func (.func g) fi ca)∧cfK2 P s d l K σ F M fl g fi ca (evs σ args)
def caK2 (g:Nat)(fi ca:Array Value)(o:Option (List Value)):Prop:=∃vs,o=some vs∧callK P s d l K σ F M g (fi.toList++vs++ca.toList)
def caK (args:List Operand)(o:Option Value):Prop:=∃g fi ca,o=some (.func (.func g) fi ca)∧caK2 P s d l K σ F M g fi ca (evs σ args)
def stK4 (M':Hp)(A:Prop):Prop:=A∧opsW P s l K (put σ d undef) F M'
def stK3 (fl:List Nat)(n b o:Nat)(v:Value)(oe:Option Ent):Prop:=∃e,oe=some e∧
 stK4 P s d l K σ F (setH M b ⟨e.cells.take o++v.cells.toList++e.cells.drop (o+n),e.elem,e.size⟩)
  (v.cells.size=n∧wZ v.cells.toList∧o+n≤e.cells.length∧∀t∈fl,∃u,look σ t=some u∧∀b' o',u=.pointer (some ⟨b',o',none⟩)→b'≠b)
def stK2 (fl:List Nat)(n b o:Nat)(ov:Option Value):Prop:=∃v,ov=some v∧stK3 P s d l K σ F M fl n b o v (M b)
def stK (fl:List Nat)(n:Nat)(x:Operand)(oa:Option Value):Prop:=∃b o,oa=some (.pointer (some ⟨b,o,none⟩))∧stK2 P s d l K σ F M fl n b o (ev σ x)
def apK (e es bytes:Nat)(ox oy:Option Value):Prop:=∃v,ox=some v∧∃u,oy=some u∧∃n xs,Own M e es v n xs∧∃m ys,Src F M es u m ys∧wZ ys∧
   n+m≤maxLen∧(n+m) * bytes≤140737488355328∧∀v' M',ApRes F M e es v n m (xs++ys) v' M'→opsW P s l K (put σ d v') F M'
def msK (e es bytes:Nat)(z:List Value)(ox oy:Option Value):Prop:=∃k n,ox=some (.int k (n:Nat))∧∃k' m,oy=some (.int k' (m:Nat))∧n≤m∧m≤maxLen∧m * bytes≤140737488355328∧
   ∀r,F r=none→M r=none→opsW P s l K (put σ d (.slice (some ⟨r,0,none⟩) n m)) F (M.upd r ⟨(List.replicate m z).flatten,e,m * es⟩)
def gzK (e es bytes:Nat)(z:List Value)(ox on:Option Value):Prop:=∃k m,ox=some (.slice none 0 0)∧on=some (.int k (m:Nat))∧0 < m∧m≤maxLen∧m * bytes≤140737488355328∧
   ∀r cap,F r=none→M r=none→m≤cap→cap≤maxLen→opsW P s l K (put σ d (.slice (some ⟨r,0,none⟩) m cap)) F (M.upd r ⟨(List.replicate m z).flatten,e,cap * es⟩)
def mmK:Prop:=∀r,F r=none→M r=none→F.mp r=none→opsW P s l K (put σ d (.map (some r))) (F.setM r []) M
def mlK (z:Value)(ox oi:Option Value):Prop:=∃r m n,ox=some (.map (some r))∧oi=some (.int .i64 n)∧F.mp r=some m∧opsW P s l K (put σ d (((lookM m n 0).map (·.2)).getD z)) F M
def muK (ox oi ov:Option Value):Prop:=∃r m n v,ox=some (.map (some r))∧oi=some (.int .i64 n)∧ov=some v∧F.mp r=some m∧lookM m n 0=none∧opsW P s l K (put σ d undef) (F.setM r (m++[(n,v)])) M
def cpK (es:Nat)(ox oy:Option Value):Prop:=∃b o n c,ox=some (.slice (some ⟨b,o,none⟩) n c)∧∃u,oy=some u∧∃m ys,Src F M es u m ys∧wZ ys∧∃e,M b=some e∧
   o+n * es≤e.cells.length∧
   opsW P s l K (put σ d (.int .i64 (min m n:Nat))) F (M.upd b ⟨e.cells.take o++ys.take (min m n * es)++e.cells.drop (o+min m n * es),e.elem,e.size⟩)
def clK (es:Nat)(z:List Value)(ox:Option Value):Prop:=∃a n c,ox=some (.slice a n c)∧wZ z∧z.length=es∧((n=0∧opsW P s l K (put σ d (.tuple #[])) F M)∨(0 < n∧∃b o e,a=some ⟨b,o,none⟩∧M b=some e∧o+n * es≤e.cells.length∧
   opsW P s l K (put σ d (.tuple #[])) F (M.upd b ⟨e.cells.take o++(List.replicate n z).flatten++e.cells.drop (o+n * es),e.elem,e.size⟩)))
end
section
variable {P:Program} {s:Bool} {d:Option Nat} {t:Nat} {l:List SO} {K:Env→Fz→Hp→Prop} {σ:Env} {F:Fz} {M:Hp}
@[go_sem] theorem w_nil:opsW P s [] K σ F M=K σ F M:=rfl
@[go_sem] theorem w_o {q:PK}:opsW P s (N.o t q :: l) K σ F M=oK P s (some t) l K σ F M (q.val σ F M):=rfl
@[go_sem] theorem w_og {q:PK} {g:Nat} {w:Bool}:opsW P s (N.og t g w q :: l) K σ F M=gK P s (some t) l K σ F M w (.p q) (look σ g):=rfl
@[go_sem] theorem w_k {k:SK}:opsW P s (N.k t k :: l) K σ F M=stepW P s (some t) l K σ F M k:=rfl
@[go_sem] theorem w_kn {k:SK}:opsW P s (N.kn k :: l) K σ F M=stepW P s none l K σ F M k:=rfl
@[go_sem] theorem w_g {g:Nat} {w:Bool} {k:SK}:opsW P s (⟨d,some (g,w),k⟩ :: l) K σ F M=gK P s d l K σ F M w k (look σ g):=rfl
@[go_sem] theorem w_n {k:SK}:opsW P s (⟨none,none,k⟩ :: l) K σ F M=stepW P s none l K σ F M k:=rfl
@[go_sem] theorem oK_some {v:Value}:oK P s d l K σ F M (some v)=opsW P s l K (put σ d v) F M:=by simp [oK]
@[go_sem] theorem gK_tt {k:SK}:gK P s d l K σ F M true k (some (.bool true))=stepW P s d l K σ F M k:=by simp [gK]
@[go_sem] theorem gK_ff {k:SK}:gK P s d l K σ F M false k (some (.bool false))=stepW P s d l K σ F M k:=by simp [gK]
@[go_sem] theorem gK_tf {k:SK}:gK P s d l K σ F M true k (some (.bool false))=opsW P s l K (put σ d undef) F M:=by simp [gK]
@[go_sem] theorem gK_ft {k:SK}:gK P s d l K σ F M false k (some (.bool true))=opsW P s l K (put σ d undef) F M:=by simp [gK]
theorem gK_of {w b:Bool}{k:SK}(h1:b=w→stepW P s d l K σ F M k)(h2:b=(!w)→opsW P s l K (put σ d undef) F M):gK P s d l K σ F M w k (some (.bool b)):=
 ⟨_,rfl,fun h=>h1 (by simpa using h),fun h=>h2 (by cases b <;> cases w <;> simp_all)⟩
@[go_sem] theorem s_p {q:PK}:stepW P s d l K σ F M (.p q)=oK P s d l K σ F M (q.val σ F M):=rfl
@[go_sem] theorem s_al {e:Nat} {z:List Value}:stepW P s d l K σ F M (.al e z)=nK P s d l K σ F M none ⟨z,e,z.length⟩:=rfl
@[go_sem] theorem s_bx {e:Nat} {x:Operand}:stepW P s d l K σ F M (.bx e x)=bxK P s d l K σ F M e (ev σ x):=rfl
@[go_sem] theorem bxK_some {e:Nat} {v:Value}:bxK P s d l K σ F M e (some v)=nK P s d l K σ F M none ⟨v.cells.toList,e,v.cells.toList.length⟩:=by simp [bxK]
@[go_sem] theorem s_bs {e len:Nat} {z:List Value} {parts:List (Nat × Nat × Operand)}:stepW P s d l K σ F M (.bs e len z parts)=bsK P s d l K σ F M e len ((evParts σ parts).bind fun ps=>fillV z ps):=by
 apply propext
 simp only [stepW,stepK,bsK,nK,mkR]
 constructor
 ·rintro ⟨ps,h1,cs,h2,h3⟩; exact ⟨cs,by rw [h1]; exact h2,h3⟩
 ·rintro ⟨cs,h1,h3⟩
  cases hp:evParts σ parts with
  | none=>simp [hp] at h1
  | some ps=>exact ⟨ps,rfl,cs,by simpa [hp] using h1,h3⟩
@[go_sem] theorem bsK_some {e len:Nat} {cs:List Value}:bsK P s d l K σ F M e len (some cs)=nK P s d l K σ F M (some len) ⟨cs,e,cs.length⟩:=by simp [bsK]
@[go_sem] theorem s_ca {f:Operand} {args:List Operand}:stepW P s d l K σ F M (.ca f args)=caK P s d l K σ F M args (ev σ f):=rfl
@[go_sem] theorem caK_some {args:List Operand} {g:Nat} {fi ca:Array Value}:caK P s d l K σ F M args (some (.func (.func g) fi ca))=caK2 P s d l K σ F M g fi ca (evs σ args):=by
 apply propext; constructor
 ·rintro ⟨_,_,_,h,hk⟩; cases h; exact hk
 ·intro h; exact ⟨_,_,_,rfl,h⟩
@[go_sem] theorem caK2_some {g:Nat} {fi ca:Array Value} {vs:List Value}:caK2 P s d l K σ F M g fi ca (some vs)=callK P s d l K σ F M g (fi.toList++vs++ca.toList):=by simp [caK2]
@[go_sem] theorem s_cq {f:Operand} {args:List Operand}:stepW P s d l K σ F M (.cq f args)=cqK P s d l K σ F M args (ev σ f):=rfl
@[go_sem] theorem cqK_some {args:List Operand} {g:Nat} {fi ca:Array Value}:cqK P s d l K σ F M args (some (.func (.func g) fi ca))=cqK2 P s d l K σ F M g fi ca (evs σ args):=by
 apply propext; constructor
 ·rintro ⟨_,_,_,h,hk⟩; cases h; exact hk
 ·intro h; exact ⟨_,_,_,rfl,h⟩
@[go_sem] theorem cqK2_some {g:Nat} {fi ca:Array Value} {vs:List Value}:cqK2 P s d l K σ F M g fi ca (some vs)=callQ P s d l K σ F M g (fi.toList++vs++ca.toList):=by simp [cqK2]
@[go_sem] theorem s_cf {fl:List Nat} {f:Operand} {args:List Operand}:stepW P s d l K σ F M (.cf fl f args)=cfK P s d l K σ F M fl args (ev σ f):=rfl
@[go_sem] theorem cfK_some {fl:List Nat} {args:List Operand} {g:Nat} {fi ca:Array Value}:cfK P s d l K σ F M fl args (some (.func (.func g) fi ca))=cfK2 P s d l K σ F M fl g fi ca (evs σ args):=by
 apply propext; constructor
 ·rintro ⟨_,_,_,h,hk⟩; cases h; exact hk
 ·intro h; exact ⟨_,_,_,rfl,h⟩
@[go_sem] theorem cfK2_some {fl:List Nat} {g:Nat} {fi ca:Array Value} {vs:List Value}:cfK2 P s d l K σ F M fl g fi ca (some vs)=callF P s d l K σ F M fl g (fi.toList++vs++ca.toList):=by simp [cfK2]
theorem vK {fl:List Nat}{g:Nat}{args:List Value}{R:Value→Fz→Hp→Prop}(h:CallsA P g args F M R)
  (hr:∀v F' M',R v F' M'→(∀t∈fl,∃u,look σ t=some u∧∀b o,u=.pointer (some ⟨b,o,none⟩)→blk F' M' b=blk F M b)∧opsW P s l K (put σ d v) F' M'):callF P s d l K σ F M fl g args:=h.mono hr
theorem vZ {g:Nat}{args:List Value}{R:Value→Fz→Hp→Prop}(h:CallsA P g args F M R)
  (hr:∀v F' M',R v F' M'→opsW P s l K (put σ d v) F' M'):callQ P s d l K σ F M g args:=h.mono hr
@[go_sem] theorem s_st {fl:List Nat} {n:Nat} {a x:Operand}:stepW P s d l K σ F M (.st fl n a x)=stK P s d l K σ F M fl n x (ev σ a):=by
 apply propext
 simp only [stepW,stepK,stK,stK2,stK3,stK4,setH]
 constructor
 ·rintro ⟨b,o,h1,v,h2,e,h3,h4,h5,h6,h7,h8⟩; exact ⟨b,o,h1,v,h2,e,h3,⟨h4,h5,h6,h7⟩,h8⟩
 ·rintro ⟨b,o,h1,v,h2,e,h3,⟨h4,h5,h6,h7⟩,h8⟩; exact ⟨b,o,h1,v,h2,e,h3,h4,h5,h6,h7,h8⟩
@[go_sem] theorem stK_some {fl:List Nat} {n b o:Nat} {x:Operand}:stK P s d l K σ F M fl n x (some (.pointer (some ⟨b,o,none⟩)))=stK2 P s d l K σ F M fl n b o (ev σ x):=by
 apply propext; constructor
 ·rintro ⟨_,_,h,hk⟩; cases h; exact hk
 ·intro h; exact ⟨_,_,rfl,h⟩
@[go_sem] theorem stK2_some {fl:List Nat} {n b o:Nat} {v:Value}:stK2 P s d l K σ F M fl n b o (some v)=stK3 P s d l K σ F M fl n b o v (M b):=by simp [stK2]
@[go_sem] theorem stK3_some {fl:List Nat} {n b o:Nat} {v:Value} {e:Ent}:stK3 P s d l K σ F M fl n b o v (some e) =
  stK4 P s d l K σ F (setH M b ⟨e.cells.take o++v.cells.toList++e.cells.drop (o+n),e.elem,e.size⟩)
  (v.cells.size=n∧wZ v.cells.toList∧o+n≤e.cells.length∧∀t∈fl,∃u,look σ t=some u∧∀b' o',u=.pointer (some ⟨b',o',none⟩)→b'≠b):=by simp [stK3]
@[go_sem] theorem stK4_true {M':Hp}:stK4 P s d l K σ F M' True=opsW P s l K (put σ d undef) F M':=by simp [stK4]
@[go_sem] theorem s_ap {e es bytes:Nat} {x y:Operand}:stepW P s d l K σ F M (.ap e es bytes x y)=apK P s d l K σ F M e es bytes (ev σ x) (ev σ y):=rfl
@[go_sem] theorem s_ms {e es bytes:Nat} {z:List Value} {x y:Operand}:stepW P s d l K σ F M (.ms e es bytes z x y)=msK P s d l K σ F M e es bytes z (ev σ x) (ev σ y):=rfl
@[go_sem] theorem s_cp {es:Nat} {x y:Operand}:stepW P s d l K σ F M (.cp es x y)=cpK P s d l K σ F M es (ev σ x) (ev σ y):=rfl
@[go_sem] theorem s_cl {es:Nat} {z:List Value} {x:Operand}:stepW P s d l K σ F M (.cl es z x)=clK P s d l K σ F M es z (ev σ x):=rfl
@[go_sem] theorem s_gz {e es bytes:Nat} {z:List Value} {x y:Operand}:stepW P s d l K σ F M (.gz e es bytes z x y)=gzK P s d l K σ F M e es bytes z (ev σ x) (ev σ y):=rfl
theorem gzK_of {e es bytes:Nat}{z:List Value}{k:IntKind}{m:Nat}(h0:0 < m)(h1:m≤maxLen)(h2:m * bytes≤140737488355328)
  (h3:∀r cap,F r=none→M r=none→m≤cap→cap≤maxLen→opsW P s l K (put σ d (.slice (some ⟨r,0,none⟩) m cap)) F (M.upd r ⟨(List.replicate m z).flatten,e,cap * es⟩)) :
  gzK P s d l K σ F M e es bytes z (some (.slice none 0 0)) (some (.int k m)):=⟨k,m,rfl,rfl,h0,h1,h2,h3⟩
@[go_sem] theorem s_mm:stepW P s d l K σ F M .mm=mmK P s d l K σ F M:=rfl
@[go_sem] theorem s_ml {z:Value} {x i:Operand}:stepW P s d l K σ F M (.ml z x i)=mlK P s d l K σ F M z (ev σ x) (ev σ i):=rfl
@[go_sem] theorem s_mu {x i y:Operand}:stepW P s d l K σ F M (.mu x i y)=muK P s d l K σ F M (ev σ x) (ev σ i) (ev σ y):=rfl
theorem mlK_of {z:Value}{r:Nat}{m:List (Int × Value)}{n:Int}(h:F.mp r=some m)(hk:opsW P s l K (put σ d (((lookM m n 0).map (·.2)).getD z)) F M) :
  mlK P s d l K σ F M z (some (.map (some r))) (some (.int .i64 n)):=⟨r,m,n,rfl,rfl,h,hk⟩
theorem muK_of {r:Nat}{m:List (Int × Value)}{n:Int}{v:Value}(h:F.mp r=some m)(hn:lookM m n 0=none)(hk:opsW P s l K (put σ d undef) (F.setM r (m++[(n,v)])) M) :
  muK P s d l K σ F M (some (.map (some r))) (some (.int .i64 n)) (some v):=⟨r,m,n,v,rfl,rfl,rfl,h,hn,hk⟩
@[go_sem] theorem setM_f {r k:Nat} {m:List (Int × Value)}:(F.setM r m).f k=F.f k:=rfl
@[go_sem] theorem setM_mp {r:Nat} {m:List (Int × Value)}:(F.setM r m).mp r=some m:=by simp [Fz.setM]
@[go_sem] theorem setM_setM {r:Nat} {m m':List (Int × Value)}:(F.setM r m).setM r m'=F.setM r m':=by
 simp only [Fz.setM,Fz.mk.injEq,true_and]
 funext k
 split <;> rfl
@[go_sem] theorem blk_setM {r k:Nat} {m:List (Int × Value)}:blk (F.setM r m) M k=blk F M k:=rfl
@[go_sem] theorem put_some {v:Value}:put σ (some t) v=(t,v) :: σ:=rfl
@[go_sem] theorem put_none {v:Value}:put σ none v=σ:=rfl
attribute [go_sem] mkR
theorem apK_of {e es bytes:Nat}{v u:Value}{n m:Nat}{xs ys:List Value}(h3:Own M e es v n xs)(h4:Src F M es u m ys)(h5:wZ ys)
  (h6:n+m≤maxLen)(h7:(n+m) * bytes≤140737488355328)(h8:∀v' M',ApRes F M e es v n m (xs++ys) v' M'→opsW P s l K (put σ d v') F M'):apK P s d l K σ F M e es bytes (some v) (some u):=
 ⟨v,rfl,u,rfl,n,xs,h3,m,ys,h4,h5,h6,h7,h8⟩
theorem msK_of {e es bytes:Nat}{z:List Value}{k k':IntKind}{n m:Nat}(h3:n≤m)(h4:m≤maxLen)(h5:m * bytes≤140737488355328)
  (h6:∀r,F r=none→M r=none→opsW P s l K (put σ d (.slice (some ⟨r,0,none⟩) n m)) F (M.upd r ⟨(List.replicate m z).flatten,e,m * es⟩)) :
  msK P s d l K σ F M e es bytes z (some (.int k n)) (some (.int k' m)):=⟨k,n,rfl,k',m,rfl,h3,h4,h5,h6⟩
theorem qY {g:Nat}{args:List Value}{R:Value→Fz→Hp→Prop}(h:CallsA P g args F M R)
  (hr:∀v F' M',R v F' M'→(s=true→Le F M F' M')∧opsW P s l K (put σ d v) F' M'):callK P s d l K σ F M g args:=h.mono hr
theorem qQ {g:Nat}{args:List Value}{r:Value}(h:CallsA P g args F M fun v F' M'=>v=r∧F'=F∧M'=M)
  (hr:opsW P s l K (put σ d r) F M):callK P s d l K σ F M g args:=h.mono fun v F' M' ⟨h1,h2,h3⟩=>by subst h1; subst h2; subst h3; exact ⟨fun _=>Le.refl _ _,hr⟩
end
section
variable (P:Program) (a b:SC) (Q:Post) (σ:Env) (F:Fz) (M:Hp)
def condK (o:Option Value):Prop:=∃t,o=some (.bool t)∧(t=true→W P a Q σ F M)∧(t=false→W P b Q σ F M)
def endK (R:Value→Fz→Hp→Prop)(v:Value):Prop:=∃F' M',Wk F M F' M'∧R v F' M'
def retK (R:Value→Fz→Hp→Prop)(o:Option (List Value)):Prop:=∃vs,o=some vs∧endK F M R (retV vs)
end
section
variable {P:Program} {a b:SC} {Q:Post} {σ:Env} {F:Fz} {M:Hp}
@[go_sem] theorem W_skip:W P .skip Q σ F M=Q .n σ F M:=rfl
@[go_sem] theorem W_ret:W P .ret Q σ F M=Q .r σ F M:=rfl
@[go_sem] theorem W_exit {i:Nat}:W P (.exit i) Q σ F M=Q (.e i) σ F M:=rfl
@[go_sem] theorem W_ops {l:List SO}:W P (.ops l) Q σ F M=opsW P false l (Q .n) σ F M:=rfl
@[go_sem] theorem W_opq {l:List SO}:W P (.opq l) Q σ F M=opsW P false l (Q .n) σ F M:=rfl
@[go_sem] theorem W_opd {l:List SO}:W P (.opd l) Q σ F M=opsW P true l (Q .n) σ F M:=rfl
@[go_sem] theorem W_seq:W P (.seq a b) Q σ F M=W P a (Post.andThen (W P b Q) Q) σ F M:=rfl
@[go_sem] theorem W_cond {c:Operand}:W P (.cond c a b) Q σ F M=condK P a b Q σ F M (ev σ c):=rfl
@[go_sem] theorem condK_t:condK P a b Q σ F M (some (.bool true))=W P a Q σ F M:=by simp [condK]
@[go_sem] theorem condK_f:condK P a b Q σ F M (some (.bool false))=W P b Q σ F M:=by simp [condK]
theorem condK_of {t:Bool}(h1:t=true→W P a Q σ F M)(h2:t=false→W P b Q σ F M):condK P a b Q σ F M (some (.bool t)):=⟨t,rfl,h1,h2⟩
@[go_sem] theorem W_block {i:Nat}:W P (.block i a) Q σ F M=W P a (Q.inBlock i) σ F M:=rfl
@[go_sem] theorem then_n {next:Env→Fz→Hp→Prop}:Post.andThen next Q .n σ F M=next σ F M:=rfl
@[go_sem] theorem then_r {next:Env→Fz→Hp→Prop}:Post.andThen next Q .r σ F M=Q .r σ F M:=rfl
@[go_sem] theorem then_e {next:Env→Fz→Hp→Prop} {i:Nat}:Post.andThen next Q (.e i) σ F M=Q (.e i) σ F M:=rfl
@[go_sem] theorem inBlock_n {i:Nat}:Q.inBlock i .n σ F M=Q .n σ F M:=rfl
@[go_sem] theorem inBlock_r {i:Nat}:Q.inBlock i .r σ F M=Q .r σ F M:=rfl
@[go_sem] theorem inBlock_same {i:Nat}:Q.inBlock i (.e i) σ F M=Q .n σ F M:=by simp [Post.inBlock]
@[go_sem] theorem inBlock_ne {i j:Nat} (h:¬j=i):Q.inBlock i (.e j) σ F M=Q (.e j) σ F M:=by simp [Post.inBlock,h]
@[go_sem] theorem ret_r {rs:List RS} {R:Value→Fz→Hp→Prop}:RetP rs R .r σ F M=retK F M R (retL σ F M rs):=rfl
@[go_sem] theorem ret_n {rs:List RS} {R:Value→Fz→Hp→Prop}:RetP rs R .n σ F M=retK F M R (retL σ F M rs):=rfl
@[go_sem] theorem retK_some {R:Value→Fz→Hp→Prop} {vs:List Value}:retK F M R (some vs)=endK F M R (retV vs):=by simp [retK]
theorem loop_of {c:SC}(I:Nat→Env→Fz→Hp→Prop)(n:Nat)(h0:I n σ F M)
  (h:∀n σ F M,I n σ F M→W P c (Post.andThen (fun σ F M=>∃m,m < n∧I m σ F M) Q) σ F M):W P (.loop c) Q σ F M:=⟨I,n,⟨F,M,Wk.refl F M,h0⟩,h⟩
theorem Wk.short {F:Fz}{M:Hp}{r:Nat}{e:Ent}{c:List Value}(h:M r=some e)(hc:c <+: e.cells):Wk F M F (M.upd r ⟨c,e.elem,e.size⟩):=by
 refine ⟨fun w hw=>⟨hw.fz,fun b n hb=>?_,fun b hb=>?_,hw.mp⟩,fun _ h _=>h,fun b hb=>?_,fun _ h=>h⟩
 ·by_cases hbr:b=r
  ·subst hbr
   rw [Hp.qJ] at hb
   cases hb
   obtain ⟨cur,h1,h2,h3⟩:=hw.mu _ _ h
   exact ⟨cur,h1,hc.trans h2,h3⟩
  ·rw [Hp.upd_ne hbr] at hb; exact hw.mu b n hb
 ·by_cases hbr:b=r
  ·subst hbr; exact hw.ap _ (by rw [h]; simp)
  ·rw [Hp.upd_ne hbr] at hb; exact hw.ap b hb
 ·by_cases hbr:b=r
  ·subst hbr; rw [h] at hb; cases hb
  ·rw [Hp.upd_ne hbr]; exact hb
end
@[go_sem] theorem look_same {l:Env} {k:Nat} {v:Value}:look ((k,v) :: l) k=some v:=by simp [look]
@[go_sem] theorem look_ne {l:Env} {k t:Nat} {v:Value} (h:¬k=t):look ((k,v) :: l) t=look l t:=by simp [look,h]
attribute [go_sem] ev evs evParts env0 retL retV PK.val binV unV fnV fillV rd Option.bind_some Option.map_some
section
variable {F:Fz} {M:Hp} {R:Value→Fz→Hp→Prop} {v:Value}
theorem qW (h:R v F M):endK F M R v:=⟨F,M,Wk.refl F M,h⟩
theorem qV {r:Nat}{e:Ent}(hm:M r=none)(h:endK F M R v):endK F (M.upd r e) R v:=by
 obtain ⟨F',M',h1,h2⟩:=h
 exact ⟨F',M',(Wk.drop hm).trans h1,h2⟩
theorem endK_comm {a b:Nat}{x y:Ent}(hne:¬a=b)(h:endK F ((M.upd b y).upd a x) R v):endK F ((M.upd a x).upd b y) R v:=by
 rw [Hp.upd_comm hne]; exact h
end
end Go.Ax
