/- Parts A2: the machine's runs of small codes, contracts of functions, plain facts. -/
import Derived.Laws.AppendOwnNone
import Derived.Laws.MakeOwn
import Derived.Lib.AppendZeros
import Derived.Test.YtamcbkelfgbkoaaGreatA1
set_option linter.unusedSimpArgs false
namespace Go.Ax
open Go
set_option linter.unusedSimpArgs false
def St (n:Nat)(Φ:Env→Fz→Hp→Prop)(F0:Fz)(M0:Hp)(w0:World)(a:Act)(w:World):Prop:=
 ∃σ F M,Agree n σ a∧Rel F M w∧Fr F0 M0 w0 F M w∧Φ σ F M
theorem flatten_replicate_mod (z:List Value):∀(m:Nat),(List.range (m * z.length)).map (fun i=>z.toArray[i % z.toArray.size]!)=(List.replicate m z).flatten:=by
 intro m
 induction m with
 | zero=>simp
 | succ m ih=>
  rw [List.replicate_succ',List.flatten_append,←ih,Nat.succ_mul,List.range_add,List.map_append]
  congr 1
  simp only [List.map_map,List.flatten_cons,List.flatten_nil,List.append_nil]
  apply List.ext_getElem?
  intro i
  by_cases hi:i < z.length
  ·simp [hi,Nat.add_mod,Nat.mod_eq_of_lt hi,Nat.mul_mod_left]
  ·simp [hi]
theorem src_cells {F:Fz}{M:Hp}{w:World}(hr:Rel F M w){a:Addr}{m es:Nat}{ys:List Value}(hyl:ys.length=m * es)
  (h:m=0∨∃b o cs,a=⟨b,o,none⟩∧blk F M b=some cs∧(cs.drop o).take (m * es)=ys) :
  ∀(j:Nat) (u:Value),ys[j]? = some u→w.cell? (a.add j)=some u:=by
 intro j u hj
 rcases h with rfl | ⟨b,o,cs,rfl,hb,hy⟩
 ·have:ys=[]:=by simpa using hyl
  simp [this] at hj
 subst hy
 rw [Addr.add_lit]
 refine hr.cell hb ?_
 rw [List.getElem?_take] at hj
 split at hj
 ·rw [List.getElem?_drop] at hj; exact hj
 ·simp at hj
theorem own_row {F:Fz}{M:Hp}{w:World}(hr:Rel F M w){e es n:Nat}{v:Value}{xs:List Value}(h:Own M e es v n xs):w.ownsRow 0 e es v n xs:=by
 obtain ⟨hl,h⟩:=h
 refine ⟨hl,?_⟩
 rcases h with h | ⟨g,cap,rfl,hm,hn,hc⟩
 ·exact .inl h
 ·obtain ⟨cur,h1,h2,h3⟩:=hr.mu g _ hm
  refine .inr ⟨g,cap,cur,rfl,Nat.zero_le _,h1,hn,hc,h3,?_⟩
  obtain ⟨t,ht⟩:=h2
  simp only at ht
  rw [←ht,←hl,List.take_left]
theorem Rel.setRow {F:Fz}{M:Hp}{w w':World}(h:Rel F M w){g:Nat}{old new:Ent}(hm:M g=some old)(hblk:∀k,k≠g→w'.heap[k]? = w.heap[k]?)
  {cur:Array Value} (hg:w'.heap[g]? = some (.cells cur new.elem (0,0))) (hp:new.cells <+: cur.toList) (hs:cur.size=new.size):Rel F (M.upd g new) w':=by
 refine ⟨fun b c hb=>?_,fun b n hb=>?_,fun b hb=>?_,fun b l hb=>?_⟩
 rotate_right
 ·have hbg:b≠g:=by rintro rfl; rw [h.noMap hm] at hb; cases hb
  obtain ⟨es,k,h1,h2⟩:=h.mp b l hb
  exact ⟨es,k,by rw [hblk b hbg]; exact h1,h2⟩
 ·have hbg:b≠g:=by rintro rfl; have:=h.ap b (by simp [hm]); simp [this] at hb
  obtain ⟨c0,e,fr,h1,h2⟩:=h.fz b c hb
  exact ⟨c0,e,fr,by rw [hblk b hbg]; exact h1,h2⟩
 ·by_cases hbg:b=g
  ·subst hbg
   simp only [Hp.qJ,Option.some.injEq] at hb
   subst hb
   exact ⟨cur,hg,hp,hs⟩
  ·rw [Hp.upd_ne hbg] at hb
   obtain ⟨c0,h1,h2⟩:=h.mu b n hb
   exact ⟨c0,by rw [hblk b hbg]; exact h1,h2⟩
 ·by_cases hbg:b=g
  ·subst hbg; exact h.ap b (by simp [hm])
  ·rw [Hp.upd_ne hbg] at hb; exact h.ap b hb
theorem Fr.setRow {F:Fz}{M:Hp}{w w':World}{g:Nat}{old new:Ent}(hm:M g=some old)(hblk:∀k,k≠g→w'.heap[k]? = w.heap[k]?)
  (hos:w'.os=w.os)(ht:w'.tape=w.tape∧w.drawn≤w'.drawn)(ho:w'.output=w.output)(hsz:w.heap.size≤w'.heap.size):Fr F M w F (M.upd g new) w':=
 ⟨hos,ht,ho,hsz,fun b _ hb hp=>by
  have hbg:b≠g:=by rintro rfl; simp [hm] at hb
  exact ⟨hblk b hbg,by rw [Hp.upd_ne hbg]; exact hb,hp,id⟩⟩
section
variable {P:Program} {s:Bool} {n:Nat} {σ:Env} {a:Act} {F:Fz} {M:Hp} {w:World} {Q:Exit→Act→World→Prop} {K:Env→Fz→Hp→Prop} {o:Oper}
theorem sound_new {v:Value}{c:List Value}{e:Nat}(hd:∀t,o.dst=some t→t < n)(ha:Agree n σ a)(hr:Rel F M w)
  (hrun:(execOp a.eval o).run P w=.ok (.value v) (w.alloc (.cells c.toArray e)))(hK:K (put σ o.dst v) F (M.upd w.heap.size ⟨c,e,c.length⟩)) :
  o.wp P a w (St n K F M w) Q:=by
 unfold Oper.wp
 rw [hrun]
 exact ⟨_,_,_,ha.put hd,hr.alloc c e,Fr.alloc _ _,hK⟩
theorem sound_p {q:PK}(hd:∀t,o.dst=some t→t < n)(ha:Agree n σ a)(hr:Rel F M w)(hq:slimP P o.op=some q)(h:stepK P s o.dst (.p q) K σ F M) :
  o.wp P a w (St n K F M w) Q:=by
 obtain ⟨v,hv,hK⟩:=h
 unfold Oper.wp
 rw [val_sound ha hr hq hv]
 exact ⟨_,_,_,ha.put hd,hr,Fr.refl _ _ _,hK⟩
theorem sound_st {t:TypeId}{m:Nat}{x y:Operand}(hd:∀t,o.dst=some t→t < n)(ha:Agree n σ a)(hr:Rel F M w)(ho:o.op=.store t x y)(hn:sizeT P t=some m)
  {fl:List Nat} (h:stepK P s o.dst (.st fl m x y) K σ F M):o.wp P a w (St n K F M w) Q:=by
 obtain ⟨b,of,hx,v,hy,e,hm,hv,hp,hl,_,hK⟩:=h
 obtain ⟨cur,h1,h2,h3⟩:=hr.mu b e hm
 have hlen:e.cells.length≤cur.size:=by
  obtain ⟨t,ht⟩:=h2
  have:=congrArg List.length ht
  simp at this; omega
 have hst:=run_storeCells_at P b of e.elem v.cells.toList 0 cur w h1 (by simp [hv]; omega) hp
 have hrun:(execOp a.eval o).run P w=.ok .skip (w.setRow b (cur.toList.take (of+0)++v.cells.toList++cur.toList.drop (of+0+v.cells.toList.length)).toArray):=by
  unfold execOp
  simp only [ho,Sem.run_bind,ha.ev hx,ha.ev hy,Instr.storeAt,Instr.sureAddr,storeVar,Sem.run_pure,Result.andThen_ok,run_sizeOf hn,hv,ne_eq,not_true,if_false]
  rw [hst]
  simp
 unfold Oper.wp
 rw [hrun]
 obtain ⟨tl,htl⟩:=h2
 refine ⟨_,_,_,ha.put hd,hr.setRow (new:=⟨e.cells.take of++v.cells.toList++e.cells.drop (of+m),e.elem,e.size⟩) hm (fun k hk=>setRow_other w b k _ hk) (setRow_heap w b cur _ e.elem _ h1) ?_ ?_,
  Fr.setRow hm (fun k hk=>setRow_other w b k _ hk) rfl ⟨rfl,Nat.le_refl _⟩ rfl (by simp [World.setRow]),hK⟩
 ·simp only [Nat.add_zero,Array.length_toList,hv]
  refine ⟨tl,?_⟩
  rw [←htl,List.take_append_of_le_length (by omega),List.drop_append_of_le_length (by omega)]
  simp
 ·simp [hv]; omega
theorem sound_ap {t e:TypeId}{i:TypeInfo}{z:Value}{x y:Operand}(hd:∀t,o.dst=some t→t < n)(ha:Agree n σ a)(hr:Rel F M w)
  (ho:o.op=.call { callee:=.builtin .append,args:=#[x,y],argTypes:=#[t,t] })(he:elemT P t=some e)(hi:P.info? e=some i)(hz:i.zero=some z)
  (hzs:z.cells.size=i.size)(hp:0 < i.size)(h:stepK P s o.dst (.ap e i.size i.bytes x y) K σ F M):o.wp P a w (St n K F M w) Q:=by
 obtain ⟨v,hx,u,hy,k,xs,hown,m,ys,hsrc,hpl,hlen,hby,hK⟩:=h
 have hrow:=own_row hr hown
 obtain ⟨hyl,hsrc⟩:=hsrc
 have run:∀v' w',(Builtin.append_ #[t,t] o.type #[v,u]).run P w=.ok v' w'→(execOp a.eval o).run P w=.ok (.value v') w':=by
  intro v' w' hh
  unfold execOp
  simp [ho,resolve,invoke,builtin,ha.ev hx,ha.ev hy,hh]
 rcases hsrc with ⟨rfl,rfl⟩ | ⟨ad,cap,rfl,hys⟩
 ·-- nothing is appended
  have hh:=run_append_owned_none (P:=P) (w:=w) 0 t o.type e i i.size (elemT_spec he) hi v k xs hrow
  unfold Oper.wp
  rw [run _ _ hh]
  have hy0:ys=[]:=by simpa using hyl
  subst hy0
  refine ⟨_,F,M,ha.put hd,hr,Fr.refl _ _ _,hK v M ?_⟩
  obtain ⟨hxl,hown⟩:=hown
  rcases hown with ⟨rfl,rfl⟩ | ⟨g,c,rfl,hm,hn,hc⟩
  ·exact .inl ⟨rfl,rfl,rfl,rfl⟩
  ·refine .inr ⟨g,c,.inl ⟨c,rfl⟩,by simp,by simpa using hn,hc,?_⟩
   funext q
   by_cases hq:q=g
   ·subst hq; simp [hm]
   ·rw [Hp.upd_ne hq]
 ·have hnews:=src_cells hr hyl hys
  have hown':=hown
  obtain ⟨hxl,hown⟩:=hown
  have hsmall:k+m≤9223372036854775807:=by simp only [maxLen] at hlen; omega
  rcases hown with ⟨rfl,rfl⟩ | ⟨g,c,rfl,hm,hn,hc⟩
  ·-- onto nil
   have hx0:xs=[]:=by simpa using hxl
   subst hx0
   obtain ⟨v',w',hh,hrow',hgr,hiff⟩:=run_append_own (P:=P) w w.heap.size t o.type e i z i.size i.bytes (elemT_spec he) hi hz rfl rfl hzs hp _ 0 [] (World.ownsRow_nil w _ e i.size) ad m cap ys hyl
    hnews hpl hlen hby (Nat.le_refl _)
   have hdr0:=run_drawn _ _ hh
   unfold Oper.wp
   rw [run _ _ hh]
   obtain ⟨hl',hrow'⟩:=hrow'
   have hblock:∀q,q < w.heap.size→w'.heap[q]? = w.heap[q]?:=fun q hq=>hgr.block q hq (by simp [Value.ownBlock])
   have hr':Rel F M w':=⟨fun b c hb=>by
     obtain ⟨c0,e0,fr,h1,h2⟩:=hr.fz b c hb
     exact ⟨c0,e0,fr,by rw [hblock b (Array.getElem?_eq_some_iff.1 h1).1]; exact h1,h2⟩,fun b c hb=>by
     obtain ⟨c0,h1,h2⟩:=hr.mu b c hb
     exact ⟨c0,by rw [hblock b (Array.getElem?_eq_some_iff.1 h1).1]; exact h1,h2⟩,hr.ap,fun b l hb=>by
     obtain ⟨es,k,h1,h2⟩:=hr.mp b l hb
     exact ⟨es,k,by rw [hblock b (Array.getElem?_eq_some_iff.1 h1).1]; exact h1,h2⟩⟩
   rcases hrow' with ⟨rfl,h0⟩ | ⟨g,cap',cur,rfl,hge,hg,hn,hc,hcs,htk⟩
   ·obtain ⟨_,hm0⟩:=hiff.1 rfl
    subst hm0
    exact ⟨_,F,M,ha.put hd,hr',⟨hgr.os,⟨hgr.tape,hdr0⟩,hgr.output,hgr.size,fun b hb h hp=>⟨hblock b hb,h,hp,id⟩⟩,hK _ M (.inl ⟨rfl,rfl,rfl,rfl⟩)⟩
   ·have hf:=hr.fresh hge
    have hpre:([]++ys) <+: cur.toList:=⟨cur.toList.drop ((0+m) * i.size),by rw [←htk,List.take_append_drop]⟩
    refine ⟨_,F,M.upd g ⟨[]++ys,e,cap' * i.size⟩,ha.put hd,⟨hr'.fz,fun b c hb=>?_,fun b hb=>?_,hr'.mp⟩,
     ⟨hgr.os,⟨hgr.tape,hdr0⟩,hgr.output,hgr.size,fun b hb h hp=>⟨hblock b hb,by rw [Hp.upd_ne (by omega)]; exact h,hp,id⟩⟩,hK _ _ (.inr ⟨g,cap',.inr hf,rfl,hn,hc,rfl⟩)⟩
    ·by_cases hbg:b=g
     ·subst hbg
      simp only [Hp.qJ,Option.some.injEq] at hb
      subst hb
      exact ⟨cur,hg,hpre,hcs⟩
     ·rw [Hp.upd_ne hbg] at hb; exact hr'.mu b c hb
    ·by_cases hbg:b=g
     ·subst hbg; exact hf.1
     ·rw [Hp.upd_ne hbg] at hb; exact hr.ap b hb
  ·obtain ⟨cur,h1,⟨tl,h2⟩,h3⟩:=hr.mu g _ hm
   simp only at h2 h3
   have hcl:cur.toList.take (k * i.size)=xs:=by rw [←h2,←hxl,List.take_left]
   by_cases hroom:k+m≤c
   ·have hfit:k * i.size+ys.length≤cur.size:=by rw [hyl,h3,←Nat.add_mul]; exact Nat.mul_le_mul_right _ hroom
    have hh:=run_append_room (P:=P) w t o.type e i (elemT_spec he) hi g k c cur h1 ad m cap ys hyl hnews hpl hroom hfit
    unfold Oper.wp
    rw [run _ _ hh]
    refine ⟨_,_,_,ha.put hd,hr.setRow (new:=⟨xs++ys,e,c * i.size⟩) hm (fun q hq=>setRow_other w g q _ hq) (setRow_heap w g cur _ e _ h1) ?_ ?_,
     Fr.setRow hm (fun q hq=>setRow_other w g q _ hq) rfl ⟨rfl,Nat.le_refl _⟩ rfl (by simp [World.setRow]),hK _ _ (.inr ⟨g,c,.inl ⟨c,rfl⟩,rfl,hroom,hc,rfl⟩)⟩
    ·exact ⟨cur.toList.drop (k * i.size+ys.length),by simp [hcl]⟩
    ·simp; omega
   ·have holds:∀j u,xs[j]? = some u→w.cell? ((⟨g,0,none⟩:Addr).add j)=some u:=(own_row hr hown').cells (g:=g) rfl
    have hh:=run_append_grow (P:=P) w t o.type e i z (elemT_spec he) hi hz ⟨g,0,none⟩ k c xs hxl holds ad m cap ys hyl hnews (by omega) (by omega) (growslice_fits (by omega) hby)
    have hge:=grownCap_ge w (k+m) c e
    have hcm:=grownCap_le_maxLen w (k+m) c e hlen
    unfold Oper.wp
    rw [run _ _ hh]
    have hdr:Rel F M w.drew:=hr.like ⟨rfl,rfl,⟨rfl,Nat.le_succ _⟩,rfl⟩
    have hall:=hdr.alloc ((xs++ys)++(Builtin.zeroCells z.cells (grownCap w (k+m) c e - (k+m))).toList) e
    have hf:=hr.fresh (Nat.le_refl _)
    refine ⟨_,F,M.upd w.heap.size ⟨xs++ys,e,grownCap w (k+m) c e * i.size⟩,ha.put hd,⟨fun b c hb=>?_,fun b c hb=>?_,fun b hb=>?_,fun b l hb=>?_⟩,
     ⟨rfl,⟨rfl,Nat.le_succ _⟩,rfl,by simp,fun b hb h hp=>⟨heap_alloc_old w.drew _ b hb,by rw [Hp.upd_ne (by omega)]; exact h,hp,id⟩⟩,hK _ _ (.inr ⟨w.heap.size,_,.inr hf,rfl,hge,hcm,rfl⟩)⟩
    rotate_right
    ·obtain ⟨es,k,g1,g2⟩:=hr.mp b l hb
     exact ⟨es,k,by rw [heap_alloc_old w.drew _ b (Array.getElem?_eq_some_iff.1 g1).1]; exact g1,g2⟩
    ·obtain ⟨c0,e0,fr,g1,g2⟩:=hr.fz b c hb
     exact ⟨c0,e0,fr,by rw [heap_alloc_old w.drew _ b (Array.getElem?_eq_some_iff.1 g1).1]; exact g1,g2⟩
    ·by_cases hbg:b=w.heap.size
     ·subst hbg
      simp only [Hp.qJ,Option.some.injEq] at hb
      subst hb
      refine ⟨_,heap_alloc_new w.drew _,?_,?_⟩
      ·exact ⟨(Builtin.zeroCells z.cells (grownCap w (k+m) c e - (k+m))).toList,by simp⟩
      ·simp only [Array.size_append,List.size_toArray,size_zeroCells,hzs,hxl,hyl,←Nat.add_mul]
       congr 1
       omega
     ·rw [Hp.upd_ne hbg] at hb
      obtain ⟨c0,g1,g2⟩:=hr.mu b c hb
      exact ⟨c0,by rw [heap_alloc_old w.drew _ b (Array.getElem?_eq_some_iff.1 g1).1]; exact g1,g2⟩
    ·by_cases hbg:b=w.heap.size
     ·subst hbg; exact hf.1
     ·rw [Hp.upd_ne hbg] at hb; exact hr.ap b hb
theorem sound_ca {c:Call}{f:Operand}(hd:∀t,o.dst=some t→t < n)(ha:Agree n σ a)(hr:Rel F M w)(ho:o.op=.call c)(hc:c.callee=.value f)
  (h:stepK P s o.dst (.ca f c.args.toList) K σ F M):o.wp P a w (St n K F M w) Q:=by
 obtain ⟨g,fi,ca,hf,vs,hvs,⟨⟨fn,hfn,hname,hbody⟩,hcall⟩⟩:=h
 have hargs:=map_of_evs ha hvs
 have e1:(fi++vs.toArray++ca)=(fi.toList++vs++ca.toList).toArray:=by
  apply Array.ext'
  simp
 unfold Oper.wp execOp
 simp only [ho,resolve,hc,hargs,ha.ev hf,Deferred.ofValue,Sem.run_bind,Sem.run_pure,Result.andThen_ok,invoke,callFunc,run_program,hfn,hname,hbody,Bool.false_eq_true,if_false,e1]
 rw [Oper.upon_enter]
 refine (hcall w hr).mono ?_
 rintro e w' ⟨v,F',M',rfl,h1,h2,_,h3⟩
 exact ⟨_,_,_,ha.put hd,h1,h2,h3⟩
theorem sound_cp {t t' e e':TypeId}{es:Nat}{x y:Operand}(hd:∀t,o.dst=some t→t < n)(ha:Agree n σ a)(hr:Rel F M w)
  (ho:o.op=.call { callee:=.builtin .copy,args:=#[x,y],argTypes:=#[t,t'] })(he:elemT P t=some e)(_he':elemT P t'=some e')(hes:sizeT P e=some es)
  (h:stepK P s o.dst (.cp es x y) K σ F M):o.wp P a w (St n K F M w) Q:=by
 obtain ⟨b,of,k,cp,hx,u,hy,m,ys,⟨hyl,hsrc⟩,hpl,en,hm,hlen,hK⟩:=h
 obtain ⟨cur,h1,⟨tl,h2⟩,h3⟩:=hr.mu b en hm
 have hmin:Nat.min m k=min m k:=rfl
 have hle:min m k * es≤k * es:=Nat.mul_le_mul_right _ (Nat.min_le_right _ _)
 have hle':min m k * es≤m * es:=Nat.mul_le_mul_right _ (Nat.min_le_left _ _)
 have hnl:(ys.take (min m k * es)).length=min m k * es:=by rw [List.length_take,hyl]; omega
 have hcur:en.cells.length≤cur.size:=by have:=congrArg List.length h2; simp at this; omega
 have hst:=run_storeCells_at P b of en.elem (ys.take (min m k * es)) 0 cur w h1 (by rw [hnl]; omega) (fun v hv=>hpl v (List.mem_of_mem_take hv))
 have hfirst:(Builtin.firstCells es (min m k) u).run P w=.ok (ys.take (min m k * es)).toArray w∧(Builtin.lenOf u).run P w=.ok m w:=by
  rcases hsrc with ⟨rfl,rfl⟩ | ⟨ad,cap,rfl,hys⟩
  ·simp [Builtin.firstCells,Builtin.lenOf]
  ·have hc:=src_cells hr hyl hys
   have:=run_loadCells_list (P:=P) w ad (ys.take (min m k * es)) (fun j v hj=>hc j v (by
    rw [List.getElem?_take] at hj
    split at hj
    ·exact hj
    ·simp at hj))
   rw [hnl] at this
   simp [Builtin.firstCells,Builtin.lenOf,this]
 have hrun:(execOp a.eval o).run P w=.ok (.value (.int .i64 (min m k:Nat))) (w.setRow b (cur.toList.take (of+0)++ys.take (min m k * es)++cur.toList.drop (of+0+(ys.take (min m k * es)).length)).toArray):=by
  unfold execOp
  simp only [ho,resolve,invoke,builtin,List.map_toArray,List.map_cons,List.map_nil,ha.ev hx,ha.ev hy,Sem.run_bind,Sem.run_pure,Result.andThen_ok]
  simp [Builtin.copy_,run_underlying (elemT_spec he),hfirst.1,hfirst.2,run_sizeOf hes,hmin]
  simp at hst
  simp [hst,goInt]
 unfold Oper.wp
 rw [hrun]
 refine ⟨_,_,_,ha.put hd,hr.setRow (new:=⟨en.cells.take of++ys.take (min m k * es)++en.cells.drop (of+min m k * es),en.elem,en.size⟩) hm (fun q hq=>setRow_other w b q _ hq) (setRow_heap w b cur _ en.elem _ h1) ?_ ?_,
  Fr.setRow hm (fun q hq=>setRow_other w b q _ hq) rfl ⟨rfl,Nat.le_refl _⟩ rfl (by simp [World.setRow]),hK⟩
 ·rw [hnl]
  refine ⟨tl,?_⟩
  simp only [Nat.add_zero]
  rw [←h2,List.take_append_of_le_length (by omega),List.drop_append_of_le_length (by omega)]
  simp
 ·rw [hnl]; simp [hnl]; omega
theorem sound_cl {t e:TypeId}{es:Nat}{z:List Value}{x:Operand}(hd:∀t,o.dst=some t→t < n)(ha:Agree n σ a)(hr:Rel F M w)
  (ho:o.op=.call { callee:=.builtin .clear,args:=#[x],argTypes:=#[t] })(he:elemT P t=some e)(hz:zeroT P e=some z)
  (h:stepK P s o.dst (.cl es z x) K σ F M):o.wp P a w (St n K F M w) Q:=by
 obtain ⟨ad,k,cp,hx,hpl,hzl,h⟩:=h
 rcases h with ⟨rfl,hK⟩ | ⟨h0,b,of,en,rfl,hm,hlen,hK⟩
 ·have hrun:(execOp a.eval o).run P w=.ok (.value (.tuple #[])) w:=by
   unfold execOp
   cases ad <;> simp [ho,resolve,invoke,builtin,ha.ev hx,Builtin.clear_,run_underlying (elemT_spec he)]
  unfold Oper.wp
  rw [hrun]
  exact ⟨_,_,_,ha.put hd,hr,Fr.refl _ _ _,hK⟩
 obtain ⟨cur,h1,⟨tl,h2⟩,h3⟩:=hr.mu b en hm
 obtain ⟨zv,hzv,hzc⟩:=run_zeroValue hz w
 have hcells:(Builtin.zeroCells zv.cells k).toList=(List.replicate k z).flatten:=by
  simp only [Builtin.zeroCells,Array.toList_map,Array.toList_range]
  have:=flatten_replicate_mod zv.cells.toList k
  rw [hzc] at this
  rw [←this]
  have e1:zv.cells=z.toArray:=by rw [←hzc]
  rw [e1]; simp
 have hnl:((List.replicate k z).flatten).length=k * es:=by simp [hzl]
 have hcur:en.cells.length≤cur.size:=by have:=congrArg List.length h2; simp at this; omega
 have hst:=run_storeCells_at P b of en.elem ((List.replicate k z).flatten) 0 cur w h1 (by rw [hnl]; omega) (fun v hv=>hpl v (by
  rw [List.mem_flatten] at hv
  obtain ⟨l,hl,hv⟩:=hv
  rw [List.eq_of_mem_replicate hl] at hv; exact hv))
 have hk0:¬k=0:=by omega
 have hrun:(execOp a.eval o).run P w=.ok (.value (.tuple #[])) (w.setRow b (cur.toList.take (of+0)++(List.replicate k z).flatten++cur.toList.drop (of+0+((List.replicate k z).flatten).length)).toArray):=by
  obtain ⟨k',rfl⟩:∃k',k=k'+1:=⟨k - 1,by omega⟩
  unfold execOp
  simp only [ho,resolve,invoke,builtin,List.map_toArray,List.map_cons,List.map_nil,ha.ev hx,Sem.run_bind,Sem.run_pure,Result.andThen_ok]
  simp [Builtin.clear_,run_underlying (elemT_spec he),hzv,hcells]
  simp at hst
  simp [hst]
 unfold Oper.wp
 rw [hrun]
 refine ⟨_,_,_,ha.put hd,hr.setRow (new:=⟨en.cells.take of++(List.replicate k z).flatten++en.cells.drop (of+k * es),en.elem,en.size⟩) hm (fun q hq=>setRow_other w b q _ hq) (setRow_heap w b cur _ en.elem _ h1) ?_ ?_,
  Fr.setRow hm (fun q hq=>setRow_other w b q _ hq) rfl ⟨rfl,Nat.le_refl _⟩ rfl (by simp [World.setRow]),hK⟩
 ·rw [hnl]
  refine ⟨tl,?_⟩
  simp only [Nat.add_zero]
  rw [←h2,List.take_append_of_le_length (by omega),List.drop_append_of_le_length (by omega)]
  simp
 ·rw [hnl]; simp [hnl,-List.length_flatten]; omega
theorem findNow_lookM:∀{es:List MapEntry} {l:List (Int × Value)} (n:Int) (i:Nat),es.map (fun e=>(e.key,e.val))=l.map (fun p=>(.int .i64 p.1,p.2))→
  Instr.findNow (.int .i64) (.int .i64 n) es i=some (lookM l n i)
 | [],[],n,i,_=>rfl
 | [],p :: l,n,i,h=>by simp at h
 | e :: es,[],n,i,h=>by simp at h
 | e :: es,p :: l,n,i,h=>by
  simp only [List.map_cons,List.cons.injEq,Prod.mk.injEq] at h
  obtain ⟨⟨h1,h2⟩,h3⟩:=h
  have ih:=findNow_lookM n (i+1) h3
  by_cases hp:p.1=n
  ·simp [Instr.findNow,Instr.sameNow,h1,lookM,hp,h2]
  ·have hp':(n == p.1)=false:=by simpa using fun h:n=p.1=>hp h.symm
   simp [Instr.findNow,Instr.sameNow,h1,lookM,hp,hp',ih]
theorem run_checkInt {kt:TypeId}{k:IntKind}{n:Int}{e:Bool}(hk:P.underlying kt=some (.int k)):(Instr.checkKey e 10000 kt (.int k n)).run P w=.ok () w:=by
 unfold Instr.checkKey
 simp [run_underlying hk]
theorem sound_gz {t t' e:TypeId}{kn:IntKind}{i:TypeInfo}{z:Value}{x y:Operand}(hd:∀t,o.dst=some t→t < n)(ha:Agree n σ a)(hr:Rel F M w)
  (ho:o.op=.call { callee:=.builtin .append,args:=#[x,y],argTypes:=#[t,t'] })(he:elemT P t=some e)(ht':P.underlying t'=some (.int kn))(hi:P.info? e=some i)(hz:i.zero=some z)
  (hzs:z.cells.size=i.size)(hp:0 < i.size)(h:stepK P s o.dst (.gz e i.size i.bytes z.cells.toList x y) K σ F M):o.wp P a w (St n K F M w) Q:=by
 obtain ⟨k,m,hx,hy,h0,hmm,hby,hK⟩:=h
 have hh:=Lib.run_append_nil_zeros (P:=P) w t t' o.type e i z k kn (elemT_spec he) ht' hi hz m h0 hp (by simp only [maxLen] at hmm; omega) (by omega)
 have hge:=grownCap_ge w m 0 e
 have hcm:=grownCap_le_maxLen w m 0 e hmm
 have hrun:(execOp a.eval o).run P w=.ok (.value (.slice (some ⟨w.heap.size,0,none⟩) m (grownCap w m 0 e))) (w.drew.alloc (.cells (Builtin.zeroCells z.cells m++Builtin.zeroCells z.cells (grownCap w m 0 e - m)) e)):=by
  unfold execOp
  simp [ho,resolve,invoke,builtin,ha.ev hx,ha.ev hy,hh]
 have hcells:(Builtin.zeroCells z.cells m).toList=(List.replicate m z.cells.toList).flatten:=by
  simp only [Builtin.zeroCells,Array.toList_map,Array.toList_range]
  have:=flatten_replicate_mod z.cells.toList m
  simpa using this
 unfold Oper.wp
 rw [hrun]
 have hf:=hr.fresh (Nat.le_refl _)
 refine ⟨_,F,M.upd w.heap.size ⟨(List.replicate m z.cells.toList).flatten,e,grownCap w m 0 e * i.size⟩,ha.put hd,⟨fun b c hb=>?_,fun b c hb=>?_,fun b hb=>?_,fun b l hb=>?_⟩,
  ⟨rfl,⟨rfl,Nat.le_succ _⟩,rfl,by simp,fun b hb h hp=>⟨heap_alloc_old w.drew _ b hb,by rw [Hp.upd_ne (by omega)]; exact h,hp,id⟩⟩,hK _ _ hf.1 hf.2 hge hcm⟩
 rotate_right
 ·obtain ⟨es,k,g1,g2⟩:=hr.mp b l hb
  exact ⟨es,k,by rw [heap_alloc_old w.drew _ b (Array.getElem?_eq_some_iff.1 g1).1]; exact g1,g2⟩
 ·obtain ⟨c0,e0,fr,g1,g2⟩:=hr.fz b c hb
  exact ⟨c0,e0,fr,by rw [heap_alloc_old w.drew _ b (Array.getElem?_eq_some_iff.1 g1).1]; exact g1,g2⟩
 ·by_cases hbg:b=w.heap.size
  ·subst hbg
   simp only [Hp.qJ,Option.some.injEq] at hb
   subst hb
   refine ⟨_,heap_alloc_new w.drew _,?_,?_⟩
   ·exact ⟨(Builtin.zeroCells z.cells (grownCap w m 0 e - m)).toList,by simp [hcells]⟩
   ·simp only [Array.size_append,size_zeroCells,hzs,←Nat.add_mul]
    congr 1
    omega
  ·rw [Hp.upd_ne hbg] at hb
   obtain ⟨c0,g1,g2⟩:=hr.mu b c hb
   exact ⟨c0,by rw [heap_alloc_old w.drew _ b (Array.getElem?_eq_some_iff.1 g1).1]; exact g1,g2⟩
 ·by_cases hbg:b=w.heap.size
  ·subst hbg; exact hf.1
  ·rw [Hp.upd_ne hbg] at hb; exact hr.ap b hb
theorem sound_mm {t kt et:TypeId}(hd:∀t,o.dst=some t→t < n)(ha:Agree n σ a)(hr:Rel F M w)(ho:o.op=.makeMap t none)(_ht:P.underlying t=some (.map kt et))
  (h:stepK P s o.dst .mm K σ F M):o.wp P a w (St n K F M w) Q:=by
 have hrun:(execOp a.eval o).run P w=.ok (.value (.map (some w.heap.size))) (w.alloc (.map #[] 0)):=by
  unfold execOp
  simp [ho,Instr.makeMap]
 unfold Oper.wp
 rw [hrun]
 exact ⟨_,_,_,ha.put hd,hr.allocM,Fr.allocM _,h _ (hr.fresh (Nat.le_refl _)).1 (hr.fresh (Nat.le_refl _)).2 (hr.freshP (Nat.le_refl _))⟩
theorem sound_ml {t kt et:TypeId}{z:Value}{x i:Operand}(hd:∀t,o.dst=some t→t < n)(ha:Agree n σ a)(hr:Rel F M w)(ho:o.op=.lookup t x i false)(ht:P.underlying t=some (.map kt et))
  (hk:P.underlying kt=some (.int .i64))(hz:(P.info? et).bind (·.zero)=some z)(h:stepK P s o.dst (.ml z x i) K σ F M):o.wp P a w (St n K F M w) Q:=by
 obtain ⟨r,l,m,hx,hi,hm,hK⟩:=h
 obtain ⟨es,clock,hb,hes⟩:=hr.mp r l hm
 have hf:=findNow_lookM m 0 hes
 have hzr:(zeroValue et).run P w=.ok z w:=by
  cases hi:P.info? et with
  | none=>simp [hi] at hz
  | some ti=>simp [hi] at hz; simp [zeroValue,typeInfo,hi,hz]
 have hg:(getObj r).run P w=.ok (.map es clock) w:=by simp [getObj,Sem.run,hb]
 have hrun:(execOp a.eval o).run P w=.ok (.value (((lookM l m 0).map (·.2)).getD z)) w:=by
  unfold execOp
  simp only [ho,ha.ev hx,ha.ev hi,Instr.lookup,Sem.run_bind,run_underlying ht,Result.andThen_ok,hg,Sem.run_pure,run_checkInt hk]
  simp only [Instr.findKey,Sem.run_bind,run_underlying hk,Result.andThen_ok,hf,Sem.run_pure]
  cases hl:lookM l m 0 with
  | none=>simp [hzr]
  | some p=>simp
 unfold Oper.wp
 rw [hrun]
 exact ⟨_,_,_,ha.put hd,hr,Fr.refl _ _ _,hK⟩
theorem sound_mu {t kt et:TypeId}{x i y:Operand}(hd:∀t,o.dst=some t→t < n)(ha:Agree n σ a)(hr:Rel F M w)(ho:o.op=.mapUpdate t x i y)(ht:P.underlying t=some (.map kt et))
  (hk:P.underlying kt=some (.int .i64))(h:stepK P s o.dst (.mu x i y) K σ F M):o.wp P a w (St n K F M w) Q:=by
 obtain ⟨r,l,m,v,hx,hi,hy,hm,hno,hK⟩:=h
 obtain ⟨es,clock,hb,hes⟩:=hr.mp r l hm
 have hf:=findNow_lookM m 0 hes
 rw [hno] at hf
 have hg:(getObj r).run P w=.ok (.map es clock) w:=by simp [getObj,Sem.run,hb]
 have hs:(setObj r (.map (es.push { key:=.int .i64 m,val:=v,born:=clock }) (clock+1))).run P w=.ok () { w with heap:=w.heap.setIfInBounds r (.map (es.push { key:=.int .i64 m,val:=v,born:=clock }) (clock+1)) }:=by
  simp [setObj,Sem.run,hb]
 have hrun:(execOp a.eval o).run P w=.ok .skip { w with heap:=w.heap.setIfInBounds r (.map (es.push { key:=.int .i64 m,val:=v,born:=clock }) (clock+1)) }:=by
  unfold execOp
  simp only [ho,ha.ev hx,ha.ev hi,ha.ev hy,Instr.mapUpdate,Sem.run_bind,run_underlying ht,Result.andThen_ok,hg,Sem.run_pure,run_checkInt hk]
  simp only [Instr.findKey,Sem.run_bind,run_underlying hk,Result.andThen_ok,hf,Sem.run_pure,hs]
 have hlt:=(Array.getElem?_eq_some_iff.1 hb).1
 unfold Oper.wp
 rw [hrun]
 refine ⟨_,_,_,ha.put hd,hr.putM hm (fun k hk=>?_) (es:=es.push { key:=.int .i64 m,val:=v,born:=clock }) (clock:=clock+1) ?_ ?_,Fr.putM hm (fun k hk=>?_) rfl ⟨rfl,Nat.le_refl _⟩ rfl (by simp),hK⟩
 ·simp [Ne.symm hk]
 ·simp [hlt]
 ·have:es.toList.map (fun e=>(e.key,e.val))=l.map (fun p=>(Value.int .i64 p.1,p.2)):=hes
  simp [mapIs,this]
 ·simp [Ne.symm hk]
theorem step_sound {k:SK}(hd:∀t,o.dst=some t→t < n)(ha:Agree n σ a)(hr:Rel F M w)(hk:slimK P o=some k)(h:stepK P s o.dst k K σ F M) :
  o.wp P a w (St n K F M w) Q:=by
 unfold slimK at hk
 split at hk
 ·rename_i q hq
  simp at hk; subst hk
  exact sound_p (s:=s) hd ha hr hq h
 ·split at hk
  ·rename_i e ho
   cases hz:zeroT P e with
   | none=>simp [hz] at hk
   | some z=>
    simp [hz] at hk; subst hk
    obtain ⟨zv,h1,h2⟩:=run_zeroValue hz w
    refine sound_new (c:=z) (e:=e) hd ha hr ?_ (h _ (hr.fresh (Nat.le_refl _)).1 (hr.fresh (Nat.le_refl _)).2)
    unfold execOp
    have h3:zv.cells=z.toArray:=by rw [←h2]
    simp [ho,Instr.alloc,h1,newVar,newRow,h3]
  ·rename_i e x ho
   simp at hk; subst hk
   obtain ⟨v,hx,hK⟩:=h
   refine sound_new (c:=v.cells.toList) (e:=e) hd ha hr ?_ (hK _ (hr.fresh (Nat.le_refl _)).1 (hr.fresh (Nat.le_refl _)).2)
   unfold execOp
   simp [ho,Instr.box,ha.ev hx,newVar,newRow]
  ·rename_i t len parts ho
   cases he:elemT P t with
   | none=>simp [he] at hk
   | some e=>
    cases hs:sizeT P e with
    | none=>simp [he,hs] at hk
    | some es=>
     cases hz:zeroT P e with
     | none=>simp [he,hs,hz] at hk
     | some z=>
      simp [he,hs,hz] at hk
      obtain ⟨⟨h24,hzl⟩,rfl⟩:=hk
      obtain ⟨ps,hp,cs,hf,hK⟩:=h
      obtain ⟨zv,h1,h2⟩:=run_zeroValue hz w
      obtain ⟨h3,h4⟩:=evParts_get ha hp
      refine sound_new (c:=cs) (e:=e) hd ha hr ?_ (hK _ (hr.fresh (Nat.le_refl _)).1 (hr.fresh (Nat.le_refl _)).2)
      have hzc:zv.cells=z.toArray:=by rw [←h2]
      have hcells:((Array.range (len * es)).map fun i=>z.toArray[i % z.toArray.size]!).toList=(List.replicate len z).flatten:=by
       rw [Array.toList_map,Array.toList_range,←hzl]
       exact flatten_replicate_mod z len
      have hfill:=fillV_sound (fun i=>some (i * es,es)) (parts.toList.map fun (i,x)=>(i,a.eval x)) ps
       ((Array.range (len * es)).map fun i=>z.toArray[i % z.toArray.size]!) cs (by simp [h3])
       (fun j i u hj=>by
        rw [List.getElem?_map] at hj
        cases hj':parts.toList[j]? with
        | none=>rw [hj'] at hj; simp at hj
        | some y=>
         obtain ⟨i',x⟩:=y
         rw [hj'] at hj
         simp at hj
         obtain ⟨rfl,rfl⟩:=hj
         exact ⟨_,_,rfl,h4 j (i' * es) es x (by rw [List.getElem?_map,hj']; rfl)⟩) (by rw [hcells]; exact hf)
      have h24':¬(len * es > 2 ^ 24):=by omega
      unfold execOp
      by_cases h0:len * es=0
      ·have hfill0:Instr.fill (fun i=>some (i * es,es)) #[] (parts.toList.map fun (i,x)=>(i,a.eval x))=some cs.toArray:=by
        rw [h0] at hfill
        simpa [Array.range_zero'] using hfill
       simp [ho,Instr.buildSlice,run_underlying (elemT_spec he),run_sizeOf hs,h0,Array.range_zero',hfill0,newRow]
      ·simp only [ho,Instr.buildSlice,Sem.run_bind,run_underlying (elemT_spec he),Result.andThen_ok,run_sizeOf hs,h24',if_false,Sem.run_pure,h0,h1,hzc,Array.toList_map]
       rw [hfill]
       simp [newRow]
  ·rename_i t x y ho
   cases hn:sizeT P t with
   | none=>simp [hn] at hk
   | some m=>
    simp [hn] at hk; subst hk
    exact sound_st (s:=s) hd ha hr ho hn h
  ·rename_i t l c ho
   cases he:elemT P t with
   | none=>simp [he] at hk
   | some e=>
    cases hs:sizeT P e with
    | none=>simp [he,hs] at hk
    | some es=>
     cases hz:zeroT P e with
     | none=>simp [he,hs,hz] at hk
     | some z=>
      cases hi:P.info? e with
      | none=>simp [he,hs,hz,hi] at hk
      | some i=>
       simp [he,hs,hz,hi] at hk
       obtain ⟨hzl,rfl⟩:=hk
       obtain ⟨k,p,hl,k',m,hc,hpm,hmm,hby,hK⟩:=h
       have hsz:i.size=es:=by simpa [sizeT,hi] using hs
       cases hzi:i.zero with
       | none=>simp [zeroT,hi,hzi] at hz
       | some zv=>
        have hzc:zv.cells=z.toArray:=by
         have:zv.cells.toList=z:=by simpa [zeroT,hi,hzi] using hz
         rw [←this]
        have hm9:(m:Int)≤9223372036854775807:=by simp only [maxLen] at hmm; omega
        have hb':(i.bytes:Int) * (m:Int)≤281474976710656:=by
         have h:((i.bytes * m:Nat):Int)≤281474976710656:=by rw [Nat.mul_comm] at hby; omega
         rwa [Int.natCast_mul] at h
        have hrun:=run_make (P:=P) w t e i zv (elemT_spec he) hi hzi k k' p m (by omega) (by omega) hb' hm9
        have hcells:(madeCells zv.cells ((m:Int).toNat * i.size)).toList=(List.replicate m z).flatten:=by
         rw [hzc,madeCells,Array.toList_map,Array.toList_range,hsz,←hzl]
         simpa using flatten_replicate_mod z m
        have hcells':madeCells zv.cells ((m:Int).toNat * i.size)=((List.replicate m z).flatten).toArray:=by rw [←hcells]
        have hlen:((List.replicate m z).flatten).length=m * es:=by simp [hzl]
        refine sound_new (c:=(List.replicate m z).flatten) (e:=e) (v:=.slice (some ⟨w.heap.size,0,none⟩) p m) hd ha hr ?_ ?_
        ·unfold execOp
         simp only [ho,ha.ev hl,ha.ev hc,Sem.run_bind,hrun,Result.andThen_ok,Sem.run_pure,hcells']
         simp only [Int.toNat_natCast]
        ·rw [hlen]
         exact hK _ (hr.fresh (Nat.le_refl _)).1 (hr.fresh (Nat.le_refl _)).2
  ·rename_i c ho
   split at hk
   ·rename_i x y t t' h1 h2 h3
    split at hk
    ·rename_i htt
     subst htt
     cases he:elemT P t with
     | none=>simp [he] at hk
     | some e=>
      cases hi:P.info? e with
      | none=>simp [he,hi] at hk
      | some i=>
       cases hz:i.zero with
       | none=>simp [he,hi,hz] at hk
       | some z=>
        simp [he,hi,hz] at hk
        obtain ⟨⟨hzs,hp⟩,rfl⟩:=hk
        obtain ⟨callee,args,argTypes⟩:=c
        simp only at h1 h2 h3
        obtain rfl:args = #[x,y]:=by rw [←Array.toArray_toList (xs:=args),h2]
        obtain rfl:argTypes = #[t,t]:=by rw [←Array.toArray_toList (xs:=argTypes),h3]
        subst h1
        exact sound_ap (s:=s) hd ha hr ho he hi hz hzs hp h
    ·split at hk
     ·rename_i kn ht'
      cases he:elemT P t with
      | none=>simp [he] at hk
      | some e=>
       cases hi:P.info? e with
       | none=>simp [he,hi] at hk
       | some i=>
        cases hz:i.zero with
        | none=>simp [he,hi,hz] at hk
        | some z=>
         simp [he,hi,hz] at hk
         obtain ⟨⟨hzs,hp⟩,rfl⟩:=hk
         obtain ⟨callee,args,argTypes⟩:=c
         simp only at h1 h2 h3
         obtain rfl:args = #[x,y]:=by rw [←Array.toArray_toList (xs:=args),h2]
         obtain rfl:argTypes = #[t,t']:=by rw [←Array.toArray_toList (xs:=argTypes),h3]
         subst h1
         exact sound_gz (s:=s) hd ha hr ho he ht' hi hz hzs hp h
     ·simp at hk
   ·rename_i x y t t' h1 h2 h3
    cases he:elemT P t with
    | none=>simp [he] at hk
    | some e=>
     cases he':elemT P t' with
     | none=>simp [he,he'] at hk
     | some e'=>
      cases hs:sizeT P e with
      | none=>simp [he,he',hs] at hk
      | some es=>
       simp [he,he',hs] at hk; subst hk
       obtain ⟨callee,args,argTypes⟩:=c
       simp only at h1 h2 h3
       obtain rfl:args = #[x,y]:=by rw [←Array.toArray_toList (xs:=args),h2]
       obtain rfl:argTypes = #[t,t']:=by rw [←Array.toArray_toList (xs:=argTypes),h3]
       subst h1
       exact sound_cp (s:=s) hd ha hr ho he he' hs h
   ·rename_i x t h1 h2 h3
    cases he:elemT P t with
    | none=>simp [he] at hk
    | some e=>
     cases hs:sizeT P e with
     | none=>simp [he,hs] at hk
     | some es=>
      cases hz:zeroT P e with
      | none=>simp [he,hs,hz] at hk
      | some z=>
       simp [he,hs,hz] at hk
       obtain ⟨hzl,rfl⟩:=hk
       obtain ⟨callee,args,argTypes⟩:=c
       simp only at h1 h2 h3
       obtain rfl:args = #[x]:=by rw [←Array.toArray_toList (xs:=args),h2]
       obtain rfl:argTypes = #[t]:=by rw [←Array.toArray_toList (xs:=argTypes),h3]
       subst h1
       exact sound_cl (s:=s) hd ha hr ho he hz h
   ·rename_i f h1
    simp at hk; subst hk
    exact sound_ca (s:=s) hd ha hr ho h1 h
   ·simp at hk
  ·rename_i t ho
   split at hk
   ·rename_i kt et ht
    simp at hk; subst hk
    exact sound_mm (s:=s) hd ha hr ho ht h
   ·simp at hk
  ·rename_i t x i ho
   split at hk
   ·rename_i kt et ht
    split at hk
    ·rename_i hkt
     cases hz:(P.info? et).bind (·.zero) with
     | none=>simp [hz] at hk
     | some z=>
      simp [hz] at hk; subst hk
      exact sound_ml (s:=s) hd ha hr ho ht hkt hz h
    ·simp at hk
   ·simp at hk
  ·rename_i t x i y ho
   split at hk
   ·rename_i kt et ht
    split at hk
    ·rename_i hkt
     simp at hk; subst hk
     exact sound_mu (s:=s) hd ha hr ho ht hkt h
    ·simp at hk
   ·simp at hk
  ·simp at hk
theorem slimK_st {fl:List Nat}{m:Nat}{x y:Operand}(h:slimK P o=some (.st fl m x y)):fl=[]:=by
 unfold slimK at h
 split at h
 ·simp at h
 ·split at h
  ·simp at h
  ·simp at h
  ·simp [Option.bind_eq_some_iff] at h
  ·simp at h; obtain ⟨_,_,h,_⟩:=h; exact h
  ·simp [Option.bind_eq_some_iff] at h
  ·split at h
   ·split at h
    ·simp [Option.bind_eq_some_iff] at h
    ·split at h
     ·simp [Option.bind_eq_some_iff] at h
     ·simp at h
   ·simp [Option.bind_eq_some_iff] at h
   ·simp [Option.bind_eq_some_iff] at h
   ·simp at h
   ·simp at h
  ·split at h <;> simp at h
  ·split at h
   ·split at h
    ·simp [Option.bind_eq_some_iff] at h
    ·simp at h
   ·simp at h
  ·split at h
   ·split at h <;> simp at h
   ·simp at h
  ·simp at h
theorem slimK_cf {fl:List Nat}{x:Operand}{y:List Operand}(h:slimK P o=some (.cf fl x y)):False:=by
 unfold slimK at h
 split at h
 ·simp at h
 ·split at h
  ·simp at h
  ·simp at h
  ·simp [Option.bind_eq_some_iff] at h
  ·simp at h
  ·simp [Option.bind_eq_some_iff] at h
  ·split at h
   ·split at h
    ·simp [Option.bind_eq_some_iff] at h
    ·split at h
     ·simp [Option.bind_eq_some_iff] at h
     ·simp at h
   ·simp [Option.bind_eq_some_iff] at h
   ·simp [Option.bind_eq_some_iff] at h
   ·simp at h
   ·simp at h
  ·split at h <;> simp at h
  ·split at h
   ·split at h
    ·simp [Option.bind_eq_some_iff] at h
    ·simp at h
   ·simp at h
  ·split at h
   ·split at h <;> simp at h
   ·simp at h
  ·simp at h
def _root_.Go.Ax.SK.withFl:SK→List Nat→SK
 | .st _ n a x,fl=>.st fl n a x
 | .ca f a,0 :: _=>.cq f a
 | .ca f a,(_+1) :: l=>.cf l f a
 | .cf _ f a,l=>.cf l f a
 | k,_=>k
theorem step_sound_fl {k:SK}{fl:List Nat}(hd:∀t,o.dst=some t→t < n)(ha:Agree n σ a)(hr:Rel F M w)(hk:slimK P o=some k)(h:stepK P s o.dst (k.withFl fl) K σ F M) :
  o.wp P a w (St n K F M w) Q:=by
 by_cases hst:∃fl' m x y,k=.st fl' m x y
 ·obtain ⟨fl',m,x,y,rfl⟩:=hst
  refine step_sound (s:=s) hd ha hr hk ?_
  simp only [SK.withFl,stepK] at h
  obtain ⟨b,of,h1,v,h2,e,h3,h4,h5,h6,h7,h8⟩:=h
  have hfl:fl'=[]:=slimK_st hk
  subst hfl
  exact ⟨b,of,h1,v,h2,e,h3,h4,h5,h6,by simp,h8⟩
 ·by_cases hca:∃f args b l,k=.ca f args∧fl=b :: l
  ·obtain ⟨f,args,b,l,rfl,rfl⟩:=hca
   refine step_sound (s:=false) hd ha hr hk ?_
   cases b with
   | zero=>
    obtain ⟨g,fi,c,h1,vs,h2,h3⟩:=h
    exact ⟨g,fi,c,h1,vs,h2,h3.mono fun v F' M' q=>⟨(fun e=>by cases e),q⟩⟩
   | succ b=>
    obtain ⟨g,fi,c,h1,vs,h2,h3⟩:=h
    exact ⟨g,fi,c,h1,vs,h2,h3.mono fun v F' M' q=>⟨(fun e=>by cases e),q.2⟩⟩
  ·have hcf:∀fl' f args,k≠.cf fl' f args:=fun fl' f args e=>slimK_cf (e ▸ hk)
   have:k.withFl fl=k:=by
    cases k <;> first | rfl | (exfalso; exact hst ⟨_,_,_,_,rfl⟩) | (exfalso; exact hcf _ _ _ rfl) | (cases fl <;> first | rfl | (exfalso; exact hca ⟨_,_,_,_,rfl,rfl⟩))
   rw [this] at h
   exact step_sound (s:=s) hd ha hr hk h
end
end Go.Ax
namespace Go.Ax
open Go
set_option linter.unusedSimpArgs false
theorem wanted_iff {P:Program}{n m:Nat}{σ:Env}{a:Act}{ops:Array Oper}{o:Oper}{so:SO}(ha:Agree n σ a)(hs:slimO P m ops o=some so) :
  (so.g=none→Region.wanted o (yielded ops a.tmps)=true)∧
  (∀t want v,so.g=some (t,want)→look σ t=some v→(Region.wanted o (yielded ops a.tmps)=true↔v=.bool want))∧so.d=o.dst∧(∀t,o.dst=some t→t < m)∧slimK P o=some so.k:=by
 unfold slimO at hs
 cases hk:slimK P o with
 | none=>simp [hk] at hs
 | some k=>
  simp only [hk] at hs
  split at hs
  ·rename_i hd
   have hd':∀t,o.dst=some t→t < m:=fun t ht=>by simpa [ht] using hd
   split at hs
   ·rename_i hg
    simp at hs; subst hs
    exact ⟨fun _=>by simp [Region.wanted,hg],fun t want v h=>by simp at h,rfl,hd',rfl⟩
   ·rename_i j want hg
    cases hj:(ops[j]?).bind (·.dst) with
    | none=>simp [hj] at hs
    | some t=>
     simp [hj] at hs; subst hs
     refine ⟨fun h=>by simp at h,fun t' want' v h hv=>?_,rfl,hd',rfl⟩
     simp at h
     obtain ⟨rfl,rfl⟩:=h
     have:=ha.get t v hv
     simp only [Region.wanted,hg,yielded,hj,Option.bind_some,this]
     cases v <;> simp
  ·simp at hs
section
variable {P:Program} {n:Nat} {ops:Array Oper} {Q:Exit→Act→World→Prop}
theorem ops_sound {s:Bool}{K:Env→Fz→Hp→Prop}{F0:Fz}{M0:Hp}{w0:World}(hQ:∀a w,St n K F0 M0 w0 a w→Q .normal a w) :
  ∀{os:List Oper} {sos:List SO} {σ:Env} {F:Fz} {M:Hp} {a:Act} {w:World},os.mapM (slimO P n ops)=some sos→Agree n σ a→Rel F M w→Fr F0 M0 w0 F M w→
   opsW P s sos K σ F M→wpList P ops Q os a w:=by
 intro os
 induction os with
 | nil=>
  intro sos σ F M a w hs ha hr hf h
  simp at hs; subst hs
  exact hQ a w ⟨σ,F,M,ha,hr,hf,h⟩
 | cons o os ih=>
  intro sos σ F M a w hs ha hr hf h
  simp only [List.mapM_cons,Option.bind_eq_bind,Option.pure_def] at hs
  cases ho:slimO P n ops o with
  | none=>simp [ho] at hs
  | some so=>
   cases hos:os.mapM (slimO P n ops) with
   | none=>simp [ho,hos] at hs
   | some rest=>
    simp [ho,hos] at hs; subst hs
    obtain ⟨h1,h2,h3,h4,h5⟩:=wanted_iff ha ho
    simp only [opsW,stepG] at h
    have next:∀a' w',St n (opsW P s rest K) F M w a' w'→wpList P ops Q os a' w':=fun a' w' ⟨σ',F',M',ha',hr',hf',h'⟩=>ih hos ha' hr' (hf.trans hf') h'
    have run:stepK P s so.d so.k (opsW P s rest K) σ F M→o.wp P a w (wpList P ops Q os) Q:=fun hk=>by
     rw [h3] at hk
     exact Oper.wp_mono next (step_sound (s:=s) h4 ha hr h5 hk)
    unfold wpList
    cases hg:so.g with
    | none=>rw [hg] at h; rw [if_pos (h1 hg)]; exact .inl (run h)
    | some g=>
     obtain ⟨t,want⟩:=g
     rw [hg] at h
     obtain ⟨v,hv,hy,hn⟩:=h
     have hiff:=h2 t want v hg hv
     by_cases hb:v=.bool want
     ·rw [if_pos (hiff.2 hb)]; exact .inl (run (hy hb))
     ·rw [if_neg (fun e=>hb (hiff.1 e))]
      have:=hn hb
      rw [h3] at this
      exact ih hos (ha.put h4) hr hf this
end
def PK.ops:PK→List Operand
 | .mv x | .un _ x | .cv _ x | .fa _ x | .fd _ _ _ x | .ld _ _ x | .ex x _ | .ln x | .ls x | .cc x | .nc x | .sn _ x=>[x]
 | .pick c a b=>[c,a,b]
 | .bin _ x y | .eqb _ x y | .eqs _ _ x y | .ia _ x y | .iaa _ _ x y | .ix _ _ _ x y | .si x y=>[x,y]
 | .bd _ ps=>ps.map (·.2.2)
 | .mf _ f c=>f++c
 | .sl _ x lo hi=>x :: (lo.toList++hi.toList)
 | .mx xs | .mn xs=>xs
def SK.ops:SK→List Operand
 | .p q=>q.ops
 | .al _ _=>[]
 | .bx _ x=>[x]
 | .bs _ _ _ ps=>ps.map (·.2.2)
 | .ap _ _ _ x y | .ms _ _ _ _ x y | .cp _ x y=>[x,y]
 | .st _ _ x y=>[x,y]
 | .ca f args=>f :: args
 | .cq f args=>f :: args
 | .cf _ f args=>f :: args
 | .gz _ _ _ _ x y=>[x,y]
 | .mm=>[]
 | .ml _ x i=>[x,i]
 | .mu x i y=>[x,i,y]
 | .cl _ _ x=>[x]
def SK.fls:SK→List Nat
 | .st fl _ _ _=>fl
 | .cf fl _ _=>fl
 | _=>[]
def SK.mono (s:Bool):SK→Bool
 | .st .. | .cp .. | .cl ..=>false
 | .ca ..=>s
 | .cq ..=>false
 | .cf ..=>false
 | _=>true
def PK.still:PK→Bool
 | .ld ..=>false
 | _=>true
theorem evs_congr {σ σ':Env}:∀{l:List Operand} {vs:List Value},(∀x∈l,∀v,ev σ x=some v→ev σ' x=some v)→evs σ l=some vs→evs σ' l=some vs:=by
 intro l
 induction l with
 | nil=>intro vs _ h; exact h
 | cons x l ih=>
  intro vs h hv
  simp only [evs] at hv ⊢
  cases hx:ev σ x with
  | none=>simp [hx] at hv
  | some u=>
   cases hl:evs σ l with
   | none=>simp [hx,hl] at hv
   | some us=>
    rw [h x (by simp) u hx,ih (fun y hy=>h y (by simp [hy])) hl]
    simpa [hx,hl] using hv
theorem evParts_congr {σ σ':Env}:∀{l:List (Nat × Nat × Operand)} {vs:List (Nat × Nat × Value)},(∀x∈l.map (·.2.2),∀v,ev σ x=some v→ev σ' x=some v)→evParts σ l=some vs→evParts σ' l=some vs:=by
 intro l
 induction l with
 | nil=>intro vs _ h; exact h
 | cons x l ih=>
  intro vs h hv
  obtain ⟨o,m,x⟩:=x
  simp only [evParts] at hv ⊢
  cases hx:ev σ x with
  | none=>simp [hx] at hv
  | some u=>
   cases hl:evParts σ l with
   | none=>simp [hx,hl] at hv
   | some us=>
    rw [h x (by simp) u hx,ih (fun y hy=>h y (by simp only [List.map_cons,List.mem_cons]; exact .inr hy)) hl]
    simpa [hx,hl] using hv
theorem val_congr {σ σ':Env}{F F':Fz}{M M':Hp}{q:PK}{v:Value}(h:∀x∈q.ops,∀v,ev σ x=some v→ev σ' x=some v)(hm:q.still=true∨Le F M F' M')
  (hv:q.val σ F M=some v):q.val σ' F' M'=some v:=by
 have one:∀{x:Operand},x∈q.ops→∀{u:Value},ev σ x=some u→ev σ' x=some u:=fun {x} hx {u} hu=>h x hx u hu
 cases q <;> simp only [PK.ops] at h one <;> simp only [PK.val] at hv ⊢
 case mv x=>exact one (by simp) hv
 case pick c a b=>
  split at hv
  ·rename_i t ht
   rw [one (by simp) ht]
   cases t
   ·simp at hv ⊢; exact one (by simp) hv
   ·simp at hv ⊢; exact one (by simp) hv
  ·simp at hv
 case bin o x y=>
  cases hx:ev σ x with
  | none=>simp [hx] at hv
  | some u=>cases hy:ev σ y with
   | none=>simp [hx,hy] at hv
   | some z=>rw [one (by simp) hx,one (by simp) hy]; simpa [hx,hy] using hv
 case eqb neg x y=>
  split at hv
  ·rename_i hx hy; rw [one (by simp) hx,one (by simp) hy]; exact hv
  ·simp at hv
 case eqs e neg x y=>
  split at hv
  ·rename_i hx hy; rw [one (by simp) hx,one (by simp) hy]; exact hv
  ·simp at hv
 case un o x=>
  cases hx:ev σ x with
  | none=>simp [hx] at hv
  | some u=>rw [one (by simp) hx]; simpa [hx] using hv
 case cv k x=>split at hv <;> first | (rename_i hx; rw [one (by simp) hx]; exact hv) | simp at hv
 case fa off x=>split at hv <;> first | (rename_i hx; rw [one (by simp) hx]; exact hv) | simp at hv
 case ia es x i=>split at hv <;> first | (rename_i hx hi; rw [one (by simp) hx,one (by simp) hi]; exact hv) | simp at hv
 case iaa len es x i=>split at hv <;> first | (rename_i hx hi; rw [one (by simp) hx,one (by simp) hi]; exact hv) | simp at hv
 case sn neg x=>split at hv <;> first | (rename_i hx; rw [one (by simp) hx]; exact hv) | simp at hv
 case si x i=>split at hv <;> first | (rename_i hx hi; rw [one (by simp) hx,one (by simp) hi]; exact hv) | simp at hv
 case fd agg off n x=>split at hv <;> first | (rename_i hx; rw [one (by simp) hx]; exact hv) | simp at hv
 case ix agg len es x i=>split at hv <;> first | (rename_i hx hi; rw [one (by simp) hx,one (by simp) hi]; exact hv) | simp at hv
 case ld agg n x=>
  split at hv
  ·rename_i b o hx
   rw [one (by simp) hx]
   rcases hm with hm | hm
   ·simp [PK.still] at hm
   ·cases hb:blk F M b with
    | none=>simp [hb] at hv
    | some c=>
     obtain ⟨c',hc',hp⟩:=blk_le hm hb
     simp only [hb,Option.bind_some] at hv
     simp only [hc',Option.bind_some]
     exact rd_prefix hv hp
  ·simp at hv
 case bd z ps=>
  cases hp:evParts σ ps with
  | none=>simp [hp] at hv
  | some vs=>rw [evParts_congr h hp]; simpa [hp] using hv
 case ex x i=>split at hv <;> first | (rename_i hx; rw [one (by simp) hx]; exact hv) | simp at hv
 case mf fn f c=>
  cases hf:evs σ f with
  | none=>simp [hf,fnV] at hv
  | some fv=>cases hc:evs σ c with
   | none=>simp [hf,hc,fnV] at hv
   | some cv=>
    rw [evs_congr (fun x hx=>h x (by simp [hx])) hf,evs_congr (fun x hx=>h x (by simp [hx])) hc]
    simpa [hf,hc] using hv
 case sl es x lo hi=>
  cases hx:ev σ x with
  | none=>simp [hx] at hv
  | some u=>
   rw [one (by simp) hx]
   rw [hx] at hv
   cases lo with
   | none=>cases hi with
    | none=>exact hv
    | some k=>cases hk:ev σ k with
     | none=>cases u <;> simp [hk] at hv
     | some kv=>simp only [Option.map_some,Option.map_none,one (x:=k) (by simp) hk]; simpa only [Option.map_some,Option.map_none,hk] using hv
   | some l=>cases hl:ev σ l with
    | none=>cases u <;> cases hi <;> simp [hl] at hv
    | some lv=>cases hi with
     | none=>simp only [Option.map_some,Option.map_none,one (x:=l) (by simp) hl]; simpa only [Option.map_some,Option.map_none,hl] using hv
     | some k=>cases hk:ev σ k with
      | none=>cases u <;> cases lv <;> simp [hl,hk] at hv
      | some kv=>simp only [Option.map_some,one (x:=l) (by simp) hl,one (x:=k) (by simp) hk]; simpa only [Option.map_some,hl,hk] using hv
 case ls x=>split at hv <;> first | (rename_i hx; rw [one (by simp) hx]; exact hv) | simp at hv
 case cc x=>split at hv <;> first | (rename_i hx; rw [one (by simp) hx]; exact hv) | simp at hv
 case ln x=>split at hv <;> first | (rename_i hx; rw [one (by simp) hx]; exact hv) | simp at hv
 case mx xs=>
  cases hp:evs σ xs with
  | none=>simp [hp] at hv
  | some vs=>rw [evs_congr h hp]; simpa [hp] using hv
 case mn xs=>
  cases hp:evs σ xs with
  | none=>simp [hp] at hv
  | some vs=>rw [evs_congr h hp]; simpa [hp] using hv
 case nc x=>split at hv <;> first | (rename_i hx; rw [one (by simp) hx]; exact hv) | simp at hv
end Go.Ax
namespace Go.Ax
open Go
theorem Le.apRes {F:Fz}{M M':Hp}{e es n m:Nat}{v v':Value}{xs ys:List Value}(ho:Own M e es v n xs)(h:ApRes F M e es v n m (xs++ys) v' M'):Le F M F M':=by
 rcases h with ⟨_,_,_,rfl⟩ | ⟨r,cap,hr,_,_,_,rfl⟩
 ·exact Le.refl _ _
 ·rcases hr with ⟨c,rfl⟩ | ⟨h1,h2⟩
  ·obtain ⟨_,ho⟩:=ho
   rcases ho with ⟨h0,_⟩ | ⟨g,c',hv,hm,_⟩
   ·simp at h0
   ·simp at hv
    obtain ⟨rfl,rfl⟩:=hv
    exact Le.grow hm (List.prefix_append _ _)
  ·exact Le.upd h1 h2
theorem stepK_congr {P:Program}{s:Bool}{d:Option Nat}{k:SK}{K K':Env→Fz→Hp→Prop}{σ σ':Env}{F:Fz}{M:Hp}
  (ho:∀x∈k.ops,∀v,ev σ x=some v→ev σ' x=some v)(hfl:∀t∈k.fls,∀v,look σ t=some v→look σ' t=some v)
  (h:∀v F' M',(k.mono s=true→Le F M F' M')→K (put σ d v) F' M'→K' (put σ' d v) F' M')(hh:stepK P s d k K σ F M):stepK P s d k K' σ' F M:=by
 cases k <;> simp only [stepK] at hh ⊢ <;> simp only [SK.ops] at ho
 case p q=>obtain ⟨v,h1,h2⟩:=hh; exact ⟨v,val_congr ho (.inr (Le.refl _ _)) h1,h _ _ _ (fun _=>Le.refl _ _) h2⟩
 case al e z=>exact fun r h1 h2=>h _ _ _ (fun _=>Le.upd h1 h2) (hh r h1 h2)
 case bx e x=>obtain ⟨v,h1,h2⟩:=hh; exact ⟨v,ho x (by simp) v h1,fun r a b=>h _ _ _ (fun _=>Le.upd a b) (h2 r a b)⟩
 case bs e len z parts=>obtain ⟨ps,h1,cs,h2,h3⟩:=hh; exact ⟨ps,evParts_congr ho h1,cs,h2,fun r a b=>h _ _ _ (fun _=>Le.upd a b) (h3 r a b)⟩
 case ap e es bytes x y=>
  obtain ⟨v,h1,u,h2,n,xs,h3,m,ys,h4,h5,h6,h7,h8⟩:=hh
  exact ⟨v,ho x (by simp) v h1,u,ho y (by simp) u h2,n,xs,h3,m,ys,h4,h5,h6,h7,fun v' M' a=>h _ _ _ (fun _=>Le.apRes h3 a) (h8 v' M' a)⟩
 case st fl n a x=>
  obtain ⟨b,o,h1,v,h2,e,h3,h4,h5,h6,h7,h8⟩:=hh
  exact ⟨b,o,ho a (by simp) _ h1,v,ho x (by simp) v h2,e,h3,h4,h5,h6,fun t ht=>by
   obtain ⟨u',h9,h10⟩:=h7 t ht
   exact ⟨u',hfl t ht _ h9,h10⟩,h _ _ _ (fun hm=>by simp [SK.mono] at hm) h8⟩
 case ms e es bytes z l c=>
  obtain ⟨k,n,h1,k',m,h2,h3,h4,h5,h6⟩:=hh
  exact ⟨k,n,ho l (by simp) _ h1,k',m,ho c (by simp) _ h2,h3,h4,h5,fun r a b=>h _ _ _ (fun _=>Le.upd a b) (h6 r a b)⟩
 case cp es x y=>
  obtain ⟨b,o,n,c,h1,u,h2,m,ys,h3,h4,e,h5,h6,h7⟩:=hh
  exact ⟨b,o,n,c,ho x (by simp) _ h1,u,ho y (by simp) _ h2,m,ys,h3,h4,e,h5,h6,h _ _ _ (fun hm=>by simp [SK.mono] at hm) h7⟩
 case ca f args=>
  obtain ⟨g,fi,c,h1,vs,h2,h3⟩:=hh
  exact ⟨g,fi,c,ho f (by simp) _ h1,vs,evs_congr (fun x hx=>ho x (by simp [hx])) h2,h3.mono fun v F' M' ⟨a,b⟩=>⟨a,h _ _ _ (fun hm=>a (by simpa [SK.mono] using hm)) b⟩⟩
 case cq f args=>
  obtain ⟨g,fi,c,h1,vs,h2,h3⟩:=hh
  exact ⟨g,fi,c,ho f (by simp) _ h1,vs,evs_congr (fun x hx=>ho x (by simp [hx])) h2,h3.mono fun v F' M' b=>h _ _ _ (fun hm=>by simp [SK.mono] at hm) b⟩
 case cf fl f args=>
  obtain ⟨g,fi,c,h1,vs,h2,h3⟩:=hh
  exact ⟨g,fi,c,ho f (by simp) _ h1,vs,evs_congr (fun x hx=>ho x (by simp [hx])) h2,h3.mono fun v F' M' ⟨a,b⟩=>⟨fun t ht=>by
   obtain ⟨u',h9,h10⟩:=a t ht
   exact ⟨u',hfl t ht _ h9,h10⟩,h _ _ _ (fun hm=>by simp [SK.mono] at hm) b⟩⟩
 case gz e es bytes z x n=>
  obtain ⟨k,m,h1,h2,h3,h4,h5,h6⟩:=hh
  exact ⟨k,m,ho x (by simp) _ h1,ho n (by simp) _ h2,h3,h4,h5,fun r c a b p q=>h _ _ _ (fun _=>Le.upd a b) (h6 r c a b p q)⟩
 case mm=>exact fun r h1 h2 h3=>h _ _ _ (fun _=>Le.setM _ _ _ _) (hh r h1 h2 h3)
 case ml z x i=>obtain ⟨r,l,n,h1,h2,h3,h4⟩:=hh; exact ⟨r,l,n,ho x (by simp) _ h1,ho i (by simp) _ h2,h3,h _ _ _ (fun _=>Le.refl _ _) h4⟩
 case mu x i y=>obtain ⟨r,l,n,v,h1,h2,h3,h4,h5,h6⟩:=hh; exact ⟨r,l,n,v,ho x (by simp) _ h1,ho i (by simp) _ h2,ho y (by simp) _ h3,h4,h5,h _ _ _ (fun _=>Le.setM _ _ _ _) h6⟩
 case cl es z x=>
  obtain ⟨a,n,c,h1,h2,h3,h4⟩:=hh
  refine ⟨a,n,c,ho x (by simp) _ h1,h2,h3,?_⟩
  rcases h4 with ⟨h4,h5⟩ | ⟨h4,b,o,e,h5,h6,h7,h8⟩
  ·exact .inl ⟨h4,h _ _ _ (fun _=>Le.refl _ _) h5⟩
  ·exact .inr ⟨h4,b,o,e,h5,h6,h7,h _ _ _ (fun hm=>by simp [SK.mono] at hm) h8⟩
theorem look_put_ne {σ:Env}{d:Option Nat}{t:Nat}{v:Value}(h:d≠some t):look (put σ d v) t=look σ t:=by
 cases d with
 | none=>rfl
 | some k=>have:¬k=t:=fun e=>h (by rw [e]); simp [put,look,this]
theorem ev_put_ne {σ:Env}{d:Option Nat}{x:Operand}{v:Value}(h:∀t,x=.tmp t→d≠some t):ev (put σ d v) x=ev σ x:=by
 cases x with
 | tmp t=>exact look_put_ne (h t rfl)
 | _=>rfl
theorem Env.le_refl (σ:Env):Env.le σ σ:=fun _ _ h=>h
theorem Env.le_trans {a b c:Env}(h:Env.le a b)(k:Env.le b c):Env.le a c:=fun t v ht=>k t v (h t v ht)
theorem Env.le_put {σ σ':Env}(h:Env.le σ σ')(d:Option Nat)(v:Value):Env.le (put σ d v) (put σ' d v):=by
 intro t u hu
 cases d with
 | none=>exact h t u hu
 | some k=>simp only [put,look] at hu ⊢; split <;> simp_all [h t u]
theorem Env.put_comm {σ:Env}{d e:Option Nat}{u v:Value}(h:∀t,d=some t→e≠some t):Env.le (put (put σ d u) e v) (put (put σ e v) d u):=by
 intro t w hw
 cases d with
 | none=>cases e <;> exact hw
 | some k=>cases e with
  | none=>exact hw
  | some j=>
   have hkj:¬k=j:=fun he=>h k rfl (by rw [he])
   simp only [put,look] at hw ⊢
   by_cases h1:k=t
   ·subst h1
    have:¬j=k:=fun e=>hkj e.symm
    simp [this] at hw ⊢; exact hw
   ·simpa [h1] using hw
theorem ev_le {σ σ':Env}(h:Env.le σ σ'){x:Operand}{v:Value}(hv:ev σ x=some v):ev σ' x=some v:=by
 cases x with
 | tmp t=>exact h t v hv
 | _=>exact hv
def up (K:Env→Fz→Hp→Prop):Env→Fz→Hp→Prop:=fun σ' F M=>∃σ,Env.le σ σ'∧K σ F M
theorem up_up {K:Env→Fz→Hp→Prop}{σ:Env}{F:Fz}{M:Hp}(h:up (up K) σ F M):up K σ F M:=by
 obtain ⟨a,h1,b,h2,h3⟩:=h; exact ⟨b,Env.le_trans h2 h1,h3⟩
def GdT (o:SO)(σ:Env):Prop:=match o.g with | none=>True | some (t,w)=>look σ t=some (.bool w)
def GdF (o:SO)(σ:Env):Prop:=match o.g with | none=>False | some (t,w)=>∃v,look σ t=some v∧v≠.bool w
theorem stepG_iff {P:Program}{s:Bool}{o:SO}{K:Env→Fz→Hp→Prop}{σ:Env}{F:Fz}{M:Hp} :
  stepG P s o K σ F M↔(GdT o σ∧stepK P s o.d o.k K σ F M)∨(GdF o σ∧K (put σ o.d undef) F M):=by
 cases hg:o.g with
 | none=>simp [stepG,GdT,GdF,hg]
 | some p=>
  obtain ⟨t,w⟩:=p
  simp only [stepG,GdT,GdF,hg]
  constructor
  ·rintro ⟨v,h1,h2,h3⟩
   by_cases hb:v=.bool w
   ·subst hb; exact .inl ⟨h1,h2 rfl⟩
   ·exact .inr ⟨⟨v,h1,hb⟩,h3 hb⟩
  ·rintro (⟨h1,h2⟩ | ⟨⟨v,h1,hb⟩,h2⟩)
   ·exact ⟨_,h1,fun _=>h2,fun h=>absurd rfl h⟩
   ·exact ⟨v,h1,fun h=>absurd h hb,fun _=>h2⟩
theorem stepG_al {P:Program}{s:Bool}{o:SO}{K:Env→Fz→Hp→Prop}{σ:Env}{F:Fz}{M:Hp}{e:Nat}{z:List Value}(hg:o.g=none)(hk:o.k=.al e z) :
  stepG P s o K σ F M↔∀r,F r=none→M r=none→K (put σ o.d (.pointer (some ⟨r,0,none⟩))) F (M.upd r ⟨z,e,z.length⟩):=by
 simp only [stepG,hg,hk,stepK]
def SO.looks (o:SO):List Nat:=(o.k.ops.filterMap fun | .tmp t=>some t | _=>none)++(match o.g with | some (t,_)=>[t] | none=>[])
theorem looks_op {o:SO}{d:Option Nat}(h:∀t,d=some t→t ∉ o.looks):∀x∈o.k.ops,∀t,x=.tmp t→d≠some t:=by
 rintro x hx t rfl e
 exact h t e (by simp only [SO.looks,List.mem_append,List.mem_filterMap]; exact .inl ⟨_,hx,rfl⟩)
theorem GdT_put {o:SO}{σ:Env}{d:Option Nat}{v:Value}(h:∀t,d=some t→t ∉ o.looks):GdT o (put σ d v)↔GdT o σ:=by
 cases hg:o.g with
 | none=>simp [GdT,hg]
 | some p=>simp only [GdT,hg]; rw [look_put_ne]; intro e; exact h p.1 e (by simp [SO.looks,hg])
theorem GdF_put {o:SO}{σ:Env}{d:Option Nat}{v:Value}(h:∀t,d=some t→t ∉ o.looks):GdF o (put σ d v)↔GdF o σ:=by
 cases hg:o.g with
 | none=>simp [GdF,hg]
 | some p=>simp only [GdF,hg]; rw [look_put_ne]; intro e; exact h p.1 e (by simp [SO.looks,hg])
theorem GdT_le {o:SO}{σ σ':Env}(h:Env.le σ σ')(hg:GdT o σ):GdT o σ':=by
 cases hw:o.g with
 | none=>simp [GdT,hw]
 | some p=>simp only [GdT,hw] at hg ⊢; exact h _ _ hg
theorem GdF_le {o:SO}{σ σ':Env}(h:Env.le σ σ')(hg:GdF o σ):GdF o σ':=by
 cases hw:o.g with
 | none=>simp [GdF,hw] at hg
 | some p=>simp only [GdF,hw] at hg ⊢; obtain ⟨v,h1,h2⟩:=hg; exact ⟨v,h _ _ h1,h2⟩
theorem stepG_env {P:Program}{s:Bool}{o:SO}{K K':Env→Fz→Hp→Prop}{σ σ':Env}{F:Fz}{M:Hp}(hl:Env.le σ σ')
  (h:∀v F' M',K (put σ o.d v) F' M'→K' (put σ' o.d v) F' M')(hh:stepG P s o K σ F M):stepG P s o K' σ' F M:=by
 rw [stepG_iff] at hh ⊢
 rcases hh with ⟨h1,h2⟩ | ⟨h1,h2⟩
 ·exact .inl ⟨GdT_le hl h1,stepK_congr (fun x _ v hv=>ev_le hl hv) (fun t _ v hv=>hl t v hv) (fun v F' M' _ hk=>h v F' M' hk) h2⟩
 ·exact .inr ⟨GdF_le hl h1,h _ _ _ h2⟩
theorem opsW_env {P:Program}{s:Bool}:∀{l:List SO} {K:Env→Fz→Hp→Prop} {σ σ':Env} {F:Fz} {M:Hp},Env.le σ σ'→opsW P s l K σ F M→opsW P s l (up K) σ' F M:=by
 intro l
 induction l with
 | nil=>intro K σ σ' F M hl h; exact ⟨σ,hl,h⟩
 | cons o l ih=>intro K σ σ' F M hl h; exact stepG_env hl (fun v F' M' hk=>ih (Env.le_put hl o.d v) hk) h
theorem opsW_up {P:Program}{s:Bool}{l:List SO}{K:Env→Fz→Hp→Prop}{σ:Env}{F:Fz}{M:Hp}(h:up (opsW P s l K) σ F M):opsW P s l (up K) σ F M:=by
 obtain ⟨σ0,hl,h⟩:=h; exact opsW_env hl h
theorem opsW_mono {P:Program}{s:Bool}:∀{l:List SO} {K K':Env→Fz→Hp→Prop} {σ:Env} {F:Fz} {M:Hp},(∀σ F M,K σ F M→K' σ F M)→opsW P s l K σ F M→opsW P s l K' σ F M:=by
 intro l
 induction l with
 | nil=>intro K K' σ F M h hh; exact h _ _ _ hh
 | cons o l ih=>intro K K' σ F M h hh; exact stepG_mono (fun σ F M hk=>ih h hk) hh
def apartB (x y:SO):Bool:=
 (match x.d with | some d=>!(y.looks.contains d) && y.d != some d | none=>true) && (match y.d with | some d=>!(x.looks.contains d) | none=>true)
theorem apartB_spec {x y:SO}(h:apartB x y=true):(∀t,x.d=some t→t ∉ y.looks)∧(∀t,y.d=some t→t ∉ x.looks)∧(∀t,x.d=some t→y.d≠some t):=by
 simp only [apartB,Bool.and_eq_true] at h
 obtain ⟨h1,h2⟩:=h
 refine ⟨fun t ht=>?_,fun t ht=>?_,fun t ht=>?_⟩
 ·rw [ht] at h1; simp at h1; exact h1.1
 ·rw [ht] at h2; simpa using h2
 ·rw [ht] at h1; simp at h1; exact h1.2
def allocOf:SK→Env→Option (Ent × (Nat→Value))
 | .al e z,_=>some (⟨z,e,z.length⟩,fun r=>.pointer (some ⟨r,0,none⟩))
 | .bx e x,σ=>(ev σ x).map fun v=>(⟨v.cells.toList,e,v.cells.toList.length⟩,fun r=>.pointer (some ⟨r,0,none⟩))
 | .bs e len z parts,σ=>(evParts σ parts).bind fun ps=>(fillV z ps).map fun cs=>(⟨cs,e,cs.length⟩,fun r=>.slice (some ⟨r,0,none⟩) len len)
 | .ms e es bytes z l c,σ=>match ev σ l,ev σ c with
  | some (.int _ n),some (.int _ m)=>if 0≤n∧n≤m∧m.toNat≤maxLen∧m.toNat * bytes≤140737488355328 then
    some (⟨(List.replicate m.toNat z).flatten,e,m.toNat * es⟩,fun r=>.slice (some ⟨r,0,none⟩) n.toNat m.toNat) else none
  | _,_=>none
 | _,_=>none
def SK.isAlloc:SK→Bool
 | .al .. | .bx .. | .bs .. | .ms ..=>true
 | _=>false
theorem stepK_alloc {P:Program}{s:Bool}{d:Option Nat}{k:SK}{K:Env→Fz→Hp→Prop}{σ:Env}{F:Fz}{M:Hp}(hk:k.isAlloc=true) :
  stepK P s d k K σ F M↔∃p,allocOf k σ=some p∧∀r,F r=none→M r=none→K (put σ d (p.2 r)) F (M.upd r p.1):=by
 cases k <;> simp only [SK.isAlloc,Bool.false_eq_true] at hk <;> simp only [stepK,allocOf]
 case al e z=>simp
 case bx e x=>
  constructor
  ·rintro ⟨v,hv,h⟩; exact ⟨_,by rw [hv]; rfl,h⟩
  ·rintro ⟨p,hp,h⟩
   cases hv:ev σ x with
   | none=>simp [hv] at hp
   | some v=>simp [hv] at hp; subst hp; exact ⟨v,rfl,h⟩
 case bs e len z parts=>
  constructor
  ·rintro ⟨ps,hp,cs,hc,h⟩; exact ⟨_,by rw [hp]; simp only [Option.bind_some,hc]; rfl,h⟩
  ·rintro ⟨p,hp,h⟩
   cases hv:evParts σ parts with
   | none=>simp [hv] at hp
   | some ps=>cases hc:fillV z ps with
    | none=>simp [hv,hc] at hp
    | some cs=>simp [hv,hc] at hp; subst hp; exact ⟨ps,rfl,cs,hc,h⟩
 case ms e es bytes z l c=>
  constructor
  ·rintro ⟨k,n,h1,k',m,h2,h3,h4,h5,h⟩
   refine ⟨(⟨(List.replicate m z).flatten,e,m * es⟩,fun r=>.slice (some ⟨r,0,none⟩) n m),?_,h⟩
   rw [h1,h2]
   simp only []
   rw [if_pos ⟨by omega,by omega,by simpa using h4,by simpa using h5⟩]
   simp
  ·rintro ⟨p,hp,h⟩
   split at hp
   ·rename_i k n k' m h1 h2
    split at hp
    ·rename_i hc
     simp at hp; subst hp
     obtain ⟨n,rfl⟩:=Int.eq_ofNat_of_zero_le hc.1
     obtain ⟨m,rfl⟩:=Int.eq_ofNat_of_zero_le (Int.le_trans hc.1 hc.2.1)
     refine ⟨k,n,h1,k',m,h2,by omega,by simpa using hc.2.2.1,by simpa using hc.2.2.2,fun r a b=>?_⟩
     have:=h r a b
     simpa using this
    ·simp at hp
   ·simp at hp
theorem evParts_same {σ σ':Env}:∀{l:List (Nat × Nat × Operand)},(∀x∈l.map (·.2.2),ev σ' x=ev σ x)→evParts σ' l=evParts σ l:=by
 intro l
 induction l with
 | nil=>intro _; rfl
 | cons x l ih=>
  intro h
  obtain ⟨o,m,x⟩:=x
  simp only [evParts]
  rw [h x (by simp),ih (fun y hy=>h y (by simp only [List.map_cons,List.mem_cons]; exact .inr hy))]
theorem allocOf_put {o:SO}{σ:Env}{d:Option Nat}{v:Value}(h:∀t,d=some t→t ∉ o.looks):allocOf o.k (put σ d v)=allocOf o.k σ:=by
 have he:∀x∈o.k.ops,ev (put σ d v) x=ev σ x:=fun x hx=>ev_put_ne (looks_op h x hx)
 cases hk:o.k <;> rw [hk] at he <;> simp only [allocOf]
 case bx e x=>rw [he x (by simp [SK.ops])]
 case bs e len z parts=>rw [evParts_same (fun x hx=>he x hx)]
 case ms e es bytes z l c=>rw [he l (by simp [SK.ops]),he c (by simp [SK.ops])]
theorem stepK_mono_inf {P:Program}{s:Bool}{d:Option Nat}{k:SK}{K K':Env→Fz→Hp→Prop}{σ:Env}{F:Fz}{M:Hp}(hI:Inf F M)
  (h:∀σ F M,Inf F M→K σ F M→K' σ F M)(hh:stepK P s d k K σ F M):stepK P s d k K' σ F M:=by
 cases k <;> simp only [stepK] at hh ⊢
 case p q=>obtain ⟨v,h1,h2⟩:=hh; exact ⟨v,h1,h _ _ _ hI h2⟩
 case al e z=>exact fun r h1 h2=>h _ _ _ (hI.upd _ _) (hh r h1 h2)
 case bx e x=>obtain ⟨v,h1,h2⟩:=hh; exact ⟨v,h1,fun r a b=>h _ _ _ (hI.upd _ _) (h2 r a b)⟩
 case bs e len z parts=>obtain ⟨ps,h1,cs,h2,h3⟩:=hh; exact ⟨ps,h1,cs,h2,fun r a b=>h _ _ _ (hI.upd _ _) (h3 r a b)⟩
 case ap e es bytes x y=>
  obtain ⟨v,h1,u,h2,n,xs,h3,m,ys,h4,h5,h6,h7,h8⟩:=hh
  refine ⟨v,h1,u,h2,n,xs,h3,m,ys,h4,h5,h6,h7,fun v' M' a=>h _ _ _ ?_ (h8 v' M' a)⟩
  rcases a with ⟨_,_,_,rfl⟩ | ⟨r,cap,_,_,_,_,rfl⟩
  ·exact hI
  ·exact hI.upd _ _
 case st fl n a x=>obtain ⟨b,o,h1,v,h2,e,h3,h4,h5,h6,h7,h8⟩:=hh; exact ⟨b,o,h1,v,h2,e,h3,h4,h5,h6,h7,h _ _ _ (hI.upd _ _) h8⟩
 case ms e es bytes z l c=>obtain ⟨k,n,h1,k',m,h2,h3,h4,h5,h6⟩:=hh; exact ⟨k,n,h1,k',m,h2,h3,h4,h5,fun r a b=>h _ _ _ (hI.upd _ _) (h6 r a b)⟩
 case cp es x y=>obtain ⟨b,o,n,c,h1,u,h2,m,ys,h3,h4,e,h5,h6,h7⟩:=hh; exact ⟨b,o,n,c,h1,u,h2,m,ys,h3,h4,e,h5,h6,h _ _ _ (hI.upd _ _) h7⟩
 case ca f args=>obtain ⟨g,fi,c,h1,vs,h2,h3⟩:=hh; exact ⟨g,fi,c,h1,vs,h2,h3.mono_rel fun v F' M' ⟨w,hw⟩ ⟨a,b⟩=>⟨a,h _ _ _ hw.inf b⟩⟩
 case cq f args=>obtain ⟨g,fi,c,h1,vs,h2,h3⟩:=hh; exact ⟨g,fi,c,h1,vs,h2,h3.mono_rel fun v F' M' ⟨w,hw⟩ b=>h _ _ _ hw.inf b⟩
 case cf fl f args=>obtain ⟨g,fi,c,h1,vs,h2,h3⟩:=hh; exact ⟨g,fi,c,h1,vs,h2,h3.mono_rel fun v F' M' ⟨w,hw⟩ ⟨a,b⟩=>⟨a,h _ _ _ hw.inf b⟩⟩
 case gz e es bytes z x n=>obtain ⟨k,m,h1,h2,h3,h4,h5,h6⟩:=hh; exact ⟨k,m,h1,h2,h3,h4,h5,fun r c a b p q=>h _ _ _ (hI.upd _ _) (h6 r c a b p q)⟩
 case mm=>exact fun r h1 h2 h3=>h _ _ _ hI (hh r h1 h2 h3)
 case ml z x i=>obtain ⟨r,l,n,h1,h2,h3,h4⟩:=hh; exact ⟨r,l,n,h1,h2,h3,h _ _ _ hI h4⟩
 case mu x i y=>obtain ⟨r,l,n,v,h1,h2,h3,h4,h5,h6⟩:=hh; exact ⟨r,l,n,v,h1,h2,h3,h4,h5,h _ _ _ hI h6⟩
 case cl es z x=>
  obtain ⟨a,n,c,h1,h2,h3,h4⟩:=hh
  refine ⟨a,n,c,h1,h2,h3,?_⟩
  rcases h4 with ⟨h4,h5⟩ | ⟨h4,b,o,e,h5,h6,h7,h8⟩
  ·exact .inl ⟨h4,h _ _ _ hI h5⟩
  ·exact .inr ⟨h4,b,o,e,h5,h6,h7,h _ _ _ (hI.upd _ _) h8⟩
theorem stepG_mono_inf {P:Program}{s:Bool}{o:SO}{K K':Env→Fz→Hp→Prop}{σ:Env}{F:Fz}{M:Hp}(hI:Inf F M)
  (h:∀σ F M,Inf F M→K σ F M→K' σ F M)(hh:stepG P s o K σ F M):stepG P s o K' σ F M:=by
 rw [stepG_iff] at hh ⊢
 rcases hh with ⟨h1,h2⟩ | ⟨h1,h2⟩
 ·exact .inl ⟨h1,stepK_mono_inf hI h h2⟩
 ·exact .inr ⟨h1,h _ _ _ hI h2⟩
def SK.calm:SK→Bool
 | .p (.ld ..)=>true
 | .p q=>q.still
 | k=>k.isAlloc
def canSwap (s:Bool)(x y:SO):Bool:=apartB x y && match x.k with
 | .p q=>q.still || y.k.mono s || (match q,y.k with | .ld _ _ (.tmp t),.st fl _ _ _=>fl.contains t && x.d != some t | .ld _ _ (.tmp t),.cf fl _ _=>fl.contains t && x.d != some t | _,_=>false)
 | .al .. | .bx .. | .bs .. | .ms ..=>y.g.isNone && y.k.calm
 | .ca ..=>s && y.g.isNone && (match y.k with | .al ..=>true | _=>false)
 | _=>false
def SO.drop (y:SO)(d:Option Nat):SO:={ y with k:=y.k.withFl (y.k.fls.filter fun t=>d != some t) }
theorem SK.withFl_not {k:SK}{fl:List Nat}(h:k.isAlloc=true):k.withFl fl=k:=by cases k <;> first | rfl | (simp [SK.isAlloc] at h)
theorem SK.withFl_ops {k:SK}{fl:List Nat}:(k.withFl fl).ops=k.ops:=by cases k <;> first | rfl | (cases fl with | nil=>rfl | cons x l=>cases x <;> rfl)
theorem SK.withFl_calm {k:SK}{fl:List Nat}:(k.withFl fl).calm=k.calm:=by cases k <;> first | rfl | (cases fl with | nil=>rfl | cons x l=>cases x <;> rfl)
theorem drop_mono {s:Bool}{y:SO}{d:Option Nat}:(y.drop d).k.mono s=y.k.mono s:=by cases hk:y.k <;> simp only [SO.drop,hk] <;> rfl
theorem SO.drop_looks {y:SO}{d:Option Nat}:(y.drop d).looks=y.looks:=by simp [SO.looks,SO.drop,SK.withFl_ops]
theorem stepK_drop {P:Program}{s:Bool}{e:Option Nat}{d:Option Nat}{k:SK}{K:Env→Fz→Hp→Prop}{σ:Env}{F:Fz}{M:Hp}(h:stepK P s e k K σ F M) :
  stepK P s e (k.withFl (k.fls.filter fun t=>d != some t)) K σ F M:=by
 cases k <;> try exact h
 case st=>obtain ⟨b,o,h1,v,h2,e,h3,h4,h5,h6,h7,h8⟩:=h; exact ⟨b,o,h1,v,h2,e,h3,h4,h5,h6,fun t ht=>h7 t (List.mem_filter.1 ht).1,h8⟩
 case cf=>obtain ⟨g,fi,c,h1,vs,h2,h3⟩:=h; exact ⟨g,fi,c,h1,vs,h2,h3.mono fun v F' M' ⟨a,b⟩=>⟨fun t ht=>a t (List.mem_filter.1 ht).1,b⟩⟩
def noRedef (y z:SO):Bool:=match y.k with
 | .p (.ld _ _ (.tmp t))=>z.d != some t
 | _=>true
theorem canSwap_drop {s:Bool}{y x:SO}{z:SO}(h:canSwap s y x=true)(hz:noRedef y z=true):canSwap s y (x.drop z.d)=true:=by
 have e1:apartB y (x.drop z.d)=apartB y x:=by simp only [apartB,SO.drop_looks]; rfl
 simp only [canSwap,Bool.and_eq_true] at h ⊢
 rw [e1]
 refine ⟨h.1,?_⟩
 have h:=h.2
 cases hyk:y.k <;> rw [hyk] at h <;> (try simp only at h ⊢)
 case p q=>
  simp only [Bool.or_eq_true] at h ⊢
  have e2:(x.drop z.d).k.mono s=x.k.mono s:=drop_mono
  rw [e2]
  rcases h with h | h
  ·exact .inl h
  refine .inr ?_
  cases q <;> first | (simp at h; done) | skip
  rename_i agg n ad
  cases ad <;> first | (simp at h; done) | skip
  rename_i t
  simp only [noRedef,hyk,bne_iff_ne,ne_eq] at hz
  cases hxk:x.k <;> rw [hxk] at h <;> first | (simp at h; done) | skip
  case st fl m b c=>
   have e3:(x.drop z.d).k=.st (fl.filter fun t=>z.d != some t) m b c:=by simp [SO.drop,hxk,SK.withFl,SK.fls]
   rw [e3]
   have h':(fl.contains t && y.d != some t)=true:=h
   show ((fl.filter fun t=>z.d != some t).contains t && y.d != some t)=true
   rw [Bool.and_eq_true,List.contains_iff_mem] at h' ⊢
   exact ⟨List.mem_filter.2 ⟨h'.1,by simpa using hz⟩,h'.2⟩
  case cf fl m b=>
   have e3:(x.drop z.d).k=.cf (fl.filter fun t=>z.d != some t) m b:=by simp [SO.drop,hxk,SK.withFl,SK.fls]
   rw [e3]
   have h':(fl.contains t && y.d != some t)=true:=h
   show ((fl.filter fun t=>z.d != some t).contains t && y.d != some t)=true
   rw [Bool.and_eq_true,List.contains_iff_mem] at h' ⊢
   exact ⟨List.mem_filter.2 ⟨h'.1,by simpa using hz⟩,h'.2⟩
 case al=>simp only [SO.drop,SK.withFl_calm]; exact h
 case bx=>simp only [SO.drop,SK.withFl_calm]; exact h
 case bs=>simp only [SO.drop,SK.withFl_calm]; exact h
 case ms=>simp only [SO.drop,SK.withFl_calm]; exact h
 case ca=>
  simp only [Bool.and_eq_true] at h
  obtain ⟨h1,h2⟩:=h
  cases hxk:x.k <;> rw [hxk] at h2 <;> first | (simp at h2; done) | skip
  simp only [SO.drop,hxk,SK.withFl,Bool.and_eq_true]
  exact ⟨h1,trivial⟩
 all_goals first | (simp at h; done) | contradiction
theorem swap {P:Program}{s:Bool}{x y:SO}{K:Env→Fz→Hp→Prop}{σ:Env}{F:Fz}{M:Hp}(hI:Inf F M)(hs:canSwap s x y=true)(h:stepG P s x (stepG P s y K) σ F M) :
  stepG P s (y.drop x.d) (stepG P s x (up K)) σ F M:=by
 simp only [canSwap,Bool.and_eq_true] at hs
 obtain ⟨hap,hk⟩:=hs
 obtain ⟨a1,a2,a3⟩:=apartB_spec hap
 have hop:∀u:Value,∀z∈y.k.ops,∀v,ev (put σ x.d u) z=some v→ev σ z=some v:=fun u z hz v hv=>by rwa [ev_put_ne (looks_op a1 z hz)] at hv
  -- x yields u, and leaves memory: then y may go first
 have easy:∀u:Value,(∀v F' M',(y.k.mono s=true→Le F M F' M')→up K (put (put σ y.d v) x.d u) F' M'→stepG P s x (up K) (put σ y.d v) F' M')→
   stepG P s y K (put σ x.d u) F M→stepG P s (y.drop x.d) (stepG P s x (up K)) σ F M:=by
  intro u hx hy
  rw [stepG_iff] at hy ⊢
  rcases hy with ⟨h1,h2⟩ | ⟨h1,h2⟩
  ·refine .inl ⟨(GdT_put a1).1 h1,stepK_congr (by rw [show (y.drop x.d).k.ops=y.k.ops from SK.withFl_ops]; exact hop u) (fun t ht v hv=>?_)
    (fun v F' M' hl hk=>hx v F' M' (by rw [show (y.drop x.d).k.mono s=y.k.mono s from drop_mono] at hl; exact hl) ⟨_,Env.put_comm a3,hk⟩) (stepK_drop h2)⟩
   have hne:x.d≠some t:=by
    cases hyk:y.k <;> simp only [SO.drop,hyk,SK.withFl,SK.fls,List.filter_nil,List.not_mem_nil] at ht
    all_goals simpa using (List.mem_filter.1 ht).2
   rwa [look_put_ne hne] at hv
  ·exact .inr ⟨(GdF_put a1).1 h1,hx _ _ _ (fun _=>Le.refl _ _) ⟨_,Env.put_comm a3,h2⟩⟩
 rw [stepG_iff] at h
 rcases h with ⟨hg,h⟩ | ⟨hg,h⟩
 case inr=>exact easy undef (fun v F' M' _ hk=>stepG_iff.2 (.inr ⟨(GdF_put a2).2 hg,hk⟩)) h
 have hopx:∀v:Value,∀z∈x.k.ops,∀u,ev σ z=some u→ev (put σ y.d v) z=some u:=fun v z hz u hu=>by rwa [ev_put_ne (looks_op a2 z hz)]
 have alloc:x.k.isAlloc=true→y.g.isNone=true→y.k.isAlloc=true→stepG P s (y.drop x.d) (stepG P s x (up K)) σ F M:=by
  intro hxa hyg hya
  have hyd:y.drop x.d=y:=by simp only [SO.drop]; rw [SK.withFl_not hya]
  rw [hyd]
  have hyg':y.g=none:=by simpa using hyg
  have ystep:∀(K:Env→Fz→Hp→Prop) (σ:Env) (F:Fz) (M:Hp),stepG P s y K σ F M↔∃p,allocOf y.k σ=some p∧∀r,F r=none→M r=none→K (put σ y.d (p.2 r)) F (M.upd r p.1):=by
   intro K σ F M
   simp only [stepG,hyg']
   exact stepK_alloc hya
  obtain ⟨px,hpx,h⟩:=(stepK_alloc hxa).1 h
  obtain ⟨q0,_,q1,q2⟩:=hI 0
  obtain ⟨py,hpy,_⟩:=(ystep _ _ _ _).1 (h q0 q1 q2)
  rw [allocOf_put a1] at hpy
  refine (ystep _ _ _ _).2 ⟨py,hpy,fun r r1 r2=>?_⟩
  refine stepG_iff.2 (.inl ⟨(GdT_put a2).2 hg,(stepK_alloc hxa).2 ⟨px,by rw [allocOf_put a2]; exact hpx,fun q q1 q2=>?_⟩⟩)
  have hne:q≠r:=by rintro rfl; simp at q2
  rw [Hp.upd_ne hne] at q2
  obtain ⟨py',hpy',hh⟩:=(ystep _ _ _ _).1 (h q q1 q2)
  rw [allocOf_put a1,hpy] at hpy'
  cases hpy'
  have:=hh r r1 (by rw [Hp.upd_ne (Ne.symm hne)]; exact r2)
  rw [Hp.upd_comm hne] at this
  exact ⟨_,Env.put_comm a3,this⟩
 have alloc2:x.k.isAlloc=true→y.g.isNone=true→∀q,y.k=.p q→(q.still=true∨∃agg n ad,q=.ld agg n ad)→stepG P s (y.drop x.d) (stepG P s x (up K)) σ F M:=by
  intro hxa hyg q hyq hq
  have hyd:y.drop x.d=y:=by simp only [SO.drop,hyq,SK.withFl]; rw [←hyq]
  rw [hyd]
  have hyg':y.g=none:=by simpa using hyg
  have ystep:∀(K:Env→Fz→Hp→Prop) (σ:Env) (F:Fz) (M:Hp),stepG P s y K σ F M↔∃v,q.val σ F M=some v∧K (put σ y.d v) F M:=by
   intro K σ F M
   simp only [stepG,hyg',hyq,stepK]
  obtain ⟨px,hpx,h⟩:=(stepK_alloc hxa).1 h
  rw [hyq] at hop
    -- its value, with the new block or without it
  have key:∃v,q.val σ F M=some v∧∀r,F r=none→M r=none→q.val (put σ x.d (px.2 r)) F (M.upd r px.1)=some v:=by
   obtain ⟨q0,_,q1,q2⟩:=hI 0
   obtain ⟨v0,hv0,_⟩:=(ystep _ _ _ _).1 (h q0 q1 q2)
   rcases hq with hq | ⟨agg,n,ad,rfl⟩
   ·have e0:q.val σ F M=some v0:=val_congr (fun z hz w hw=>hop (px.2 q0) z (by simpa [SK.ops] using hz) w hw) (.inl hq) hv0
    refine ⟨v0,e0,fun r r1 r2=>?_⟩
    obtain ⟨v,hv,_⟩:=(ystep _ _ _ _).1 (h r r1 r2)
    have e1:q.val σ F M=some v:=val_congr (fun z hz w hw=>hop (px.2 r) z (by simpa [SK.ops] using hz) w hw) (.inl hq) hv
    rw [e0] at e1; cases e1; exact hv
   ·have addr:∀r,F r=none→M r=none→∃b o v,ev σ ad=some (.pointer (some ⟨b,o,none⟩))∧ev (put σ x.d (px.2 r)) ad=some (.pointer (some ⟨b,o,none⟩))∧(PK.ld agg n ad).val (put σ x.d (px.2 r)) F (M.upd r px.1)=some v∧(blk F (M.upd r px.1) b).bind (fun c=>rd agg n c o)=some v:=by
     intro r r1 r2
     obtain ⟨v,hv,_⟩:=(ystep _ _ _ _).1 (h r r1 r2)
     have hv':=hv
     simp only [PK.val] at hv'
     split at hv'
     ·rename_i b o hb
      exact ⟨b,o,v,hop (px.2 r) ad (by simp [SK.ops,PK.ops]) _ hb,hb,hv,hv'⟩
     ·simp at hv'
    obtain ⟨b,o,v0,a0,_,_,_⟩:=addr q0 q1 q2
    obtain ⟨q3,q4,q5,q6⟩:=hI (b+1)
    obtain ⟨b',o',v,a1,_,_,a2⟩:=addr q3 q5 q6
    rw [a0] at a1; cases a1
    have hb3:¬b=q3:=by omega
    have e3:blk F (M.upd q3 px.1) b=blk F M b:=by simp [blk,Hp.upd_ne hb3]
    rw [e3] at a2
    refine ⟨v,by simp only [PK.val,a0]; exact a2,fun r r1 r2=>?_⟩
    have hbr:¬b=r:=by
     rintro rfl
     simp [blk,r1,r2] at a2
    obtain ⟨b',o',v',c1,_,c2,c3⟩:=addr r r1 r2
    rw [a0] at c1; cases c1
    have e4:blk F (M.upd r px.1) b=blk F M b:=by simp [blk,Hp.upd_ne hbr]
    rw [e4,a2] at c3
    cases c3; exact c2
  obtain ⟨v,hv,hall⟩:=key
  refine (ystep _ _ _ _).2 ⟨v,hv,?_⟩
  refine stepG_iff.2 (.inl ⟨(GdT_put a2).2 hg,(stepK_alloc hxa).2 ⟨px,by rw [allocOf_put a2]; exact hpx,fun r r1 r2=>?_⟩⟩)
  obtain ⟨v',hv',hh⟩:=(ystep _ _ _ _).1 (h r r1 r2)
  rw [hall r r1 r2] at hv'
  cases hv'
  exact ⟨_,Env.put_comm a3,hh⟩
 have allocs:x.k.isAlloc=true→y.g.isNone=true→y.k.calm=true→stepG P s (y.drop x.d) (stepG P s x (up K)) σ F M:=by
  intro hxa hyg hc
  cases hyk:y.k with
  | p q=>
   refine alloc2 hxa hyg q hyk ?_
   rw [hyk] at hc
   cases q <;> first | exact .inr ⟨_,_,_,rfl⟩ | exact .inl hc
  | al=>exact alloc hxa hyg (by rw [hyk]; rfl)
  | bx=>exact alloc hxa hyg (by rw [hyk]; rfl)
  | bs=>exact alloc hxa hyg (by rw [hyk]; rfl)
  | ms=>exact alloc hxa hyg (by rw [hyk]; rfl)
  | _=>rw [hyk] at hc; simp [SK.calm,SK.isAlloc] at hc
 cases hxk:x.k with
 | p q=>
  rw [hxk] at h hk hopx
  obtain ⟨u,hu,h⟩:=h
  simp only [Bool.or_eq_true] at hk
  rcases hk with hk | hk
  ·refine easy u (fun v F' M' hl hK=>stepG_iff.2 (.inl ⟨(GdT_put a2).2 hg,?_⟩)) h
   rw [hxk]
   exact ⟨u,val_congr (hopx v) (hk.imp id hl) hu,hK⟩
  ·-- a load,and a store elsewhere
   cases q <;> first | (simp at hk; done) | skip
   rename_i agg n ad
   cases ad <;> first | (simp at hk; done) | skip
   rename_i t
   have hld':∀(σ':Env) (F':Fz) (M':Hp),ev σ' (.tmp t)=ev σ (.tmp t)→(∀b' o',look σ t=some (.pointer (some ⟨b',o',none⟩))→blk F' M' b'=blk F M b')→(PK.ld agg n (.tmp t)).val σ' F' M'=some u:=by
    intro σ' F' M' h1 h2
    simp only [PK.val] at hu ⊢
    rw [h1]
    simp only [ev] at hu ⊢
    split at hu
    ·rename_i b' o' hb
     simp only [h2 b' o' hb]
     exact hu
    ·simp at hu
   have hld:∀(σ':Env) (M':Hp),ev σ' (.tmp t)=ev σ (.tmp t)→(∀b' o',look σ t=some (.pointer (some ⟨b',o',none⟩))→M' b'=M b')→(PK.ld agg n (.tmp t)).val σ' F M'=some u:=
    fun σ' M' h1 h2=>hld' σ' F M' h1 (fun b' o' hb=>by simp only [blk,h2 b' o' hb])
   cases hyk:y.k <;> rw [hyk] at hk <;> first | (simp at hk; done) | skip
   case cf fl f args=>
    simp only [Bool.and_eq_true,List.contains_iff_mem,bne_iff_ne,ne_eq] at hk
    obtain ⟨hmem,hxd⟩:=hk
    rw [stepG_iff] at h ⊢
    rcases h with ⟨h1,h2⟩ | ⟨h1,h2⟩
    ·refine .inl ⟨(GdT_put a1).1 h1,?_⟩
     rw [hyk] at h2
     rw [show (y.drop x.d).k=.cf (fl.filter fun t=>x.d != some t) f args by simp [SO.drop,hyk,SK.withFl,SK.fls]]
     rw [hyk] at hop
     obtain ⟨g,fi,c,e1,vs,e2,e3⟩:=h2
     refine ⟨g,fi,c,hop u f (by simp [SK.ops]) _ e1,vs,evs_congr (fun z hz=>hop u z (by simp [SK.ops,hz])) e2,e3.mono fun v F' M' ⟨e4,e5⟩=>?_⟩
     have hfl:∀t'∈fl.filter (fun t=>x.d != some t),∃u,look σ t'=some u∧∀b o,u=.pointer (some ⟨b,o,none⟩)→blk F' M' b=blk F M b:=by
      intro t' ht'
      obtain ⟨ht1,ht2⟩:=List.mem_filter.1 ht'
      obtain ⟨u',h3,h4⟩:=e4 t' ht1
      rw [look_put_ne (by simpa using ht2)] at h3
      exact ⟨u',h3,h4⟩
     refine ⟨hfl,stepG_iff.2 (.inl ⟨(GdT_put a2).2 hg,?_⟩)⟩
     rw [hxk]
     refine ⟨u,hld' _ _ _ (ev_put_ne (looks_op a2 (.tmp t) (by simp [hxk,SK.ops,PK.ops]))) (fun b' o' hb=>?_),_,Env.put_comm a3,e5⟩
     obtain ⟨u',h3,h4⟩:=hfl t (List.mem_filter.2 ⟨hmem,by simpa using hxd⟩)
     rw [h3] at hb
     cases hb
     exact h4 _ _ rfl
    ·refine .inr ⟨(GdF_put a1).1 h1,?_⟩
     refine stepG_iff.2 (.inl ⟨(GdT_put a2).2 hg,?_⟩)
     rw [hxk]
     exact ⟨u,hld _ _ (ev_put_ne (looks_op a2 (.tmp t) (by simp [hxk,SK.ops,PK.ops]))) (fun b' o' _=>rfl),_,Env.put_comm a3,h2⟩
   rename_i fl m b z
   simp only [Bool.and_eq_true,List.contains_iff_mem,bne_iff_ne,ne_eq] at hk
   obtain ⟨hmem,hxd⟩:=hk
   rw [stepG_iff] at h ⊢
   rcases h with ⟨h1,h2⟩ | ⟨h1,h2⟩
   ·refine .inl ⟨(GdT_put a1).1 h1,?_⟩
    rw [hyk] at h2
    rw [show (y.drop x.d).k=.st (fl.filter fun t=>x.d != some t) m b z by simp [SO.drop,hyk,SK.withFl,SK.fls]]
    rw [hyk] at hop
    obtain ⟨g,o,e1,v,e2,e,e3,e4,e5,e6,e7,e8⟩:=h2
    have hfl:∀t'∈fl.filter (fun t=>x.d != some t),∃u,look σ t'=some u∧∀b' o',u=.pointer (some ⟨b',o',none⟩)→b'≠g:=by
     intro t' ht'
     obtain ⟨ht1,ht2⟩:=List.mem_filter.1 ht'
     obtain ⟨u',h3,h4⟩:=e7 t' ht1
     rw [look_put_ne (by simpa using ht2)] at h3
     exact ⟨u',h3,h4⟩
    refine ⟨g,o,hop u b (by simp [SK.ops]) _ e1,v,hop u z (by simp [SK.ops]) _ e2,e,e3,e4,e5,e6,hfl,?_⟩
    refine stepG_iff.2 (.inl ⟨(GdT_put a2).2 hg,?_⟩)
    rw [hxk]
    refine ⟨u,hld _ _ (ev_put_ne (looks_op a2 (.tmp t) (by simp [hxk,SK.ops,PK.ops]))) (fun b' o' hb=>?_),_,Env.put_comm a3,e8⟩
    obtain ⟨u',h3,h4⟩:=hfl t (List.mem_filter.2 ⟨hmem,by simpa using hxd⟩)
    rw [h3] at hb
    cases hb
    exact Hp.upd_ne (h4 _ _ rfl)
   ·refine .inr ⟨(GdF_put a1).1 h1,?_⟩
    refine stepG_iff.2 (.inl ⟨(GdT_put a2).2 hg,?_⟩)
    rw [hxk]
    exact ⟨u,hld _ _ (ev_put_ne (looks_op a2 (.tmp t) (by simp [hxk,SK.ops,PK.ops]))) (fun b' o' _=>rfl),_,Env.put_comm a3,h2⟩
 | al e z=>rw [hxk] at hk; simp only [Bool.and_eq_true] at hk; exact allocs (by rw [hxk]; rfl) hk.1 hk.2
 | bx e z=>rw [hxk] at hk; simp only [Bool.and_eq_true] at hk; exact allocs (by rw [hxk]; rfl) hk.1 hk.2
 | bs e len z parts=>rw [hxk] at hk; simp only [Bool.and_eq_true] at hk; exact allocs (by rw [hxk]; rfl) hk.1 hk.2
 | ms e es bytes z l c=>rw [hxk] at hk; simp only [Bool.and_eq_true] at hk; exact allocs (by rw [hxk]; rfl) hk.1 hk.2
 | gz e es b z l c=>rw [hxk] at hk; simp at hk
 | mm=>rw [hxk] at hk; simp at hk
 | ml z x i=>rw [hxk] at hk; simp at hk
 | mu x i y=>rw [hxk] at hk; simp at hk
 | cl es z x=>rw [hxk] at hk; simp at hk
 | ca f args=>
  rw [hxk] at h hk hopx
  simp only [Bool.and_eq_true] at hk
  obtain ⟨⟨hs1,hyg⟩,hyk⟩:=hk
  cases hyk':y.k <;> simp [hyk'] at hyk
  rename_i e2 z2
  have hyg':y.g=none:=by simpa using hyg
  have hyd:y.drop x.d=y:=by simp only [SO.drop]; rw [SK.withFl_not (by rw [hyk']; rfl)]
  rw [hyd,stepG_al hyg' hyk']
  simp only [stepK] at h
  obtain ⟨g,fi,c,hf,vs,hvs,h⟩:=h
  intro r r1 r2
  refine stepG_iff.2 (.inl ⟨(GdT_put a2).2 hg,?_⟩)
  rw [hxk]
  refine ⟨g,fi,c,hopx _ f (by simp [SK.ops]) _ hf,vs,evs_congr (fun z hz=>hopx _ z (by simp [SK.ops,hz])) hvs,(h.frame (e:=⟨z2,e2,z2.length⟩) r1 r2).mono ?_⟩
  rintro v F' M'' ⟨M',rfl,f1,f2,hl,hK⟩
  have hl:Le F M F' M':=hl hs1
  refine ⟨fun _=>⟨hl.fz,fun b en hb=>?_,fun b b1 b2=>?_⟩,_,Env.put_comm a3,(stepG_al hyg' hyk').1 hK r f1 f2⟩
  ·by_cases hbr:b=r
   ·subst hbr; simp at hb; subst hb; exact ⟨_,Hp.qJ _ _ _,List.prefix_refl _⟩
   ·rw [Hp.upd_ne hbr] at hb ⊢; exact hl.mu b en hb
  ·have hbr:b≠r:=by rintro rfl; simp at b2
   rw [Hp.upd_ne hbr] at b2 ⊢; exact hl.ap b b1 b2
 | ap e es b z u=>rw [hxk] at hk; simp at hk
 | cq f args=>rw [hxk] at hk; simp at hk
 | cf fl f args=>rw [hxk] at hk; simp at hk
 | st fl m z u=>rw [hxk] at hk; simp at hk
 | cp es z u=>rw [hxk] at hk; simp at hk
theorem SK.withFl_two (k:SK)(a b:List Nat):∃c,(k.withFl a).withFl b=k.withFl c:=by
 cases k
 case ca f args=>cases a with
  | nil=>exact ⟨b,rfl⟩
  | cons x l=>cases x with
   | zero=>exact ⟨0 :: l,rfl⟩
   | succ x=>exact ⟨1 :: b,rfl⟩
 all_goals exact ⟨b,rfl⟩
def dropAll (l1:List SO)(x:SO):SO:=l1.foldr (fun y x=>x.drop y.d) x
theorem dropAll_form:∀(l1:List SO) (x:SO),∃fl,dropAll l1 x = { x with k:=x.k.withFl fl }:=by
 intro l1
 induction l1 with
 | nil=>intro x; exact ⟨x.k.fls,by cases x with | mk d g k=>cases k <;> rfl⟩
 | cons y l1 ih=>
  intro x
  obtain ⟨fl,h⟩:=ih x
  obtain ⟨c,hc⟩:=SK.withFl_two x.k fl ((x.k.withFl fl).fls.filter (fun t=>y.d != some t))
  refine ⟨c,?_⟩
  show (dropAll l1 x).drop y.d=_
  rw [h]
  simp only [SO.drop,hc]
theorem canSwap_dropAll {s:Bool}{y:SO}:∀{l1:List SO} {x:SO},canSwap s y x=true→(∀z∈l1,noRedef y z=true)→canSwap s y (dropAll l1 x)=true:=by
 intro l1
 induction l1 with
 | nil=>intro x h _; exact h
 | cons z l1 ih=>intro x h hz; exact canSwap_drop (ih h fun q hq=>hz q (by simp [hq])) (hz z (by simp))
theorem bubble {P:Program}{s:Bool}:∀{l1 l2:List SO} {x:SO} {K:Env→Fz→Hp→Prop} {σ:Env} {F:Fz} {M:Hp},Inf F M→l1.Pairwise (fun y z=>noRedef y z=true)→(∀y∈l1,canSwap s y x=true)→
  opsW P s (l1++x :: l2) K σ F M→stepG P s (dropAll l1 x) (opsW P s (l1++l2) (up K)) σ F M:=by
 intro l1
 induction l1 with
 | nil=>intro l2 x K σ F M _ _ _ h; exact stepG_mono (fun σ F M hk=>opsW_env (Env.le_refl _) hk) h
 | cons y l1 ih=>
  intro l2 x K σ F M hI hp hs h
  obtain ⟨hp1,hp2⟩:=List.pairwise_cons.1 hp
  have h1:stepG P s y (stepG P s (dropAll l1 x) (opsW P s (l1++l2) (up K))) σ F M:=stepG_mono_inf hI (fun σ F M hI hk=>ih hI hp2 (fun z hz=>hs z (by simp [hz])) hk) h
  have h2:=swap hI (canSwap_dropAll (hs y (by simp)) hp1) h1
  refine stepG_mono (fun σ F M hk=>?_) h2
  exact stepG_mono (fun σ F M hk=>opsW_mono (fun σ F M=>up_up) (opsW_up hk)) hk
end Go.Ax
namespace Go.Ax
open Go
set_option linter.unusedSimpArgs false
def preds (ops:Array Oper)(i:Nat):List Nat:=match ops[i]? with
 | some o=>o.after.toList.filterMap fun e=>if Region.binds .any e then some e.on else none
 | none=>[]
inductive Anc (ops:Array Oper):Nat→Nat→Prop
 | one {y i:Nat}:y∈preds ops i→Anc ops y i
 | more {y p i:Nat}:Anc ops y p→p∈preds ops i→Anc ops y i
def getM:List (Nat × Nat)→Nat→Nat
 | [],_=>0
 | (k,m) :: l,i=>if k=i then m else getM l i
def maskOf (st:List (Nat × Nat)):List Nat→Nat
 | []=>0
 | p :: l=>2 ^ p ||| (getM st p ||| maskOf st l)
def okGo (s:Bool)(ops:Array Oper):List (Nat × SO)→List (Nat × Nat)→List (Nat × SO)→Bool
 | _,_,[]=>true
 | seen,st,(i,x) :: l=>
  (preds ops i).all (fun p=>seen.any fun y=>y.1 == p) && !(seen.any fun y=>y.1 == i) &&
  seen.all (fun y=>noRedef y.2 x && (canSwap s y.2 x || (maskOf st (preds ops i)).testBit y.1)) && okGo s ops ((i,x) :: seen) ((i,maskOf st (preds ops i)) :: st) l
def okD (s:Bool)(ops:Array Oper)(l:List (Nat × SO)):Bool:=(okGo s ops [] [] l && (List.range ops.size).all fun i=>l.any fun y=>y.1 == i) && l.length == ops.size
theorem maskOf_spec {ops:Array Oper}{st:List (Nat × Nat)}{i:Nat}(hst:∀j y,(getM st j).testBit y=true→Anc ops y j):∀(l:List Nat),(∀p∈l,p∈preds ops i)→
  ∀y,(maskOf st l).testBit y=true→Anc ops y i:=by
 intro l
 induction l with
 | nil=>intro _ y h; simp [maskOf] at h
 | cons p l ih=>
  intro hl y h
  simp only [maskOf,Nat.testBit_or,Nat.testBit_two_pow,Bool.or_eq_true,decide_eq_true_eq] at h
  rcases h with h | h | h
  ·subst h; exact .one (hl _ (by simp))
  ·exact .more (hst p y h) (hl p (by simp))
  ·exact ih (fun q hq=>hl q (by simp [hq])) y h
structure Inv (s:Bool)(P:Program)(n:Nat)(ops:Array Oper)(listed:Array Bool)(l0:List (Nat × SO)):Prop where
 size:listed.size=ops.size
 slim:∀p∈l0,∃o so fl,ops[p.1]? = some o∧slimO P n ops o=some so∧p.2 = { so with k:=so.k.withFl fl }
 mem:∀i,i < ops.size→(listed.getD i false=false↔∃p∈l0,p.1=i)
 pairs:l0.Pairwise fun y x=>y.1≠x.1∧noRedef y.2 x.2=true∧(canSwap s y.2 x.2=true∨Anc ops y.1 x.1)
 top:∀l1 x l2,l0=l1++x :: l2→∀p∈preds ops x.1,listed.getD p false=true∨∃y∈l1,y.1=p
 down:∀i,listed.getD i false=true→∀p∈preds ops i,listed.getD p false=true
theorem okGo_spec {s:Bool}{ops:Array Oper}:∀{l seen:List (Nat × SO)} {st:List (Nat × Nat)},(∀j y,(getM st j).testBit y=true→Anc ops y j)→okGo s ops seen st l=true→
  l.Pairwise (fun y x=>y.1≠x.1∧noRedef y.2 x.2=true∧(canSwap s y.2 x.2=true∨Anc ops y.1 x.1))∧(∀y∈seen,∀x∈l,y.1≠x.1∧noRedef y.2 x.2=true∧(canSwap s y.2 x.2=true∨Anc ops y.1 x.1))∧
  ∀l1 x l2,l=l1++x :: l2→∀p∈preds ops x.1,(∃y∈seen,y.1=p)∨∃y∈l1,y.1=p:=by
 intro l
 induction l with
 | nil=>intro seen st _ _; exact ⟨List.Pairwise.nil,by simp,fun l1 x l2 h=>by simp at h⟩
 | cons a l ih=>
  intro seen st hst h
  obtain ⟨i,x⟩:=a
  simp only [okGo,Bool.and_eq_true] at h
  obtain ⟨⟨⟨h1,h2⟩,h3⟩,h4⟩:=h
  have hmask:=maskOf_spec (i:=i) hst (preds ops i) (fun p hp=>hp)
  obtain ⟨g1,g2,g3⟩:=ih (seen:=(i,x) :: seen) (st:=(i,maskOf st (preds ops i)) :: st) (fun j y hy=>by
   simp only [getM] at hy
   split at hy
   ·rename_i e; subst e; exact hmask y hy
   ·exact hst j y hy) h4
  have hne:∀y∈seen,y.1≠i:=by
   intro y hy e
   simp at h2
   exact h2 y.1 y.2 hy e
  have hpr:∀y∈seen,noRedef y.2 x=true∧(canSwap s y.2 x=true∨Anc ops y.1 i):=by
   intro y hy
   have:=List.all_eq_true.1 h3 y hy
   simp only [Bool.and_eq_true,Bool.or_eq_true] at this
   exact ⟨this.1,this.2.imp id (hmask y.1)⟩
  refine ⟨List.pairwise_cons.2 ⟨fun z hz=>g2 (i,x) (by simp) z hz,g1⟩,?_,?_⟩
  ·intro y hy z hz
   rcases List.mem_cons.1 hz with rfl | hz
   ·exact ⟨hne y hy,hpr y hy⟩
   ·exact g2 y (by simp [hy]) z hz
  ·intro l1 z l2 he p hp
   cases l1 with
   | nil=>
    simp at he
    obtain ⟨rfl,rfl⟩:=he
    have:=List.all_eq_true.1 h1 p hp
    simp only [List.any_eq_true,beq_iff_eq] at this
    exact .inl this
   | cons b l1=>
    simp at he
    obtain ⟨rfl,rfl⟩:=he
    rcases g3 l1 z l2 rfl p hp with ⟨y,hy,hyp⟩ | ⟨y,hy,hyp⟩
    ·rcases List.mem_cons.1 hy with rfl | hy
     ·exact .inr ⟨_,by simp,hyp⟩
     ·exact .inl ⟨y,hy,hyp⟩
    ·exact .inr ⟨y,by simp [hy],hyp⟩
theorem getD_set {a:Array Bool}{i j:Nat}(hi:i < a.size):(a.setIfInBounds i true).getD j false=if i=j then true else a.getD j false:=by
 simp only [Array.getD_eq_getD_getElem?,Array.getElem?_setIfInBounds]
 split <;> simp_all
section
variable {P:Program} {s:Bool} {n:Nat} {ops:Array Oper} {Q:Exit→Act→World→Prop}
theorem mem_ready {listed:Array Bool}{i:Nat}(hs:listed.size=ops.size) :
  i∈Region.ready .any ops listed↔i < ops.size∧listed.getD i false=false∧∀p∈preds ops i,listed.getD p false=true:=by
 unfold Region.ready preds
 simp only [List.mem_filter,List.mem_range,Bool.and_eq_true,Bool.not_eq_true']
 constructor
 ·rintro ⟨h1,h2,h3⟩
  obtain ⟨o,ho⟩:∃o,ops[i]? = some o:=⟨ops[i],by simp [h1]⟩
  refine ⟨h1,?_,?_⟩
  ·have:i < listed.size:=by omega
   simpa [Array.getD_eq_getD_getElem?,this] using h2
  ·rw [ho] at h3 ⊢
   intro p hp
   simp only [List.mem_filterMap] at hp
   obtain ⟨e,he,hb⟩:=hp
   split at hb
   ·rename_i hbi
    simp at hb; subst hb
    simp only [Option.map_some,Option.getD_some,Array.all_eq_true'] at h3
    have:=h3 e (Array.mem_toList_iff.1 he)
    simpa [hbi] using this
   ·simp at hb
 ·rintro ⟨h1,h2,h3⟩
  obtain ⟨o,ho⟩:∃o,ops[i]? = some o:=⟨ops[i],by simp [h1]⟩
  refine ⟨h1,?_,?_⟩
  ·have:i < listed.size:=by omega
   simpa [Array.getD_eq_getD_getElem?,this] using h2
  ·rw [ho] at h3 ⊢
   simp only [Option.map_some,Option.getD_some,Array.all_eq_true']
   intro e he
   by_cases hb:Region.binds .any e=true
   ·have:=h3 e.on (List.mem_filterMap.2 ⟨e,Array.mem_toList_iff.2 he,by simp [hb]⟩)
    simp [hb,this]
   ·simp [hb]
theorem any_sound {K:Env→Fz→Hp→Prop}{F0:Fz}{M0:Hp}{w0:World}(hQ:∀a w,St n K F0 M0 w0 a w→Q .normal a w) :
  ∀(fuel:Nat) {l0:List (Nat × SO)} {listed:Array Bool} {σ:Env} {F:Fz} {M:Hp} {a:Act} {w:World},l0.length=fuel→Inv s P n ops listed l0→
   Agree n σ a→Rel F M w→Fr F0 M0 w0 F M w→opsW P s (l0.map (·.2)) (up K) σ F M→wpAny P .any ops Q fuel listed a w:=by
 intro fuel
 induction fuel with
 | zero=>
  intro l0 listed σ F M a w hl hi ha hr hf h
  obtain rfl:l0=[]:=by simpa using hl
  obtain ⟨σ',hle,hk⟩:=h
  refine ⟨?_,hQ a w ⟨σ',F,M,ha.mono hle,hr,hf,hk⟩⟩
  cases hrd:Region.ready .any ops listed with
  | nil=>rfl
  | cons i l=>
   have:=(mem_ready hi.size).1 (by rw [hrd]; simp:i∈Region.ready .any ops listed)
   have:=(hi.mem i this.1).1 this.2.1
   simp at this
 | succ fuel ih=>
  intro l0 listed σ F M a w hl hi ha hr hf h
  refine ⟨fun hnil=>?_,fun i hri=>?_⟩
  ·-- the first one is ready
   exfalso
   cases l0 with
   | nil=>simp at hl
   | cons x l=>
    obtain ⟨o,_,_,ho,_⟩:=hi.slim x (by simp)
    have hlt:x.1 < ops.size:=(Array.getElem?_eq_some_iff.1 ho).1
    have:x.1∈Region.ready .any ops listed:=(mem_ready hi.size).2 ⟨hlt,(hi.mem x.1 hlt).2 ⟨x,by simp,rfl⟩,fun p hp=>by
     rcases hi.top [] x l rfl p hp with h | ⟨y,hy,_⟩
     ·exact h
     ·simp at hy⟩
    rw [hnil] at this; simp at this
  ·obtain ⟨hlt,hnl,hpl⟩:=(mem_ready hi.size).1 hri
   obtain ⟨x,hx,rfl⟩:=(hi.mem i hlt).1 hnl
   obtain ⟨l1,l2,rfl⟩:=List.append_of_mem hx
   obtain ⟨o,so,fl,ho,hso,hxe⟩:=hi.slim x (by simp)
      -- nothing ahead of it is an ancestor
   have hup:∀y i,Anc ops y i→(∀p∈preds ops i,listed.getD p false=true)→listed.getD y false=true:=by
    intro y i hy
    induction hy with
    | one h=>exact fun hp=>hp _ h
    | more h1 h2 ih1=>exact fun hp=>ih1 (hi.down _ (hp _ h2))
   have hsw:∀y∈l1.map (·.2),canSwap s y x.2=true:=by
    intro y hy
    obtain ⟨z,hz,rfl⟩:=List.mem_map.1 hy
    have hpw:=(List.pairwise_append.1 hi.pairs).2.2 z hz x (by simp)
    rcases hpw.2.2 with h | h
    ·exact h
    ·exfalso
     have h1:=hup _ _ h hpl
     obtain ⟨oz,_,_,hoz,_⟩:=hi.slim z (by simp [hz])
     have hzl:z.1 < ops.size:=(Array.getElem?_eq_some_iff.1 hoz).1
     have h2:=(hi.mem z.1 hzl).2 ⟨z,by simp [hz],rfl⟩
     rw [h1] at h2; simp at h2
   rw [List.map_append,List.map_cons] at h
   have hred:(l1.map (·.2)).Pairwise (fun y z=>noRedef y z=true):=by
    rw [List.pairwise_map]
    exact (List.pairwise_append.1 hi.pairs).1.imp fun h=>h.2.1
   have hb:=bubble hr.inf hred hsw h
   obtain ⟨fl2,hdr⟩:=dropAll_form (l1.map (·.2)) x.2
   have hnew:Inv s P n ops (listed.setIfInBounds x.1 true) (l1++l2):=by
    have hxs:x.1 < listed.size:=by rw [hi.size]; exact hlt
    have hpw:=hi.pairs
    have hne1:∀y∈l1,y.1≠x.1:=fun y hy=>((List.pairwise_append.1 hpw).2.2 y hy x (by simp)).1
    have hne2:∀y∈l2,y.1≠x.1:=fun y hy=>((List.pairwise_cons.1 (List.pairwise_append.1 hpw).2.1).1 y hy).1.symm
    refine ⟨by simp [hi.size],fun p hp=>hi.slim p (by simp at hp ⊢; exact hp.imp id .inr),fun i hi'=>?_,?_,?_,?_⟩
    ·rw [getD_set hxs]
     by_cases hxi:x.1=i
     ·subst hxi
      simp only [if_true,Bool.true_eq_false,false_iff]
      rintro ⟨p,hp,hpe⟩
      rcases List.mem_append.1 hp with hp | hp
      ·exact hne1 p hp hpe
      ·exact hne2 p hp hpe
     ·rw [if_neg hxi,hi.mem i hi']
      constructor
      ·rintro ⟨p,hp,rfl⟩
       refine ⟨p,?_,rfl⟩
       simp at hp ⊢
       rcases hp with hp | rfl | hp
       ·exact .inl hp
       ·exact absurd rfl hxi
       ·exact .inr hp
      ·rintro ⟨p,hp,rfl⟩
       exact ⟨p,by simp at hp ⊢; exact hp.imp id .inr,rfl⟩
    ·refine hpw.sublist ?_
     exact List.Sublist.append (List.Sublist.refl _) (List.sublist_cons_self _ _)
    ·intro m1 z m2 he p hp
     rw [getD_set hxs]
     by_cases hxp:x.1=p
     ·exact .inl (by simp [hxp])
     ·rw [if_neg hxp]
            -- where z stands in the whole
      rcases List.append_eq_append_iff.1 he with ⟨c,h1,h2⟩ | ⟨c,h1,h2⟩
      ·-- l1++c=m1,l2=c++z :: m2
       rcases hi.top (l1++x :: c) z m2 (by rw [h2]; simp) p hp with h | ⟨y,hy,hyp⟩
       ·exact .inl h
       ·refine .inr ⟨y,?_,hyp⟩
        rw [h1]
        simp at hy ⊢
        rcases hy with hy | rfl | hy
        ·exact .inl hy
        ·exact absurd hyp hxp
        ·exact .inr hy
      ·cases c with
       | nil=>
        simp at h1 h2
        rcases hi.top (l1++[x]) z m2 (by rw [←h2]; simp) p hp with h | ⟨y,hy,hyp⟩
        ·exact .inl h
        ·refine .inr ⟨y,?_,hyp⟩
         rw [←h1]
         simp at hy ⊢
         rcases hy with hy | rfl
         ·exact hy
         ·exact absurd hyp hxp
       | cons c0 c=>
        simp at h2
        obtain ⟨rfl,h2⟩:=h2
        rcases hi.top m1 z (c++x :: l2) (by rw [h1]; simp) p hp with h | ⟨y,hy,hyp⟩
        ·exact .inl h
        ·exact .inr ⟨y,hy,hyp⟩
    ·intro i hi' p hp
     rw [getD_set hxs] at hi' ⊢
     by_cases hxp:x.1=p
     ·simp [hxp]
     ·rw [if_neg hxp]
      by_cases hxi:x.1=i
      ·subst hxi; exact hpl p hp
      ·rw [if_neg hxi] at hi'; exact hi.down i hi' p hp
   obtain ⟨h1,h2,h3,h4,h5⟩:=wanted_iff ha hso
   have hxd:x.2.d=so.d:=by rw [hxe]
   have hxg:x.2.g=so.g:=by rw [hxe]
   obtain ⟨fl3,hxk⟩:∃fl3,(dropAll (l1.map (·.2)) x.2).k=so.k.withFl fl3:=by
    rw [hdr,hxe]
    exact SK.withFl_two _ _ _
   have hxg':(dropAll (l1.map (·.2)) x.2).g=x.2.g:=by rw [hdr]
   have hxd':(dropAll (l1.map (·.2)) x.2).d=x.2.d:=by rw [hdr]
   rw [←hxg] at h1 h2
   have next:∀a' w',St n (opsW P s (l1.map (·.2)++l2.map (·.2)) (up (up K))) F M w a' w'→wpAny P .any ops Q fuel (listed.setIfInBounds x.1 true) a' w':=by
    rintro a' w' ⟨σ',F',M',ha',hr',hf',h'⟩
    refine ih (by simp at hl ⊢; omega) hnew ha' hr' (hf.trans hf') ?_
    rw [List.map_append]
    exact opsW_mono (fun _ _ _=>up_up) h'
   unfold wpOp
   rw [ho]
   simp only
   rw [stepG_iff] at hb
   have run:stepK P s (dropAll (l1.map (·.2)) x.2).d (dropAll (l1.map (·.2)) x.2).k (opsW P s (l1.map (·.2)++l2.map (·.2)) (up (up K))) σ F M→o.wp P a w (wpAny P .any ops Q fuel (listed.setIfInBounds x.1 true)) Q:=fun hk=>by
    rw [hxd',hxd,h3,hxk] at hk
    exact Oper.wp_mono next (step_sound_fl (s:=s) h4 ha hr h5 hk)
   rcases hb with ⟨hg,hk⟩ | ⟨hg,hk⟩
   ·have hw:Region.wanted o (yielded ops a.tmps)=true:=by
     cases hg':x.2.g with
     | none=>exact h1 hg'
     | some p=>obtain ⟨t,want⟩:=p; simp only [GdT,hxg',hg'] at hg; exact (h2 t want _ hg' hg).2 rfl
    rw [if_pos hw]
    exact .inl (run hk)
   ·have hw:¬Region.wanted o (yielded ops a.tmps)=true:=by
     cases hg':x.2.g with
     | none=>simp [GdF,hxg',hg'] at hg
     | some p=>
      obtain ⟨t,want⟩:=p
      simp only [GdF,hxg',hg'] at hg
      obtain ⟨v,hv,hvn⟩:=hg
      exact fun e=>hvn ((h2 t want v hg' hv).1 e)
    rw [if_neg hw]
    rw [hxd',hxd,h3] at hk
    exact next _ _ ⟨_,F,M,ha.put h4,hr,Fr.refl _ _ _,hk⟩
theorem region_any {K:Env→Fz→Hp→Prop}{id:Nat}{l:List (Nat × SO)}{σ:Env}{F:Fz}{M:Hp}{a:Act}{w:World}(hm:P.follows .mixedOrders=true)
  (hQ:∀a' w',St n K F M w a' w'→Q .normal a' w')(hs:∀p∈l,∃o so fl,ops[p.1]? = some o∧slimO P n ops o=some so∧p.2 = { so with k:=so.k.withFl fl })(hok:okD s ops l=true)
  (ha:Agree n σ a)(hr:Rel F M w)(h:opsW P s (l.map (·.2)) K σ F M):(Code.region id ops true).wp P Q a w:=by
 simp only [okD,Bool.and_eq_true] at hok
 obtain ⟨⟨h1,h2⟩,h3⟩:=hok
 obtain ⟨g1,_,g3⟩:=okGo_spec (seen:=[]) (st:=[]) (fun j y hy=>by simp [getM] at hy) h1
 have hall:∀i,i < ops.size→∃p∈l,p.1=i:=fun i hi=>by
  have:=List.all_eq_true.1 h2 i (List.mem_range.2 hi)
  simpa only [List.any_eq_true,beq_iff_eq] using this
 have hfalse:∀i,(Array.replicate ops.size false).getD i false=false:=fun i=>by simp [Array.getD_eq_getD_getElem?,Array.getElem?_replicate]; split <;> rfl
 have hlen:l.length=ops.size:=by simpa using h3
 refine wp_region_any hm ?_
 refine any_sound (n:=n) (K:=K) (F0:=F) (M0:=M) (w0:=w) hQ ops.size (l0:=l) hlen ⟨by simp,hs,fun i hi=>?_,g1,fun l1 x l2 he p hp=>?_,fun i hi=>?_⟩ ha (hr.like ⟨rfl,rfl,⟨rfl,Nat.le_succ _⟩,rfl⟩) (Fr.like ⟨rfl,rfl,⟨rfl,Nat.le_succ _⟩,rfl⟩)
  (opsW_env (Env.le_refl _) h)
 ·rw [hfalse]; simp only [true_iff]; exact hall i hi
 ·rcases g3 l1 x l2 he p hp with ⟨y,hy,_⟩ | hy
  ·simp at hy
  ·exact .inr hy
 ·rw [hfalse] at hi; simp at hi
end
end Go.Ax
