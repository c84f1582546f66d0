/- Parts B10: the machine's runs of small codes, contracts of functions, plain facts. -/
import Derived.Test.YtamcbkelfgbkoaaGreatB9
set_option maxRecDepth 100000
set_option linter.unusedSimpArgs false
set_option linter.unusedVariables false
set_option maxHeartbeats 4000000
namespace Go.Proofs.Tryz.K
open Go Go.Ax Go.Proofs.Tryz.S
variable (F:Fz) (M:Hp)
def holI (p:Pg)(e:En)(m:List Bl)(F0:Fz)(M0:Hp)(i:Nat)(σ:Env)(F:Fz)(M:Hp):Prop:=
 F0=F∧Keep M0 M∧Old F0 M∧Ax.look σ 17=some (.int .i64 i)∧(e.pe.cells.take i).all (saysB p m)=true
def holN (p:Pg)(e:En)(m:List Bl)(F0:Fz)(M0:Hp)(i:Nat)(σ:Env)(F:Fz)(M:Hp):Prop:=
 F0=F∧M0=M∧Ax.look σ 54=some (.int .i64 i)∧(List.range i).all (newB p m e.news)=true
def pinI (p:Pg)(e:En)(m:List Bl)(F0:Fz)(M0:Hp)(i:Nat)(σ:Env)(F:Fz)(M:Hp):Prop:=
 F0=F∧Keep M0 M∧Old F0 M∧Ax.look σ 7=some (.int .i64 i)∧(e.pe.cells.take i).all (saysB p m)=true
def pinN (p:Pg)(e:En)(m:List Bl)(F0:Fz)(M0:Hp)(i:Nat)(σ:Env)(F:Fz)(M:Hp):Prop:=
 F0=F∧M0=M∧Ax.look σ 8=some (.int .i64 i)∧(List.range i).all (newB p m e.news)=true
theorem newB_at {p:Pg}{m:List Bl}{news:List Int}{i j:Nat}(hi:i < news.length)(hj:j < m.length)(e:j=p.vars.length+1+i):newB p m news i = !decide (band .i64 (shrv .i64 news[i] (m[j]).st) 1=0):=by
 unfold newB
 rw [List.getElem?_eq_getElem hi]
 have:((p.vars.length:Int)+1+i)=((j:Nat):Int):=by omega
 rw [this,yH hj]
 rfl
theorem all_range {n:Nat}{f:Nat→Bool}:(List.range (n+1)).all f=((List.range n).all f && f n):=by
 rw [List.range_succ,List.all_append]; simp
theorem range_no {n i:Nat}{f:Nat→Bool}(h:i < n)(hf:f i=false):(List.range n).all f=false:=by
 rw [List.all_eq_false]; exact ⟨i,List.mem_range.2 h,by simp [hf]⟩
theorem k94 (p:Pg)(e:En)(s:Ste)(hp:p.rd F)(hold:Old F M)(h:e.rd F M)(hs:s.rd F M)(hc:yK p=true)(hfm:FitM p s.blocks)(hfc:e.no=false→(∀c∈e.cells,FitC p s.blocks c.pc)∧e.news.length=p.news.length) :
  CallsA Tryz.prog 94 [p.val,e.val,s.val] F M (Same F M (.bool (inEnv p e.pe s.blocks))):=by
 refine qZ hm Tryz.func94 e94 (Nat.le_of_ble_eq_true rfl) ?_
 have hl1:=h.cells.1
 have hl2:=h.news.1
 have hl3:=hs.blocks.1
 have hpre:=jW hc
 have hlen:=hfm.len
 simp only [c94,go_sem]
 intro r3 hF3 hM3
 simp only [go_sem]
 intro r4 hF4 hM4
 simp only [wW] at hM4
 simp only [go_sem]
 intro r5 hF5 hM5
 simp only [wW] at hM5
 have kp5:Keep M (((M.upd r3 ⟨p.cs,28,7⟩).upd r4 ⟨e.cs,46,3⟩).upd r5 ⟨s.cs,42,5⟩):=(by repeat' first | exact Keep.refl _ | (refine Keep.new ?_ (by simp only [*])))
 have old5:Old F (((M.upd r3 ⟨p.cs,28,7⟩).upd r4 ⟨e.cs,46,3⟩).upd r5 ⟨s.cs,42,5⟩):=(by repeat' first | assumption | (refine Old.upd ?_ (by assumption)))
 have f3:(((M.upd r3 ⟨p.cs,28,7⟩).upd r4 ⟨e.cs,46,3⟩).upd r5 ⟨s.cs,42,5⟩) r3=some ⟨p.cs,28,7⟩:=by rw [Hp.qK (by simp [hM5]),Hp.qK (by simp [hM4])]; exact Hp.qJ _ _ _
 have f4:(((M.upd r3 ⟨p.cs,28,7⟩).upd r4 ⟨e.cs,46,3⟩).upd r5 ⟨s.cs,42,5⟩) r4=some ⟨e.cs,46,3⟩:=by rw [Hp.qK (by simp [hM5])]; exact Hp.qJ _ _ _
 have f5:(((M.upd r3 ⟨p.cs,28,7⟩).upd r4 ⟨e.cs,46,3⟩).upd r5 ⟨s.cs,42,5⟩) r5=some ⟨s.cs,42,5⟩:=Hp.qJ _ _ _
 generalize (((M.upd r3 ⟨p.cs,28,7⟩).upd r4 ⟨e.cs,46,3⟩).upd r5 ⟨s.cs,42,5⟩)=M1 at *
 have h1:=h.keep kp5 old5
 have hs1:=hs.keep kp5 old5
 have b3:=qG (F:=F) f3
 have b4:=qG (F:=F) f4
 have b5:=qG (F:=F) f5
 clear hM3 hM4 hM5 hF3 hF4 hF5 h hs
 have fin:∀v:Bool,inEnv p e.pe s.blocks=v→∀M',Keep M1 M'→endK F M' (Same F M (.bool (inEnv p e.pe s.blocks))) (.bool v):=fun v h M' k=>qX (kp5.trans k) ⟨by rw [h],rfl,rfl⟩
 by_cases hno:e.no=true
 ·have hR:inEnv p e.pe s.blocks=false:=by
   have:e.pe.no=true:=hno
   unfold inEnv; rw [this]; rfl
  simp only [go_sem,b4,hno]
  exact fin _ hR _ (Keep.refl _)
 have hno':e.no=false:=by simpa using hno
 obtain ⟨hfc,hnl⟩:=hfc hno'
 have hR:inEnv p e.pe s.blocks=(e.pe.cells.all (saysB p s.blocks) && (List.range e.news.length).all (newB p s.blocks e.news)):=by
  have:e.pe.no=false:=hno'
  unfold inEnv; rw [this]; rfl
 generalize inEnv p e.pe s.blocks=R at *
 simp only [go_sem,b4,hno']
 have hpl:e.pe.cells.length=e.cells.length:=by simp [En.pe]
 refine yX e.cells.length (holI p e s.blocks F M1) ⟨rfl,Keep.refl _,old5,(by simp only [go_sem, *] <;> rfl),rfl⟩ ?_
 rintro i σ F' M2 hi hst ⟨rfl,kp,old,q17,he⟩
 have q3:=hst 3 rfl
 have q4:=hst 4 rfl
 have q5:=hst 5 rfl
 have q15:=hst 15 rfl
 have q16:=hst 16 rfl
 simp only [go_sem] at q3 q4 q5 q15 q16
 clear hst
 have g3:=kp _ _ f3
 have g4:=kp _ _ f4
 have g5:=kp _ _ f5
 have b3':=qG (F:=F) g3
 have b4':=qG (F:=F) g4
 have b5':=qG (F:=F) g5
 have h2:=h1.keep kp old
 have hs2:=hs1.keep kp old
 by_cases hil:(i:Int) < e.cells.length
 ·have hi0:(0:Int)≤i:=by omega
  have hi1:i < e.cells.length:=by omega
  have ei:IntKind.i64.wrap ((i:Int)+1)=i+1:=w64 (by omega) (by omega)
  have hfi:=hfc _ (List.getElem_mem hi1)
  have hci:=h2.ptrs _ (List.getElem_mem hi1)
  have t1:e.pe.cells.take (i+1)=e.pe.cells.take i++[(e.cells[i]).pc]:=by
   rw [List.take_succ_eq_append_getElem (by omega)]; simp [En.pe]
  have hno2:saysB p s.blocks (e.cells[i]).pc=false→R=false:=fun h=>by
   rw [hR]
   have:e.pe.cells.all (saysB p s.blocks)=false:=by
    rw [List.all_eq_false]
    exact ⟨(e.cells[i]).pc,by simp only [En.pe]; exact List.mem_map_of_mem (List.getElem_mem hi1),by simp [h]⟩
   rw [this]; rfl
  obtain ⟨b,o,cs,ea,hb,rows⟩:=h2.cells.rows (by omega)
  obtain ⟨d1,d2⟩:=rows i hi1
  clear rows
  generalize e.cells[i]=c at *
  obtain ⟨k,hk⟩:=Int.eq_ofNat_of_zero_le (by have:=hfi.block; omega:0≤c.pc.b)
  have hkl:k < s.blocks.length:=by have:=hfi.block; omega
  have hk0:(0:Int)≤k:=by omega
  have hkl':(k:Int) < s.blocks.length:=by omega
  have hk':c.b=k:=hk
  obtain ⟨b',o',cs',ea',hb',rows⟩:=hs2.blocks.rows (by omega)
  obtain ⟨d3,d4⟩:=rows k hkl
  clear rows
  have hsay:saysB p s.blocks c.pc=(!decide ((s.blocks[k]).st=1) || sayV p.big c.pc (((s.blocks[k]).l.drop c.p.toNat).take (wX p.ptr c.k).toNat)):=by
   rw [←yH hkl,←hk]; rfl
  have hin:=hfi.inside
  rw [hk,yH hkl] at hin
  have hbr:(s.blocks[k]).rd F M2:=hs2.bytes _ (List.getElem_mem hkl)
  have hby:=(hfm.bytes k hkl).1
  generalize s.blocks[k]=x at *
  have next:saysB p s.blocks c.pc=true→∀M3 σ',Keep M2 M3→Old F M3→Ax.look σ' 17=some (.int .i64 ((i+1:Nat):Int))→Nxt (holI p e s.blocks F M1) e.cells.length i σ' F M3:=fun hx M3 σ' kp3 o3 h=>
   ⟨hi1,rfl,kp.trans kp3,o3,h,by rw [t1,List.all_append,he]; simp [hx]⟩
  simp only [go_sem,q15,q16,q17,hil,hi0,ea,Int.toNat_natCast,hb,d1,d2]
  intro r8 hF8 hM8
  have n3:=qH hM8 g3
  have n5:=qH hM8 g5
  have nb':=ne_of_blk hb' hF8 hM8
  simp only [setH,Hp.wG,go_sem,q5,n5,b5',hk',hk0,hkl',ea',nb',hb',Int.toNat_natCast,d3,d4]
  intro r9 hF9 hM9
  simp only [wW] at hM9
  have kp9:Keep M2 ((M2.upd r8 ⟨c.cs,84,10⟩).upd r9 ⟨x.cs,76,2⟩):=(by repeat' first | exact Keep.refl _ | (refine Keep.new ?_ (by simp only [*])))
  have old9:Old F ((M2.upd r8 ⟨c.cs,84,10⟩).upd r9 ⟨x.cs,76,2⟩):=(by repeat' first | assumption | (refine Old.upd ?_ (by assumption)))
  have b8:blk F ((M2.upd r8 ⟨c.cs,84,10⟩).upd r9 ⟨x.cs,76,2⟩) r8=some c.cs:=by
   have f8:((M2.upd r8 ⟨c.cs,84,10⟩).upd r9 ⟨x.cs,76,2⟩) r8=some ⟨c.cs,84,10⟩:=by rw [Hp.qK (by simp [hM9])]; exact Hp.qJ _ _ _
   exact qG (F:=F) f8
  have b9:blk F ((M2.upd r8 ⟨c.cs,84,10⟩).upd r9 ⟨x.cs,76,2⟩) r9=some x.cs:=qG (F:=F) (Hp.qJ _ _ _)
  have b39:=qG (F:=F) (kp9 _ _ g3)
  have hcr:c.rd F ((M2.upd r8 ⟨c.cs,84,10⟩).upd r9 ⟨x.cs,76,2⟩):=RdG.keep hci kp9 old9
  have hxr:x.rd F ((M2.upd r8 ⟨c.cs,84,10⟩).upd r9 ⟨x.cs,76,2⟩):=RdG.keep hbr kp9 old9
  clear hci hbr n3 n5 nb'
  by_cases hst:x.st=1
  rotate_left
  ·simp only [setH,Hp.wG,go_sem,b9,hst,q17,ei]
   refine next (by rw [hsay,decide_eq_false hst]; rfl) _ _ kp9 old9 (by simp only [go_sem, *] <;> rfl)
  simp only [setH,Hp.wG,go_sem,q3,b8,b9,b39,hst]
  generalize (M2.upd r8 ⟨c.cs,84,10⟩).upd r9 ⟨x.cs,76,2⟩=M3 at *
  obtain ⟨n1,n4⟩:=jX hpre.1 hfi.kind
  obtain ⟨n,hn⟩:=Int.eq_ofNat_of_zero_le (by omega:0≤wX p.ptr c.pc.k)
  have hn':wX p.ptr c.k=n:=hn
  obtain ⟨hp0,hpl⟩:=hin hst
  obtain ⟨q,hq⟩:=Int.eq_ofNat_of_zero_le hp0
  have hq':c.p=q:=hq
  rw [hn] at hpl n1 n4
  rw [hq] at hpl
  have hn1:0 < n:=by omega
  have hq0:(0:Int)≤q:=by omega
  have hxl:=hxr.1
  rw [hst,hq',hn',Int.toNat_natCast,Int.toNat_natCast] at hsay
  have hcl:=cut_len (l:=x.l) (lo:=q) (n:=n) (by omega)
  have hcut:=RdG.cut hxr (lo:=q) (n:=n) (by omega)
  have ew:IntKind.i64.wrap ((q:Int)+n)=((q+n:Nat):Int):=by rw [w64 (by omega) (by omega)]; omega
  have e1:(0:Int)≤((q+n:Nat):Int):=by omega
  have e2:(q:Int)≤((q+n:Nat):Int):=by omega
  have e3:((q+n:Nat):Int)≤x.l.length:=by omega
  have e4:x.l.length≤x.lC:=by
   obtain ⟨_,ad,cap,hc,e,_⟩:=hxr
   cases e; exact hc
  have e4':(x.l.length:Int)≤x.lC:=by omega
  have e5:q+n - q=n:=by omega
  have hby':∀z∈(x.l.drop q).take n,byteB z=true:=fun z hz=>hby z (List.mem_of_mem_drop (List.mem_of_mem_take hz))
  have hkk:c.k=0∨c.k=11∨isS c.k=true:=hfi.kind
  have kG:=k151 F M3 p.big p.ptr c _ _ ((x.l.drop q).take n) old9 hcr hcut (by rw [hcl]; exact hn1) hby'
  rw [hcl] at kG
  with_reducible refine qQ (k129 F M3 p.big p.ptr c.k hkk) ?_
  simp only [go_sem,hn',hq',ew,e2,e3,e4,e5,Int.toNat_natCast,hq0]
  with_reducible refine qQ kG ?_
  generalize sayV p.big c.pc ((x.l.drop q).take n)=sv at *
  cases sv
  ·simp only [go_sem]
   exact fin _ (hno2 (by rw [hsay]; rfl)) _ (kp.trans kp9)
  ·simp only [go_sem,q17,ei]
   exact next (by rw [hsay]; rfl) _ _ kp9 old9 (by simp only [go_sem, *] <;> rfl)
 have hx:i=e.cells.length:=by omega
 have hall:e.pe.cells.all (saysB p s.blocks)=true:=by
  rw [List.take_of_length_le (by omega)] at he; exact he
 rw [hall,Bool.true_and] at hR
 simp only [go_sem,q4,q16,q17,hil,b4']
 clear q17 hil he hx
 refine yX e.news.length (holN p e s.blocks F M2) ⟨rfl,rfl,(by simp only [go_sem, *] <;> rfl),rfl⟩ ?_
 rintro k σ3 F' M3 hk hst ⟨rfl,rfl,q54,he3⟩
 have t3:=hst 3 rfl
 have t5:=hst 5 rfl
 have t52:=hst 52 rfl
 have t53:=hst 53 rfl
 simp only [go_sem,q3,q5] at t3 t5 t52 t53
 clear hst
 by_cases hkl:(k:Int) < e.news.length
 rotate_left
 ·have hk':k=e.news.length:=by omega
  rw [hk'] at he3
  simp only [go_sem,t53,q54,hkl]
  exact fin _ (by rw [hR,he3]) _ kp
 have hk0:(0:Int)≤k:=by omega
 have hk1:k < e.news.length:=by omega
 have ek:IntKind.i64.wrap ((k:Int)+1)=k+1:=w64 (by omega) (by omega)
 have hj:p.vars.length+1+k < s.blocks.length:=by omega
 have ew1:IntKind.i64.wrap (1+(p.vars.length:Int))=1+p.vars.length:=w64 (by omega) (by omega)
 have ew2:IntKind.i64.wrap (1+(p.vars.length:Int)+k)=((p.vars.length+1+k:Nat):Int):=by rw [w64 (by omega) (by omega)]; omega
 have hj0:(0:Int)≤((p.vars.length+1+k:Nat):Int):=by omega
 have hjl:((p.vars.length+1+k:Nat):Int) < s.blocks.length:=by omega
 have hnB:=newB_at (p:=p) (m:=s.blocks) hk1 hj rfl
 have hst0:=(hfm.bytes _ hj).2.1
 obtain ⟨b4,o4,cs4,ea4,hb4,e1⟩:=Ax.gH h2.news hk1
 obtain ⟨b',o',cs',ea',hb',rows⟩:=hs2.blocks.rows (by omega)
 obtain ⟨d3,d4⟩:=rows _ hj
 obtain ⟨d4,_⟩:=Go.Ax.Bl.row d4
 clear rows
 generalize s.blocks[p.vars.length+1+k]=x at *
 generalize e.news[k]=y at *
 have hst0':¬x.st < 0:=by omega
 by_cases hz:band .i64 (shrv .i64 y x.st) 1=0
 ·have hf:newB p s.blocks e.news k=false:=by rw [hnB]; simp [hz]
  simp only [go_sem,t3,t5,t52,t53,q54,hkl,hk0,ea4,Int.toNat_natCast,Nat.add_zero,hb4,e1,b3',b5',ew1,ew2,hj0,hjl,ea',hb',d4,hst0',hz]
  exact fin _ (by rw [hR,range_no hk1 hf]) _ kp
 ·have hf:newB p s.blocks e.news k=true:=by rw [hnB]; simp [hz]
  simp only [go_sem,t3,t5,t52,t53,q54,hkl,hk0,ea4,Int.toNat_natCast,Nat.add_zero,hb4,e1,b3',b5',ew1,ew2,hj0,hjl,ea',hb',d4,hst0',hz,ek]
  exact ⟨hk1,rfl,rfl,(by simp only [go_sem, *] <;> rfl),by rw [all_range,he3,hf]; rfl⟩
theorem k21 (p:Pg)(e:En)(s:Ste)(hp:p.rd F)(hold:Old F M)(h:e.rd F M)(hs:s.rd F M)(hc:yK p=true)(hfm:FitM p s.blocks)(hfc:e.no=false→(∀c∈e.cells,FitC p s.blocks c.pc)∧e.news.length=p.news.length) :
  CallsA Tryz.prog 21 [p.val,e.val,s.val] F M (Same F M (.bool (inEnv p e.pe s.blocks))):=by
 refine qZ hm Tryz.func21 e21 (Nat.le_of_ble_eq_true rfl) ?_
 have hl1:=h.cells.1
 have hl2:=h.news.1
 have hl3:=hs.blocks.1
 have hpre:=jW hc
 have hlen:=hfm.len
 simp only [c21,go_sem]
 intro r3 hF3 hM3
 simp only [go_sem]
 intro r4 hF4 hM4
 simp only [wW] at hM4
 simp only [go_sem]
 intro r5 hF5 hM5
 simp only [wW] at hM5
 have kp5:Keep M (((M.upd r3 ⟨p.cs,28,7⟩).upd r4 ⟨e.cs,46,3⟩).upd r5 ⟨s.cs,42,5⟩):=(by repeat' first | exact Keep.refl _ | (refine Keep.new ?_ (by simp only [*])))
 have old5:Old F (((M.upd r3 ⟨p.cs,28,7⟩).upd r4 ⟨e.cs,46,3⟩).upd r5 ⟨s.cs,42,5⟩):=(by repeat' first | assumption | (refine Old.upd ?_ (by assumption)))
 have f3:(((M.upd r3 ⟨p.cs,28,7⟩).upd r4 ⟨e.cs,46,3⟩).upd r5 ⟨s.cs,42,5⟩) r3=some ⟨p.cs,28,7⟩:=by rw [Hp.qK (by simp [hM5]),Hp.qK (by simp [hM4])]; exact Hp.qJ _ _ _
 have f4:(((M.upd r3 ⟨p.cs,28,7⟩).upd r4 ⟨e.cs,46,3⟩).upd r5 ⟨s.cs,42,5⟩) r4=some ⟨e.cs,46,3⟩:=by rw [Hp.qK (by simp [hM5])]; exact Hp.qJ _ _ _
 have f5:(((M.upd r3 ⟨p.cs,28,7⟩).upd r4 ⟨e.cs,46,3⟩).upd r5 ⟨s.cs,42,5⟩) r5=some ⟨s.cs,42,5⟩:=Hp.qJ _ _ _
 generalize (((M.upd r3 ⟨p.cs,28,7⟩).upd r4 ⟨e.cs,46,3⟩).upd r5 ⟨s.cs,42,5⟩)=M1 at *
 have h1:=h.keep kp5 old5
 have hs1:=hs.keep kp5 old5
 have b3:=qG (F:=F) f3
 have b4:=qG (F:=F) f4
 have b5:=qG (F:=F) f5
 clear hM3 hM4 hM5 hF3 hF4 hF5 h hs
 have fin:∀v:Bool,inEnv p e.pe s.blocks=v→∀M',Keep M1 M'→endK F M' (Same F M (.bool (inEnv p e.pe s.blocks))) (.bool v):=fun v h M' k=>qX (kp5.trans k) ⟨by rw [h],rfl,rfl⟩
 by_cases hno:e.no=true
 ·have hR:inEnv p e.pe s.blocks=false:=by
   have:e.pe.no=true:=hno
   unfold inEnv; rw [this]; rfl
  simp only [go_sem,b4,hno]
  exact fin _ hR _ (Keep.refl _)
 have hno':e.no=false:=by simpa using hno
 obtain ⟨hfc,hnl⟩:=hfc hno'
 have hR:inEnv p e.pe s.blocks=(e.pe.cells.all (saysB p s.blocks) && (List.range e.news.length).all (newB p s.blocks e.news)):=by
  have:e.pe.no=false:=hno'
  unfold inEnv; rw [this]; rfl
 generalize inEnv p e.pe s.blocks=R at *
 simp only [go_sem,b4,hno']
 have hpl:e.pe.cells.length=e.cells.length:=by simp [En.pe]
 refine yX e.cells.length (pinI p e s.blocks F M1) ⟨rfl,Keep.refl _,old5,(by simp only [go_sem, *] <;> rfl),rfl⟩ ?_
 rintro i σ F' M2 hi hst ⟨rfl,kp,old,q7,he⟩
 have q3:=hst 3 rfl
 have q4:=hst 4 rfl
 have q5:=hst 5 rfl
 simp only [go_sem] at q3 q4 q5
 clear hst
 have g3:=kp _ _ f3
 have g4:=kp _ _ f4
 have g5:=kp _ _ f5
 have b3':=qG (F:=F) g3
 have b4':=qG (F:=F) g4
 have b5':=qG (F:=F) g5
 have h2:=h1.keep kp old
 have hs2:=hs1.keep kp old
 by_cases hil:(i:Int) < e.cells.length
 ·have hi0:(0:Int)≤i:=by omega
  have hi1:i < e.cells.length:=by omega
  have ei:IntKind.i64.wrap ((i:Int)+1)=i+1:=w64 (by omega) (by omega)
  have hfi:=hfc _ (List.getElem_mem hi1)
  have hci:=h2.ptrs _ (List.getElem_mem hi1)
  have t1:e.pe.cells.take (i+1)=e.pe.cells.take i++[(e.cells[i]).pc]:=by
   rw [List.take_succ_eq_append_getElem (by omega)]; simp [En.pe]
  have hno2:saysB p s.blocks (e.cells[i]).pc=false→R=false:=fun h=>by
   rw [hR]
   have:e.pe.cells.all (saysB p s.blocks)=false:=by
    rw [List.all_eq_false]
    exact ⟨(e.cells[i]).pc,by simp only [En.pe]; exact List.mem_map_of_mem (List.getElem_mem hi1),by simp [h]⟩
   rw [this]; rfl
  obtain ⟨b,o,cs,ea,hb,rows⟩:=h2.cells.rows (by omega)
  obtain ⟨d1,d2⟩:=rows i hi1
  clear rows
  generalize e.cells[i]=c at *
  have hblk:1≤c.b∧c.b < s.blocks.length:=hfi.block
  have hin:(yZ s.blocks c.b).st=1→0≤c.p∧c.p+wX p.ptr c.k≤(yZ s.blocks c.b).l.length:=hfi.inside
  have hkk:c.k=0∨c.k=11∨isS c.k=true:=hfi.kind
  have hby:∀x∈(yZ s.blocks c.b).l,byteB x=true:=by
   obtain ⟨k,hk⟩:=Int.eq_ofNat_of_zero_le (by omega:0≤c.b)
   have hkl:k < s.blocks.length:=by omega
   rw [hk,yH hkl]
   exact (hfm.bytes k hkl).1
  have kS:=k46 F M2 p s.blocksA s.blocksC s.blocks c old hpre.1 hci hs2.blocks hs2.bytes (by omega) hin hby hkk
  simp only [go_sem,q3,q4,q5,q7,b3',b4',b5',hil,hi0,ea,Int.toNat_natCast,hb,d1,d2]
  with_reducible refine qQ kS ?_
  cases hsv:saysB p s.blocks c.pc
  ·simp only [go_sem]
   exact fin _ (hno2 hsv) _ kp
  ·simp only [go_sem,q7,ei]
   exact ⟨hi1,rfl,kp,old,(by simp only [go_sem, *] <;> rfl),by rw [t1,List.all_append,he]; simp [hsv]⟩
 have hx:i=e.cells.length:=by omega
 have hall:e.pe.cells.all (saysB p s.blocks)=true:=by
  rw [List.take_of_length_le (by omega)] at he; exact he
 rw [hall,Bool.true_and] at hR
 simp only [go_sem,q4,q7,hil,b4']
 clear q7 hil he hx
 refine yX e.news.length (pinN p e s.blocks F M2) ⟨rfl,rfl,(by simp only [go_sem, *] <;> rfl),rfl⟩ ?_
 rintro k σ3 F' M3 hk hst ⟨rfl,rfl,q8,he3⟩
 have t3:=hst 3 rfl
 have t4:=hst 4 rfl
 have t5:=hst 5 rfl
 simp only [go_sem,q3,q4,q5] at t3 t4 t5
 clear hst
 by_cases hkl:(k:Int) < e.news.length
 rotate_left
 ·have hk':k=e.news.length:=by omega
  rw [hk'] at he3
  simp only [go_sem,t4,b4',q8,hkl]
  exact fin _ (by rw [hR,he3]) _ kp
 have hk0:(0:Int)≤k:=by omega
 have hk1:k < e.news.length:=by omega
 have ek:IntKind.i64.wrap ((k:Int)+1)=k+1:=w64 (by omega) (by omega)
 have hj:p.vars.length+1+k < s.blocks.length:=by omega
 have ew1:IntKind.i64.wrap ((p.vars.length:Int)+1)=p.vars.length+1:=w64 (by omega) (by omega)
 have ew2:IntKind.i64.wrap ((p.vars.length:Int)+1+k)=((p.vars.length+1+k:Nat):Int):=by rw [w64 (by omega) (by omega)]; omega
 have hj0:(0:Int)≤((p.vars.length+1+k:Nat):Int):=by omega
 have hjl:((p.vars.length+1+k:Nat):Int) < s.blocks.length:=by omega
 have hnB:=newB_at (p:=p) (m:=s.blocks) hk1 hj rfl
 have hst0:=(hfm.bytes _ hj).2.1
 obtain ⟨b4,o4,cs4,ea4,hb4,e1⟩:=Ax.gH h2.news hk1
 obtain ⟨b',o',cs',ea',hb',rows⟩:=hs2.blocks.rows (by omega)
 obtain ⟨d3,d4⟩:=rows _ hj
 obtain ⟨d4,_⟩:=Go.Ax.Bl.row d4
 clear rows
 generalize s.blocks[p.vars.length+1+k]=x at *
 generalize e.news[k]=y at *
 have hst0':¬x.st < 0:=by omega
 by_cases hz:band .i64 (shrv .i64 y x.st) 1=0
 ·have hf:newB p s.blocks e.news k=false:=by rw [hnB]; simp [hz]
  simp only [go_sem,t3,t4,t5,q8,hkl,hk0,ea4,Int.toNat_natCast,Nat.add_zero,hb4,e1,b3',b4',b5',ew1,ew2,hj0,hjl,ea',hb',d4,hst0',hz]
  exact fin _ (by rw [hR,range_no hk1 hf]) _ kp
 ·have hf:newB p s.blocks e.news k=true:=by rw [hnB]; simp [hz]
  simp only [go_sem,t3,t4,t5,q8,hkl,hk0,ea4,Int.toNat_natCast,Nat.add_zero,hb4,e1,b3',b4',b5',ew1,ew2,hj0,hjl,ea',hb',d4,hst0',hz,ek]
  exact ⟨hk1,rfl,rfl,(by simp only [go_sem, *] <;> rfl),by rw [all_range,he3,hf]; rfl⟩
theorem k56 (p:Pg)(e:En)(s:Ste)(hp:p.rd F)(hold:Old F M)(h:e.rd F M)(hs:s.rd F M)(hfe:e.cells.length≤100000∧e.news.length≤100000) :
  CallsA Tryz.prog 56 [p.val,e.val,s.val] F M (Same F M (if yK p=true∧envB p e.pe=true∧stateB p s=true then .tuple #[.bool (inEnv p e.pe s.blocks),.int .i64 0] else .tuple #[.bool false,.int .i64 1])):=by
 refine qZ hm Tryz.func56 e56 (Nat.le_of_ble_eq_true rfl) ?_
 simp only [c56,go_sem]
 intro r3 hF3 hM3
 simp only [go_sem]
 intro r4 hF4 hM4
 simp only [wW] at hM4
 simp only [go_sem]
 intro r5 hF5 hM5
 simp only [wW] at hM5
 have kp5:Keep M (((M.upd r3 ⟨p.cs,28,7⟩).upd r4 ⟨e.cs,46,3⟩).upd r5 ⟨s.cs,42,5⟩):=(by repeat' first | exact Keep.refl _ | (refine Keep.new ?_ (by simp only [*])))
 have old5:Old F (((M.upd r3 ⟨p.cs,28,7⟩).upd r4 ⟨e.cs,46,3⟩).upd r5 ⟨s.cs,42,5⟩):=(by repeat' first | assumption | (refine Old.upd ?_ (by assumption)))
 have f3:(((M.upd r3 ⟨p.cs,28,7⟩).upd r4 ⟨e.cs,46,3⟩).upd r5 ⟨s.cs,42,5⟩) r3=some ⟨p.cs,28,7⟩:=by rw [Hp.qK (by simp [hM5]),Hp.qK (by simp [hM4])]; exact Hp.qJ _ _ _
 have f4:(((M.upd r3 ⟨p.cs,28,7⟩).upd r4 ⟨e.cs,46,3⟩).upd r5 ⟨s.cs,42,5⟩) r4=some ⟨e.cs,46,3⟩:=by rw [Hp.qK (by simp [hM5])]; exact Hp.qJ _ _ _
 have f5:(((M.upd r3 ⟨p.cs,28,7⟩).upd r4 ⟨e.cs,46,3⟩).upd r5 ⟨s.cs,42,5⟩) r5=some ⟨s.cs,42,5⟩:=Hp.qJ _ _ _
 generalize (((M.upd r3 ⟨p.cs,28,7⟩).upd r4 ⟨e.cs,46,3⟩).upd r5 ⟨s.cs,42,5⟩)=M1 at *
 have h1:=h.keep kp5 old5
 have hs1:=hs.keep kp5 old5
 have b3:=qG (F:=F) f3
 have b4:=qG (F:=F) f4
 have b5:=qG (F:=F) f5
 clear hM3 hM4 hM5 hF3 hF4 hF5 h hs
 simp only [go_sem,b3,b4]
 intro r10 hF10 hM10
 have f3':=((Keep.refl M1).new hM10 (e:=⟨e.cs,46,3⟩)) _ _ f3
 have f4':=((Keep.refl M1).new hM10 (e:=⟨e.cs,46,3⟩)) _ _ f4
 have f5':=((Keep.refl M1).new hM10 (e:=⟨e.cs,46,3⟩)) _ _ f5
 have b3':=qG (F:=F) f3'
 have b4':=qG (F:=F) f4'
 have b5':=qG (F:=F) f5'
 generalize eQ:M1.upd r10 ⟨e.cs,46,3⟩=M2 at *
 obtain ⟨kp6,old6,f10⟩:=nw eQ old5 hF10 hM10
 clear eQ
 have b10:=qG (F:=F) f10
 have h2:=h1.keep kp6 old6
 have hs2:=hs1.keep kp6 old6
 have hlE:RdG 3 En.cs F M2 (.slice (some ⟨r10,0,none⟩) [e].length 1) [e]:=by
  refine ⟨by simp,_,_,Nat.le_refl _,rfl,.inr ⟨r10,0,e.cs,rfl,b10,?_⟩⟩
  intro i hi
  have:i=0:=by simp at hi; omega
  subst this
  exact ⟨by simp [En.cs_len],by simp [En.take_all]⟩
 have kA:=k37 F M2 p _ _ [e] hp old6 hlE (fun x hx=>by rw [List.mem_singleton.1 hx]; exact h2) (fun x hx=>by rw [List.mem_singleton.1 hx]; exact hfe)
 simp only [List.all_cons,List.all_nil,Bool.and_true,List.length_singleton] at kA
 simp only [go_sem]
 with_reducible refine qQ kA ?_
 have fin:∀v:Value,(if yK p=true∧envB p e.pe=true∧stateB p s=true then Value.tuple #[.bool (inEnv p e.pe s.blocks),.int .i64 0] else .tuple #[.bool false,.int .i64 1])=v→∀M',Keep M2 M'→endK F M' (Same F M (if yK p=true∧envB p e.pe=true∧stateB p s=true then .tuple #[.bool (inEnv p e.pe s.blocks),.int .i64 0] else .tuple #[.bool false,.int .i64 1])) v:=fun v h M' k=>qX (kp5.trans (kp6.trans k)) ⟨h.symm,rfl,rfl⟩
 generalize hRd:(if yK p=true∧envB p e.pe=true∧stateB p s=true then Value.tuple #[.bool (inEnv p e.pe s.blocks),.int .i64 0] else .tuple #[.bool false,.int .i64 1])=R at *
 by_cases hpe:yK p=true∧envB p e.pe=true
 rotate_left
 ·have hf:(yK p && envB p e.pe)=false:=by
   cases h1:yK p
   ·rfl
   ·cases h2:envB p e.pe
    ·rfl
    ·exact absurd ⟨h1,h2⟩ hpe
  rw [if_neg (fun h=>hpe ⟨h.1,h.2.1⟩)] at hRd
  simp only [go_sem,hf]
  exact fin _ hRd.symm _ (Keep.refl _)
 have ht:(yK p && envB p e.pe)=true:=by rw [hpe.1,hpe.2]; rfl
 simp only [go_sem,ht,b3',b5']
 with_reducible refine qQ (k59 F M2 p s hp old6 hs2) ?_
 cases hsb:stateB p s
 ·rw [hsb,if_neg (fun h=>by cases h.2.2)] at hRd
  simp only [go_sem]
  exact fin _ hRd.symm _ (Keep.refl _)
 rw [hsb,if_pos ⟨hpe.1,hpe.2,rfl⟩] at hRd
 have hfm:FitM p s.blocks:=FitM.of (by unfold stateB at hsb; simp only [Bool.and_eq_true] at hsb; exact hsb.2)
 have kH:=k94 F M2 p e s hp old6 h2 hs2 hpe.1 hfm (fun hn=>⟨fun c hc=>FitC.of hfm ((envB_cells hpe.2 hn).1 _ (by simp only [En.pe]; exact List.mem_map_of_mem hc)),(envB_cells hpe.2 hn).2.1⟩)
 simp only [go_sem,b3',b4',b5']
 with_reducible refine qQ kH ?_
 simp only [go_sem]
 exact fin _ hRd.symm _ (Keep.refl _)
def cnI (l:List Int)(F0:Fz)(M0:Hp)(i:Nat)(σ:Env)(F:Fz)(M:Hp):Prop:=
 F0=F∧Keep M0 M∧Old F0 M∧Ax.look σ 4=some (.int .i64 i)∧∃w,Ax.look σ 3=some w∧yY 1 intC 3 F0 M0 M w (l.take i)
theorem k27 (a:Option Addr)(c:Nat)(l:List Int)(h:intR F M a c l)(hold:Old F M)(hl:l.length≤100000) :
  CallsA Tryz.prog 27 [.slice a l.length c] F M (rowR 1 intC 3 l F M):=by
 refine qZ hm Tryz.func27 e27 (Nat.le_of_ble_eq_true rfl) ?_
 simp only [c27,go_sem]
 refine yX l.length (cnI l F M) ⟨rfl,Keep.refl _,hold,(by simp only [go_sem, *] <;> rfl),_,(by simp only [go_sem, *] <;> rfl),by rw [List.take_zero]; exact yY.nil⟩ ?_
 rintro i σ F' M' hi hst ⟨rfl,kp,old,q4,w,q3,mine⟩
 have q0:=hst 0 rfl
 simp only [go_sem] at q0
 clear hst
 by_cases hil:(i:Int) < l.length
 rotate_left
 ·rw [List.take_of_length_le (by omega)] at mine
  simp only [go_sem,q0,q3,q4,hil]
  exact mine.done kp
 have hi0:(0:Int)≤i:=by omega
 have hi1:i < l.length:=by omega
 have ei:IntKind.i64.wrap ((i:Int)+1)=i+1:=w64 (by omega) (by omega)
 obtain ⟨b,o,cs,rfl,hb,d1⟩:=Ax.gH (h.keep kp old) hi1
 have t1:=List.take_succ_eq_append_getElem hi1
 generalize l[i]=x at *
 simp only [go_sem,q0,q3,q4,hil,hi0,Int.toNat_natCast,hb,d1]
 intro rb hFb hMb
 simp only [go_sem]
 refine apMG_of (xs:=l.take i) (ys:=[x]) wD intC_plain (by decide) (mine.fresh hMb) (kp.new (kp.free hMb)) ⟨rfl,.inr ⟨⟨rb,0,none⟩,1,rfl,.inr ⟨rb,0,_,rfl,wY,by simp [intC,intV]⟩⟩⟩ (by simp) (by simp; omega) ?_
 rintro v' M2 _ _ kp2 ho2 mine2
 rw [←t1] at mine2
 simp only [go_sem,q4,ei]
 exact ⟨hi1,rfl,kp2,ho2 (old.upd hFb),(by simp only [go_sem, *] <;> rfl),v',(by simp only [go_sem, *] <;> rfl),mine2⟩
def cellNew (c:Pc)(F:Fz)(M:Hp)(u:Value)(F':Fz)(M':Hp):Prop:=F'=F∧Keep M M'∧Old F M'∧∃c':Cl,u=c'.val∧c'.pc=c∧jQ 7 Ba.cs 102 F M' (.slice c'.lA c'.l.length c'.lC) c'.l
theorem own_zero {α:Type}{sz:Nat}{f:α→List Value}{e:TypeId}{F:Fz}{M:Hp}{a:Option Addr}{n c:Nat}{l:List α}(h:jQ sz f e F M (.slice a n c) l):a=none→c=0:=by
 rintro rfl
 rcases h with ⟨h,_⟩ | ⟨g,cap,h,_⟩
 ·cases h; rfl
 ·cases h
theorem k19 (n:Int):CallsA Tryz.prog 19 [.int .i64 n] F M (Same F M (.int .i64 n)):=by
 refine qZ hm Tryz.func19 e19 (Nat.le_of_ble_eq_true rfl) ?_
 simp only [c19,go_sem]
 exact qW ⟨rfl,rfl,rfl⟩
theorem k108 (big:Bool)(ptr:Nat)(a:Option Addr)(c:Nat)(l:List By)(at_:Nat)(hp:ptr=2∨ptr=4)(hold:Old F M)(h:RdG 5 By.cs F M (.slice a l.length c) l)(hl:l.length≤100000)(hat:at_≤100000) :
  CallsA Tryz.prog 108 [.agg #[.bool big,.int .i64 ptr],.slice a l.length c,.int .i64 at_] F M (Same F M (.tuple #[(wholeV big ptr l at_).1.val,.bool (wholeV big ptr l at_).2])):=by
 refine qZ hm Tryz.func108 e108 (Nat.le_of_ble_eq_true rfl) ?_
 simp only [c108,go_sem]
 intro r3 hF3 hM3
 simp only [go_sem]
 intro r6 hF6 hM6
 simp only [wW] at hM6
 have kp6:Keep M ((M.upd r3 ⟨[.bool big,.int .i64 ptr],23,2⟩).upd r6 ⟨[.bool false,.int .i64 0,.int .i64 0,.int .i64 0],50,4⟩):=(by repeat' first | exact Keep.refl _ | (refine Keep.new ?_ (by simp only [*])))
 have old6:Old F ((M.upd r3 ⟨[.bool big,.int .i64 ptr],23,2⟩).upd r6 ⟨[.bool false,.int .i64 0,.int .i64 0,.int .i64 0],50,4⟩):=(by repeat' first | assumption | (refine Old.upd ?_ (by assumption)))
 have f3:((M.upd r3 ⟨[.bool big,.int .i64 ptr],23,2⟩).upd r6 ⟨[.bool false,.int .i64 0,.int .i64 0,.int .i64 0],50,4⟩) r3=some ⟨[.bool big,.int .i64 ptr],23,2⟩:=by rw [Hp.qK hM6.1.2]; exact Hp.qJ _ _ _
 have f6:((M.upd r3 ⟨[.bool big,.int .i64 ptr],23,2⟩).upd r6 ⟨[.bool false,.int .i64 0,.int .i64 0,.int .i64 0],50,4⟩) r6=some ⟨[.bool false,.int .i64 0,.int .i64 0,.int .i64 0],50,4⟩:=Hp.qJ _ _ _
 have n6:M r6=none:=hM6.2
 generalize (M.upd r3 ⟨[.bool big,.int .i64 ptr],23,2⟩).upd r6 ⟨[.bool false,.int .i64 0,.int .i64 0,.int .i64 0],50,4⟩=M1 at *
 have h1:=h.keep kp6 old6
 have b3:=qG (F:=F) f3
 have b6:=qG (F:=F) f6
 clear hF3 hM3 hF6 hM6 h
 have fin:∀s v,wholeV big ptr l at_=(s,v)→∀M3,Keep M1 M3→∀x,endK F (M3.upd r6 x) (Same F M (.tuple #[(wholeV big ptr l at_).1.val,.bool (wholeV big ptr l at_).2])) (.tuple #[s.val,.bool v]):=fun s v e M3 kp x=>qX ((kp6.trans kp).new n6) ⟨by rw [e],rfl,rfl⟩
 have hp0:¬(ptr:Int)=0:=by omega
 have em:(at_:Int).tmod ptr=((at_ % ptr:Nat):Int):=by rw [Int.tmod_eq_emod_of_nonneg (by omega)]; rfl
 have ew:IntKind.i64.wrap ((at_:Int)+ptr)=((at_+ptr:Nat):Int):=by rw [w64 (by omega) (by omega)]; omega
 by_cases hm0:at_ % ptr=0
 rotate_left
 ·have hm0':¬((at_ % ptr:Nat):Int)=0:=by omega
  have hv:wholeV big ptr l at_=(⟨false,0,0,0⟩,false):=by unfold wholeV; rw [if_neg (fun h=>hm0 h.1)]
  simp only [setH,go_sem,b3,hp0,em,hm0',f6]
  exact fin _ _ hv M1 (Keep.refl _) _
 have hm0':((at_ % ptr:Nat):Int)=0:=by omega
 by_cases hle:at_+ptr≤l.length
 rotate_left
 ·have hle':(l.length:Int) < ((at_+ptr:Nat):Int):=by omega
  have hv:wholeV big ptr l at_=(⟨false,0,0,0⟩,false):=by unfold wholeV; rw [if_neg (fun h=>hle h.2)]
  simp only [setH,go_sem,b3,hp0,em,hm0',ew,hle',f6]
  exact fin _ _ hv M1 (Keep.refl _) _
 have hle':¬(l.length:Int) < ((at_+ptr:Nat):Int):=by omega
 have hv:wholeV big ptr l at_=((yW big 7 ((l.drop at_).take ptr)).1,decide ((yW big 7 ((l.drop at_).take ptr)).2=0) && decide (0 < (yW big 7 ((l.drop at_).take ptr)).1.b)):=by unfold wholeV; rw [if_pos ⟨hm0,hle⟩]
 have hcl:=cut_len (l:=l) (lo:=at_) (n:=ptr) hle
 have hcut:=RdG.cut h1 (lo:=at_) (n:=ptr) hle
 have e1:(0:Int)≤((at_+ptr:Nat):Int):=by omega
 have e0:(0:Int)≤(at_:Int):=by omega
 have e2:(at_:Int)≤((at_+ptr:Nat):Int):=by omega
 have e3:((at_+ptr:Nat):Int)≤l.length:=by omega
 have e4:l.length≤c:=by
  obtain ⟨_,ad,cap,hc,e,_⟩:=h1
  cases e; exact hc
 have e4':(l.length:Int)≤c:=by omega
 have e5:at_+ptr - at_=ptr:=by omega
 have kR:=k164 F M1 big ptr 7 _ _ ((l.drop at_).take ptr) old6 hcut (by rw [hcl]; omega)
 rw [hcl] at kR
 simp only [go_sem,b3,hp0,em,hm0',ew,hle',e0,e2,e3,e4,e5,Int.toNat_natCast]
 with_reducible refine qQ kR ?_
 generalize yW big 7 ((l.drop at_).take ptr)=rv at *
 obtain ⟨s,bad⟩:=rv
 simp only [go_sem]
 intro r8 hF8 hM8
 have m6:=qH hM8 f6
 have kp8:∀e,Keep M1 (M1.upd r8 e):=fun e=>(Keep.refl M1).new hM8
 by_cases hbad:bad=0
 rotate_left
 ·simp only [setH,Hp.wG,go_sem,hbad,m6,f6]
  exact fin s false (hv.trans (by simp [hbad])) _ (kp8 _) _
 by_cases hb:0 < s.b
 ·simp only [setH,Hp.wG,go_sem,hbad,hb,m6,f6]
  exact fin s true (hv.trans (by simp [hbad,hb])) _ (kp8 _) _
 ·simp only [setH,Hp.wG,go_sem,hbad,hb,m6,f6]
  exact fin s false (hv.trans (by simp [hbad,hb])) _ (kp8 _) _
theorem ab_set_num {v w:V}{u:Value}:v.cs++List.drop 6 (yJ w u)=yJ v u:=rfl
theorem k110 (b p:Int)(x:By)(hold:Old F M):CallsA Tryz.prog 110 [.int .i64 b,.int .i64 p,x.val] F M (cellNew (singleV b p x) F M):=by
 refine qZ hm Tryz.func110 e110 (Nat.le_of_ble_eq_true rfl) ?_
 simp only [c110,go_sem]
 intro r5 hF5 hM5
 simp only [go_sem]
 intro r6 hF6 hM6
 simp only [wW] at hM6
 simp only [go_sem]
 intro r7 hF7 hM7
 simp only [wW] at hM7
 simp only [setH,Hp.wG,go_sem,hM6,hM7]
 have kp7:Keep M (((M.upd r5 ⟨x.cs,91,5⟩).upd r6 ⟨[.int .i64 0,.int .i64 0,.int .i64 0,.int .i64 0,.bool false,.int .i64 0,.int .i64 0,.int .i64 0,.int .i64 0,.slice none 0 0],84,10⟩).upd r7 ⟨[.int .i64 b,.int .i64 p,.int .i64 0,.int .i64 0,.bool false,.int .i64 0,.int .i64 0,.int .i64 0,.int .i64 0,.slice none 0 0],84,10⟩):=(by repeat' first | exact Keep.refl _ | (refine Keep.new ?_ (by simp only [*])))
 have old7:Old F (((M.upd r5 ⟨x.cs,91,5⟩).upd r6 ⟨[.int .i64 0,.int .i64 0,.int .i64 0,.int .i64 0,.bool false,.int .i64 0,.int .i64 0,.int .i64 0,.int .i64 0,.slice none 0 0],84,10⟩).upd r7 ⟨[.int .i64 b,.int .i64 p,.int .i64 0,.int .i64 0,.bool false,.int .i64 0,.int .i64 0,.int .i64 0,.int .i64 0,.slice none 0 0],84,10⟩):=(by repeat' first | assumption | (refine Old.upd ?_ (by assumption)))
 have f5:(((M.upd r5 ⟨x.cs,91,5⟩).upd r6 ⟨[.int .i64 0,.int .i64 0,.int .i64 0,.int .i64 0,.bool false,.int .i64 0,.int .i64 0,.int .i64 0,.int .i64 0,.slice none 0 0],84,10⟩).upd r7 ⟨[.int .i64 b,.int .i64 p,.int .i64 0,.int .i64 0,.bool false,.int .i64 0,.int .i64 0,.int .i64 0,.int .i64 0,.slice none 0 0],84,10⟩) r5=some ⟨x.cs,91,5⟩:=by rw [Hp.qK (by simp [hM7]),Hp.qK (by simp [hM6])]; exact Hp.qJ _ _ _
 have f6:(((M.upd r5 ⟨x.cs,91,5⟩).upd r6 ⟨[.int .i64 0,.int .i64 0,.int .i64 0,.int .i64 0,.bool false,.int .i64 0,.int .i64 0,.int .i64 0,.int .i64 0,.slice none 0 0],84,10⟩).upd r7 ⟨[.int .i64 b,.int .i64 p,.int .i64 0,.int .i64 0,.bool false,.int .i64 0,.int .i64 0,.int .i64 0,.int .i64 0,.slice none 0 0],84,10⟩) r6=some ⟨[.int .i64 0,.int .i64 0,.int .i64 0,.int .i64 0,.bool false,.int .i64 0,.int .i64 0,.int .i64 0,.int .i64 0,.slice none 0 0],84,10⟩:=by rw [Hp.qK (by simp [hM7])]; exact Hp.qJ _ _ _
 have f7:(((M.upd r5 ⟨x.cs,91,5⟩).upd r6 ⟨[.int .i64 0,.int .i64 0,.int .i64 0,.int .i64 0,.bool false,.int .i64 0,.int .i64 0,.int .i64 0,.int .i64 0,.slice none 0 0],84,10⟩).upd r7 ⟨[.int .i64 b,.int .i64 p,.int .i64 0,.int .i64 0,.bool false,.int .i64 0,.int .i64 0,.int .i64 0,.int .i64 0,.slice none 0 0],84,10⟩) r7=some ⟨[.int .i64 b,.int .i64 p,.int .i64 0,.int .i64 0,.bool false,.int .i64 0,.int .i64 0,.int .i64 0,.int .i64 0,.slice none 0 0],84,10⟩:=Hp.qJ _ _ _
 have n6:M r6=none:=hM6.2
 have n7:M r7=none:=hM7.2.2
 have ne67:¬r6=r7:=hM7.1.2
 have ne76:¬r7=r6:=hM7.1.1
 generalize (((M.upd r5 ⟨x.cs,91,5⟩).upd r6 ⟨[.int .i64 0,.int .i64 0,.int .i64 0,.int .i64 0,.bool false,.int .i64 0,.int .i64 0,.int .i64 0,.int .i64 0,.slice none 0 0],84,10⟩).upd r7 ⟨[.int .i64 b,.int .i64 p,.int .i64 0,.int .i64 0,.bool false,.int .i64 0,.int .i64 0,.int .i64 0,.int .i64 0,.slice none 0 0],84,10⟩)=M1 at *
 have b5:=qG (F:=F) f5
 have b6:=qG (F:=F) f6
 have b7:=qG (F:=F) f7
 have fin:∀c:Cl,c.pc=singleV b p x→∀M3,Keep M1 M3→Old F M3→(∃X,M3 r7=some ⟨X,84,10⟩)→(∃X,M3 r6=some ⟨X,84,10⟩)→jQ 7 Ba.cs 102 F M3 (.slice c.lA c.l.length c.lC) c.l→∀X Y,endK F ((M3.upd r7 ⟨X,84,10⟩).upd r6 ⟨Y,84,10⟩) (cellNew (singleV b p x) F M) c.val:=by
  rintro c hc M3 kp3 o3 ⟨X7,g7⟩ ⟨X6,g6⟩ own X Y
  refine qW ⟨rfl,((kp7.trans kp3).new n7).new n6,(o3.upd hF7).upd hF6,c,rfl,hc,own.frame (e':=84) (fun r y hy hne=>?_) (by decide)⟩
  have e7:¬r=r7:=by rintro rfl; rw [g7] at hy; cases hy; exact hne rfl
  have e6:¬r=r6:=by rintro rfl; rw [g6] at hy; cases hy; exact hne rfl
  rw [Hp.qK e6,Hp.qK e7]; exact hy
 by_cases h1:x.st=1
 ·have hv:singleV b p x=⟨b,p,1,V.just 8 x.n,[]⟩:=by unfold singleV; rw [if_pos h1]
  simp only [go_sem,b5,h1]
  with_reducible refine qQ (k166 F M1 8 x.n) ?_
  simp only [go_sem]
  with_reducible refine qQ (k143 F M1 _) ?_
  simp only [setH,Hp.wG,go_sem,f6,f7,ne67]
  exact fin ⟨b,p,1,V.just 8 x.n,none,0,[]⟩ hv.symm M1 (Keep.refl _) old7 ⟨_,f7⟩ ⟨_,f6⟩ (.inl ⟨rfl,rfl⟩) _ _
 by_cases h2:x.st=2
 ·have hv:singleV b p x=⟨b,p,11,V.just 8 x.i,[⟨x.b,V.just 8 x.o⟩]⟩:=by unfold singleV; rw [if_neg h1,if_pos h2]
  simp only [go_sem,b5,h2]
  with_reducible refine qY (k165 F M1 x.b x.o) ?_
  rintro u F' M2 hu
  obtain ⟨hG,hu⟩:=hu
  subst hG
  obtain ⟨hh,_⟩ | ⟨g,cap,gF,gM,rfl,hcap,rfl⟩:=hu
  ·cases hh
  have kp2:Keep M1 (M1.upd g ⟨[(⟨x.b,V.just 8 x.o⟩:Ba)].flatMap Ba.cs,102,cap * 7⟩):=(Keep.refl M1).new gM
  have o2:Old F' (M1.upd g ⟨[(⟨x.b,V.just 8 x.o⟩:Ba)].flatMap Ba.cs,102,cap * 7⟩):=old7.upd gF
  refine ⟨(fun h=>by cases h),?_⟩
  have g5:=kp2 _ _ f5
  have g6:=kp2 _ _ f6
  have g7:=kp2 _ _ f7
  have own:jQ 7 Ba.cs 102 F' (M1.upd g ⟨[(⟨x.b,V.just 8 x.o⟩:Ba)].flatMap Ba.cs,102,cap * 7⟩) (.slice (some ⟨g,0,none⟩) [(⟨x.b,V.just 8 x.o⟩:Ba)].length cap) [⟨x.b,V.just 8 x.o⟩]:=.inr ⟨g,cap,rfl,gF,Hp.qJ _ _ _,hcap⟩
  generalize M1.upd g ⟨[(⟨x.b,V.just 8 x.o⟩:Ba)].flatMap Ba.cs,102,cap * 7⟩=M2 at *
  have b5':=qG (F:=F') g5
  have b7':=qG (F:=F') g7
  have ne57:¬r5=r7:=hM7.2.1.2
  simp only [setH,Hp.wG,go_sem,g7,b5',ne57]
  with_reducible refine qQ (k166 F' _ 8 x.i) ?_
  simp only [setH,Hp.wG,go_sem,g6,ne67,ab_set_num]
  exact fin ⟨b,p,11,V.just 8 x.i,some ⟨g,0,none⟩,cap,[⟨x.b,V.just 8 x.o⟩]⟩ hv.symm M2 kp2 o2 ⟨_,g7⟩ ⟨_,g6⟩ own _ _
 have hv:singleV b p x=⟨b,p,0,V.zero,[]⟩:=by unfold singleV; rw [if_neg h1,if_neg h2]
 simp only [setH,go_sem,b7,f6,h1,h2]
 refine qW ⟨rfl,kp7.new n6,old7.upd hF6,⟨b,p,0,V.zero,none,0,[]⟩,rfl,hv.symm,.inl ⟨rfl,rfl⟩⟩
end Go.Proofs.Tryz.K
namespace Go.Proofs.Tryz.K
open Go Go.Ax Go.Proofs.Tryz.S
set_option maxRecDepth 100000
set_option linter.unusedSimpArgs false
set_option linter.unusedVariables false
set_option maxHeartbeats 4000000
variable (F:Fz) (M:Hp)
structure EnOwn (F:Fz)(M:Hp)(e:En):Prop where
 own:jQ 10 Cl.cs 84 F M (.slice e.cellsA e.cells.length e.cellsC) e.cells
 owns:∀x∈e.cells,jQ 7 Ba.cs 102 F M (.slice x.lA x.l.length x.lC) x.l
 nums:jQ 1 intC 3 F M (.slice e.newsA e.news.length e.newsC) e.news
 few:e.cells.length≤100000∧e.news.length≤100000∧∀x∈e.cells,x.l.length≤100000
theorem EnOwn.rd {F:Fz}{M:Hp}{e:En}(h:EnOwn F M e):e.rd F M:=
 ⟨h.own.rd Cl.len (by have:=h.few.1; omega),fun x hx=>(h.owns x hx).rd (fun x=>rfl) (by have:=h.few.2.2 x hx; omega),h.nums.rd wD (by have:=h.few.2.1; omega),own_zero h.own,own_zero h.nums,fun x hx=>own_zero (h.owns x hx)⟩
theorem EnOwn.frame {F:Fz}{M M':Hp}{e:En}(h:EnOwn F M e){te:TypeId}(fr:∀r x,M r=some x→¬x.elem=te→M' r=some x)(h1:¬84=te)(h2:¬102=te)(h3:¬3=te):EnOwn F M' e:=
 ⟨h.own.frame fr h1,fun x hx=>(h.owns x hx).frame fr h2,h.nums.frame fr h3,h.few⟩
def envOwn (e:Pe)(F:Fz)(M:Hp)(u:Value)(F':Fz)(M':Hp):Prop:=F'=F∧Keep M M'∧Old F M'∧∃e':En,u=e'.val∧e'.pe=e∧EnOwn F M' e'
structure JuB (p:Pg)(s:Ste)(r2 r3 r4 r5:Nat)(F0:Fz)(M0:Hp)(wc wn:Value)(lc:List Cl)(ln:List Int)(M:Hp):Prop where
 kp:Keep M0 M
 old:Old F0 M
 f2:M r2=some ⟨p.cs,28,7⟩
 f3:M r3=some ⟨s.cs,42,5⟩
 f4:M r4=some ⟨[.bool false,.slice none 0 0,.slice none 0 0],46,3⟩
 f5:M r5=some ⟨[.bool false,wc,wn],46,3⟩
 own:yY 10 Cl.cs 84 F0 M0 M wc lc
 owns:∀x∈lc,jQ 7 Ba.cs 102 F0 M (.slice x.lA x.l.length x.lC) x.l
 nums:yY 1 intC 3 F0 M0 M wn ln
section
variable {p:Pg} {s:Ste} {r2 r3 r4 r5:Nat} {F0:Fz} {M0 M1 M2:Hp} {wc wn:Value} {lc:List Cl} {ln:List Int}
theorem JuB.keep (h:JuB p s r2 r3 r4 r5 F0 M0 wc wn lc ln M1)(k:Keep M1 M2)(o:Old F0 M2):JuB p s r2 r3 r4 r5 F0 M0 wc wn lc ln M2:=
 ⟨h.kp.trans k,o,k _ _ h.f2,k _ _ h.f3,k _ _ h.f4,k _ _ h.f5,h.own.keep k,fun x hx=>(h.owns x hx).keep k,h.nums.keep k⟩
theorem JuB.cell (h:JuB p s r2 r3 r4 r5 F0 M0 wc wn lc ln M1)(hF5:F0 r5=none)(h5:M0 r5=none)(h45:¬r4=r5)(h25:¬r2=r5)(h35:¬r3=r5){w:Value}{c:Cl}(hc:jQ 7 Ba.cs 102 F0 M1 (.slice c.lA c.l.length c.lC) c.l)
  (fr:∀r x,M1 r=some x→¬x.elem=84→M2 r=some x)(kp:Keep M0 M2)(o:Old F0 M2)(mine:yY 10 Cl.cs 84 F0 M0 M2 w (lc++[c])) :
  JuB p s r2 r3 r4 r5 F0 M0 w wn (lc++[c]) ln (M2.upd r5 ⟨[.bool false,w,wn],46,3⟩):=by
 have g5:=fr _ _ h.f5 (by decide:¬(46:Nat)=84)
 have fr5:∀r x,M2 r=some x→¬x.elem=46→(M2.upd r5 ⟨[.bool false,w,wn],46,3⟩) r=some x:=fun r x hx hne=>by
  have:¬r=r5:=by rintro rfl; rw [g5] at hx; cases hx; exact hne rfl
  rw [Hp.qK this]; exact hx
 refine ⟨kp.new h5,o.upd hF5,?_,?_,?_,Hp.qJ _ _ _,⟨mine.own.frame fr5 (by decide),mine.new⟩,fun x hx=>?_,⟨(h.nums.own.frame fr (by decide)).frame fr5 (by decide),h.nums.new⟩⟩
 ·rw [Hp.qK h25]; exact fr _ _ h.f2 (by decide:¬(28:Nat)=84)
 ·rw [Hp.qK h35]; exact fr _ _ h.f3 (by decide:¬(42:Nat)=84)
 ·rw [Hp.qK h45]; exact fr _ _ h.f4 (by decide:¬(46:Nat)=84)
 ·rcases List.mem_append.1 hx with hx | hx
  ·exact ((h.owns x hx).frame fr (by decide)).frame fr5 (by decide)
  ·rw [List.mem_singleton.1 hx]; exact (hc.frame fr (by decide)).frame fr5 (by decide)
theorem JuB.num (h:JuB p s r2 r3 r4 r5 F0 M0 wc wn lc ln M1)(hF5:F0 r5=none)(h5:M0 r5=none)(h45:¬r4=r5)(h25:¬r2=r5)(h35:¬r3=r5){w:Value}{n:Int}
  (fr:∀r x,M1 r=some x→¬x.elem=3→M2 r=some x)(kp:Keep M0 M2)(o:Old F0 M2)(mine:yY 1 intC 3 F0 M0 M2 w (ln++[n])) :
  JuB p s r2 r3 r4 r5 F0 M0 wc w lc (ln++[n]) (M2.upd r5 ⟨[.bool false,wc,w],46,3⟩):=by
 have g5:=fr _ _ h.f5 (by decide:¬(46:Nat)=3)
 have fr5:∀r x,M2 r=some x→¬x.elem=46→(M2.upd r5 ⟨[.bool false,wc,w],46,3⟩) r=some x:=fun r x hx hne=>by
  have:¬r=r5:=by rintro rfl; rw [g5] at hx; cases hx; exact hne rfl
  rw [Hp.qK this]; exact hx
 refine ⟨kp.new h5,o.upd hF5,?_,?_,?_,Hp.qJ _ _ _,⟨(h.own.own.frame fr (by decide)).frame fr5 (by decide),h.own.new⟩,fun x hx=>((h.owns x hx).frame fr (by decide)).frame fr5 (by decide),⟨mine.own.frame fr5 (by decide),mine.new⟩⟩
 ·rw [Hp.qK h25]; exact fr _ _ h.f2 (by decide:¬(28:Nat)=3)
 ·rw [Hp.qK h35]; exact fr _ _ h.f3 (by decide:¬(42:Nat)=3)
 ·rw [Hp.qK h45]; exact fr _ _ h.f4 (by decide:¬(46:Nat)=3)
end
theorem cellsAt_len (big:Bool)(q:Nat)(b:Int)(l:List By):∀(n at_:Nat),(jV big q b l n at_).length≤n
 | 0,_=>by simp [jV]
 | n+1,at_=>by
  rw [jV]
  split
  ·have:=cellsAt_len big q b l n (stepV big q b l at_).2
   simp only [List.length_cons]; omega
  ·simp
theorem justL_len (big:Bool)(q:Nat){p:Pg}{m:List Bl}(h:FitM p m):∀i,(justL big q m i).length≤32 * i
 | 0=>by simp [justL]
 | i+1=>by
  have h1:=justL_len big q h i
  have h2:=cellsAt_len big q i (yZ m i).l (yZ m i).l.length 0
  have h3:(yZ m i).l.length≤32:=by
   by_cases hi:i < m.length
   ·rw [yH hi]; exact (h.bytes i hi).2.2.2
   ·unfold yZ; rw [Int.toNat_natCast,List.getElem?_eq_none (by omega)]; decide
  rw [justL,List.length_append]
  omega
def juI (p:Pg)(s:Ste)(q:Nat)(r2 r3 r4 r5:Nat)(F0:Fz)(M0:Hp)(i:Nat)(σ:Env)(F:Fz)(M:Hp):Prop:=
 F0=F∧Ax.look σ 16=some (.int .i64 i)∧∃wc,∃lc:List Cl,JuB p s r2 r3 r4 r5 F0 M0 wc (.slice none 0 0) lc [] M∧lc.map Cl.pc=justL p.big q s.blocks i
def juB (p:Pg)(s:Ste)(q:Nat)(r2 r3 r4 r5 r7:Nat)(x:Bl)(i:Nat)(F0:Fz)(M0:Hp)(n:Nat)(σ:Env)(F:Fz)(M:Hp):Prop:=
 F0=F∧∃at_:Nat,at_+n=x.l.length∧Ax.look σ 8=some (.int .i64 at_)∧M r7=some ⟨x.cs,76,2⟩∧∃wc,∃lc:List Cl,JuB p s r2 r3 r4 r5 F0 M0 wc (.slice none 0 0) lc [] M∧lc.map Cl.pc++jV p.big q i x.l n at_=justL p.big q s.blocks (i+1)
theorem step_one (big:Bool)(q:Nat)(b:Int)(l:List By)(at_:Nat):(stepV big q b l at_).1.l.length≤1:=by
 unfold stepV
 split
 ·simp [ptrC]
 ·unfold singleV
  split
  ·simp
  split <;> simp
theorem cellsAt_one (big:Bool)(q:Nat)(b:Int)(l:List By):∀(n at_:Nat),∀c∈jV big q b l n at_,c.l.length≤1
 | 0,_,c,hc=>by simp [jV] at hc
 | n+1,at_,c,hc=>by
  rw [jV] at hc
  split at hc
  ·rcases List.mem_cons.1 hc with rfl | hc
   ·exact step_one _ _ _ _ _
   ·exact cellsAt_one big q b l n _ c hc
  ·simp at hc
theorem justL_one (big:Bool)(q:Nat)(m:List Bl):∀i,∀c∈justL big q m i,c.l.length≤1
 | 0,c,hc=>by simp [justL] at hc
 | i+1,c,hc=>by
  rw [justL] at hc
  rcases List.mem_append.1 hc with hc | hc
  ·exact justL_one big q m i c hc
  ·exact cellsAt_one big q _ _ _ _ c hc
def juN (p:Pg)(s:Ste)(D:List Bl)(G:Bl→Int)(r2 r3 r4 r5:Nat)(wc:Value)(lc:List Cl)(F0:Fz)(M0:Hp)(k:Nat)(σ:Env)(F:Fz)(M:Hp):Prop:=
 F0=F∧Ax.look σ 75=some (.int .i64 k)∧∃wn,JuB p s r2 r3 r4 r5 F0 M0 wc wn lc ((D.take k).map G) M
theorem k60 (p:Pg)(s:Ste)(hp:p.rd F)(hold:Old F M)(hs:s.rd F M)(hc:yK p=true)(hfm:FitM p s.blocks) :
  CallsA Tryz.prog 60 [p.val,s.val] F M (envOwn (justV p s.blocks) F M):=by
 refine qZ hm Tryz.func60 e60 (Nat.le_of_ble_eq_true rfl) ?_
 have hpre:=jW hc
 obtain ⟨q,hq⟩:=Int.eq_ofNat_of_zero_le (by omega:0≤p.ptr)
 have hq':q=2∨q=4:=by omega
 have hq0:0 < q:=by omega
 have hlen:=hfm.len
 simp only [c60,go_sem]
 intro r2 hF2 hM2
 simp only [go_sem]
 intro r3 hF3 hM3
 simp only [wW] at hM3
 simp only [go_sem]
 intro r4 hF4 hM4
 simp only [wW] at hM4
 simp only [go_sem]
 intro r5 hF5 hM5
 simp only [wW] at hM5
 have n4:M r4=none:=hM4.2.2
 have n5:M r5=none:=hM5.2.2.2
 have h45:¬r4=r5:=by simp [hM5]
 have h54:¬r5=r4:=by simp [hM5]
 have h25:¬r2=r5:=by simp [hM5]
 have h35:¬r3=r5:=by simp [hM5]
 have st:JuB p s r2 r3 r4 r5 F M (.slice none 0 0) (.slice none 0 0) [] [] ((((M.upd r2 ⟨p.cs,28,7⟩).upd r3 ⟨s.cs,42,5⟩).upd r4 ⟨[.bool false,.slice none 0 0,.slice none 0 0],46,3⟩).upd r5 ⟨[.bool false,.slice none 0 0,.slice none 0 0],46,3⟩):=by
  refine ⟨(by repeat' first | exact Keep.refl _ | (refine Keep.new ?_ (by simp only [*]))),(by repeat' first | assumption | (refine Old.upd ?_ (by assumption))),?_,?_,?_,Hp.qJ _ _ _,yY.nil,fun x hx=>by (cases hx),yY.nil⟩
  ·rw [Hp.qK h25,Hp.qK (by simp [hM4]),Hp.qK (by simp [hM3])]; exact Hp.qJ _ _ _
  ·rw [Hp.qK h35,Hp.qK (by simp [hM4])]; exact Hp.qJ _ _ _
  ·rw [Hp.qK h45]; exact Hp.qJ _ _ _
 generalize ((((M.upd r2 ⟨p.cs,28,7⟩).upd r3 ⟨s.cs,42,5⟩).upd r4 ⟨[.bool false,.slice none 0 0,.slice none 0 0],46,3⟩).upd r5 ⟨[.bool false,.slice none 0 0,.slice none 0 0],46,3⟩)=M1 at *
 clear hM2 hM3 hM4 hM5 hF2 hF3
 have b2:=qG (F:=F) st.f2
 have b3:=qG (F:=F) st.f3
 simp only [go_sem,b3]
 refine inBlock_st (fun σ F' M'=>F=F'∧∃wc,∃lc:List Cl,JuB p s r2 r3 r4 r5 F M wc (.slice none 0 0) lc [] M'∧lc.map Cl.pc=justL p.big q s.blocks s.blocks.length) ?_ ?_
 ·refine yX s.blocks.length (juI p s q r2 r3 r4 r5 F M) ⟨rfl,(by simp only [go_sem, *] <;> rfl),_,[],st,rfl⟩ ?_
  clear b2 b3 st
  rintro i σ F' M2 hi hst ⟨rfl,q16,wc,lc,st,hlc⟩
  have q2:=hst 2 rfl
  have q3:=hst 3 rfl
  have q5:=hst 5 rfl
  have q14:=hst 14 rfl
  have q15:=hst 15 rfl
  simp only [go_sem] at q2 q3 q5 q14 q15
  clear hst
  by_cases hil:(i:Int) < s.blocks.length
  rotate_left
  ·have:i=s.blocks.length:=by omega
   rw [this] at hlc
   simp only [go_sem,q16,q15,hil]
   exact At.mk ⟨rfl,wc,lc,st,hlc⟩
  have hi0:(0:Int)≤i:=by omega
  have hi1:i < s.blocks.length:=by omega
  have ei:IntKind.i64.wrap ((i:Int)+1)=i+1:=w64 (by omega) (by omega)
  obtain ⟨b,o,cs,ea,hb,rows⟩:=(hs.keep st.kp st.old).blocks.rows (by omega)
  obtain ⟨d1,d2⟩:=rows i hi1
  clear rows
  have hx:=hs.bytes _ (List.getElem_mem hi1)
  have hxb:=hfm.bytes i hi1
  have hjs:justL p.big q s.blocks (i+1)=justL p.big q s.blocks i++jV p.big q i (s.blocks[i]).l (s.blocks[i]).l.length 0:=by
   rw [←yH hi1]; rfl
  generalize s.blocks[i]=x at *
  simp only [go_sem,q14,q15,q16,hil,hi0,ea,Int.toNat_natCast,hb,d1,d2]
  intro r7 hF7 hM7
  simp only [setH,Hp.wG,go_sem]
  have kp7:Keep M2 (M2.upd r7 ⟨x.cs,76,2⟩):=(Keep.refl M2).new hM7
  have st7:=st.keep kp7 (st.old.upd hF7)
  have f7:(M2.upd r7 ⟨x.cs,76,2⟩) r7=some ⟨x.cs,76,2⟩:=Hp.qJ _ _ _
  have h75:¬r7=r5:=by rintro rfl; rw [st.f5] at hM7; cases hM7
  generalize M2.upd r7 ⟨x.cs,76,2⟩=M3 at *
  clear st kp7 hM7 hF7
  refine inBlock_st (fun σ F' M'=>F=F'∧∃wc,∃lc:List Cl,JuB p s r2 r3 r4 r5 F M wc (.slice none 0 0) lc [] M'∧lc.map Cl.pc=justL p.big q s.blocks (i+1)) ?_ ?_
  ·refine loop_st (juB p s q r2 r3 r4 r5 r7 x i F M) x.l.length ⟨rfl,0,by omega,(by simp only [go_sem, *] <;> rfl),f7,wc,lc,st7,by rw [hjs,hlc]⟩ ?_
   clear hlc st7 f7
   rintro n σ2 F' M2 hst ⟨rfl,at_,hat,q8,f7,wc,lc,st,hlc⟩
   have t2:=hst 2 rfl
   have t5:=hst 5 rfl
   have t6:=hst 6 rfl
   have t7:=hst 7 rfl
   simp only [go_sem,q2,q5] at t2 t5 t6 t7
   clear hst
   have b2:=qG (F:=F) st.f2
   have b5:=qG (F:=F) st.f5
   have b7:=qG (F:=F) f7
   by_cases hal:(at_:Int) < x.l.length
   rotate_left
   ·have hn:n=0:=by omega
    rw [hn] at hlc
    have hlc':lc.map Cl.pc=justL p.big q s.blocks (i+1):=by rw [←hlc]; simp [jV]
    simp only [go_sem,t7,q8,b7,hal]
    exact At.mk ⟨rfl,wc,lc,st,hlc'⟩
   have ha0:(0:Int)≤at_:=by omega
   have ha1:at_ < x.l.length:=by omega
   have hx2:x.rd F M2:=RdG.keep hx st.kp st.old
   have hn:n=x.l.length - at_:=by omega
   rw [hn,cellsAt_step hq0 ha1] at hlc
   have kW:=k108 F M2 p.big q x.lA x.lC x.l at_ hq' st.old hx2 (by omega) (by omega)
   rw [←hq] at kW
   simp only [go_sem,t2,t7,q8,b2,b7,hal]
   with_reducible refine qQ kW ?_
   have hsv:stepV p.big q i x.l at_=if (wholeV p.big q x.l at_).2=true then (ptrC i at_ (wholeV p.big q x.l at_).1,at_+q) else (singleV i at_ (yQ x.l at_),at_+1):=rfl
   have hle:(wholeV p.big q x.l at_).2=true→at_+q≤x.l.length:=fun h=>by
    unfold wholeV at h
    split at h
    ·rename_i h2; exact h2.2
    ·cases h
   generalize wholeV p.big q x.l at_=rv at *
   obtain ⟨sc,ok⟩:=rv
   simp only [go_sem]
   intro r9 hF9 hM9
   have kp9:∀e,Keep M2 (M2.upd r9 e):=fun e=>(Keep.refl M2).new hM9
   have st9:=fun e=>st.keep (kp9 e) (st.old.upd hF9)
   have f79:=fun e=>kp9 e _ _ f7
   simp only [setH,Hp.wG,go_sem]
   have st9:=st9 ⟨sc.cs,50,4⟩
   have f79:=f79 ⟨sc.cs,50,4⟩
   have f9:(M2.upd r9 ⟨sc.cs,50,4⟩) r9=some ⟨sc.cs,50,4⟩:=Hp.qJ _ _ _
   generalize M2.upd r9 ⟨sc.cs,50,4⟩=M3 at *
   have b29:=qG (F:=F) st9.f2
   have b59:=qG (F:=F) st9.f5
   have b79:=qG (F:=F) f79
   have b9:=qG (F:=F) f9
   clear kp9 hM9 hF9 st f7 b2 b5 b7
   have done:∀(c:Cl) (M4:Hp),Keep M3 M4→Old F M4→jQ 7 Ba.cs 102 F M4 (.slice c.lA c.l.length c.lC) c.l→∀w M5,(∀r x,M4 r=some x→¬x.elem=84→M5 r=some x)→Keep M M5→Old F M5→yY 10 Cl.cs 84 F M M5 w (lc++[c])→
     JuB p s r2 r3 r4 r5 F M w (.slice none 0 0) (lc++[c]) [] (M5.upd r5 ⟨[.bool false,w,.slice none 0 0],46,3⟩)∧(M5.upd r5 ⟨[.bool false,w,.slice none 0 0],46,3⟩) r7=some ⟨x.cs,76,2⟩:=fun c M4 kp4 o4 own w M5 fr kp5 o5 mine=>
    ⟨(st9.keep kp4 o4).cell hF5 n5 h45 h25 h35 own fr kp5 o5 mine,by rw [Hp.qK h75]; exact fr _ _ (kp4 _ _ f79) (by decide:¬(76:Nat)=84)⟩
   have hbig:lc.length+1≤1000000:=by
    have h1:=justL_len p.big q hfm (i+1)
    rw [←hlc] at h1
    have h2:=hpre.2.1
    have h3:=hpre.2.2.1
    simp only [List.length_append,List.length_map,List.length_cons] at h1
    omega
   cases ok
   ·have hy:=List.getElem_mem ha1
    have hby:yQ x.l at_=x.l[at_]:=by unfold yQ; rw [List.getElem?_eq_getElem ha1]; rfl
    have hx3:x.rd F M3:=RdG.keep hx st9.kp st9.old
    obtain ⟨b',o',cs',ea',hb',rows⟩:=hx3.rows (by omega)
    obtain ⟨e1,e2⟩:=rows at_ ha1
    clear rows
    rw [if_neg Bool.false_ne_true] at hsv
    rw [hby] at hsv
    rw [hsv] at hlc
    generalize x.l[at_]=y at *
    simp only [go_sem,t5,t6,t7,q8,b59,b79,hal,ha0,ea',Int.toNat_natCast,hb',e1,e2]
    with_reducible refine qY (k110 F M3 i at_ y st9.old) ?_
    rintro u F' M4 ⟨hG,kp4,old4,c,rfl,hc',own⟩
    subst hG
    refine ⟨fun _=>kp4.le old4,?_⟩
    simp only [go_sem]
    intro rb hFb hMb
    simp only [go_sem]
    have kpb:Keep M4 (M4.upd rb ⟨c.cs,84,10⟩):=(Keep.refl M4).new hMb
    refine apMG_of (xs:=lc) (ys:=[c]) Cl.len Cl.plain (by decide) ((st9.own.keep kp4).keep kpb) ((st9.kp.trans kp4).trans kpb) ⟨rfl,.inr ⟨⟨rb,0,none⟩,1,rfl,.inr ⟨rb,0,_,rfl,wY,by simp [Cl.take_all]⟩⟩⟩ (by simp) (by simpa using hbig) ?_
    rintro _ M5 ⟨g',c'',rfl⟩ fr kp5 o5 mine
    obtain ⟨stN,f7N⟩:=done c _ (kp4.trans kpb) (old4.upd hFb) (own.keep kpb) _ M5 fr kp5 (o5 (old4.upd hFb)) mine
    rw [show (lc++[c]).length=lc.length+1 by simp] at stN f7N
    have g5:=fr _ _ (kpb _ _ (kp4 _ _ st9.f5)) (by decide:¬(46:Nat)=84)
    have ew:IntKind.i64.wrap ((at_:Int)+1)=((at_+1:Nat):Int):=by rw [w64 (by omega) (by omega)]; omega
    simp only [setH,go_sem,t5,q8,g5,ew]
    exact ⟨⟨n - 1,by omega,rfl,at_+1,by omega,(by simp only [go_sem, *] <;> rfl),f7N,_,lc++[c],stN,by rw [←hlc,List.map_append,List.map_singleton,hc',List.append_assoc,List.singleton_append,show n - 1=x.l.length - (at_+1) from by omega]⟩⟩
   ·rw [if_pos rfl] at hsv
    rw [hsv] at hlc
    simp only [go_sem,t5,t6,q8,b59,b9]
    with_reducible refine qY (k109 F M3 7 sc (.inl rfl)) ?_
    rintro u F' M4 ⟨hG,hu⟩
    subst hG
    rw [if_pos rfl,if_pos rfl] at hu
    obtain ⟨hh,_⟩ | ⟨g,cap,gF,gM,rfl,hcap,rfl⟩:=hu
    ·cases hh
    refine ⟨fun _=>Le.upd gF gM,?_⟩
    have kp4:Keep M3 (M3.upd g ⟨[(⟨sc.b,V.just 8 sc.o⟩:Ba)].flatMap Ba.cs,102,cap * 7⟩):=(Keep.refl M3).new gM
    have old4:=st9.old.upd (e:=⟨[(⟨sc.b,V.just 8 sc.o⟩:Ba)].flatMap Ba.cs,102,cap * 7⟩) gF
    have own:jQ 7 Ba.cs 102 F' (M3.upd g ⟨[(⟨sc.b,V.just 8 sc.o⟩:Ba)].flatMap Ba.cs,102,cap * 7⟩) (.slice (some ⟨g,0,none⟩) [(⟨sc.b,V.just 8 sc.o⟩:Ba)].length cap) [⟨sc.b,V.just 8 sc.o⟩]:=.inr ⟨g,cap,rfl,gF,Hp.qJ _ _ _,hcap⟩
    generalize M3.upd g ⟨[(⟨sc.b,V.just 8 sc.o⟩:Ba)].flatMap Ba.cs,102,cap * 7⟩=M4 at *
    simp only [go_sem]
    intro rb hFb hMb
    have eC:(Value.int .i64 ↑i :: Value.int .i64 ↑at_ :: Value.int .i64 7 :: yJ V.zero (Value.slice (some ⟨g,0,none⟩) 1 cap))=Cl.cs ⟨i,at_,7,V.zero,some ⟨g,0,none⟩,cap,[⟨sc.b,V.just 8 sc.o⟩]⟩:=rfl
    rw [eC]
    obtain ⟨c,hc⟩:∃c:Cl,c=⟨i,at_,7,V.zero,some ⟨g,0,none⟩,cap,[⟨sc.b,V.just 8 sc.o⟩]⟩:=⟨_,rfl⟩
    have hc':c.pc=ptrC i at_ sc:=by rw [hc]; rfl
    have own:jQ 7 Ba.cs 102 F' M4 (.slice c.lA c.l.length c.lC) c.l:=by rw [hc]; exact own
    rw [←hc]
    clear eC hc
    simp only [go_sem]
    have kpb:Keep M4 (M4.upd rb ⟨c.cs,84,10⟩):=(Keep.refl M4).new hMb
    refine apMG_of (xs:=lc) (ys:=[c]) Cl.len Cl.plain (by decide) ((st9.own.keep kp4).keep kpb) ((st9.kp.trans kp4).trans kpb) ⟨rfl,.inr ⟨⟨rb,0,none⟩,1,rfl,.inr ⟨rb,0,_,rfl,wY,by simp [Cl.take_all]⟩⟩⟩ (by simp) (by simpa using hbig) ?_
    rintro _ M5 ⟨g',c'',rfl⟩ fr kp5 o5 mine
    obtain ⟨stN,f7N⟩:=done c _ (kp4.trans kpb) (old4.upd hFb) (own.keep kpb) _ M5 fr kp5 (o5 (old4.upd hFb)) mine
    rw [show (lc++[c]).length=lc.length+1 by simp] at stN f7N
    have g5:=fr _ _ (kpb _ _ (kp4 _ _ st9.f5)) (by decide:¬(46:Nat)=84)
    have b2N:=qG (F:=F') stN.f2
    have hle2:=hle rfl
    have ew:IntKind.i64.wrap ((at_:Int)+p.ptr)=((at_+q:Nat):Int):=by rw [hq,w64 (by omega) (by omega)]; omega
    simp only [setH,go_sem,t2,t5,q8,g5,b2N,ew]
    exact ⟨⟨n - q,by omega,rfl,at_+q,by omega,(by simp only [go_sem, *] <;> rfl),f7N,_,lc++[c],stN,by rw [←hlc,List.map_append,List.map_singleton,hc',List.append_assoc,List.singleton_append,show n - q=x.l.length - (at_+q) from by omega]⟩⟩
  ·clear hlc st7 f7
   rintro σ2 F' M4 hst ⟨rfl,wc,lc,st,hlc⟩
   have t16:=hst 16 rfl
   simp only [go_sem,q16] at t16
   clear hst
   simp only [go_sem,t16,ei]
   exact ⟨hi1,rfl,(by simp only [go_sem, *] <;> rfl),wc,lc,st,hlc⟩
 ·clear st b2 b3
  rintro σ F' M2 hst ⟨rfl,wc,lc,st,hlc⟩
  have q2:=hst 2 rfl
  have q3:=hst 3 rfl
  have q4:=hst 4 rfl
  have q5:=hst 5 rfl
  simp only [go_sem] at q2 q3 q4 q5
  clear hst
  have b2:=qG (F:=F) st.f2
  have b3:=qG (F:=F) st.f3
  have hb0:=(hs.keep st.kp st.old).blocks
  have hbc:s.blocks.length≤s.blocksC:=by
   obtain ⟨_,ad,cap,hc,e,_⟩:=hb0
   cases e; exact hc
  have hlo:1+p.vars.length≤s.blocks.length:=by omega
  have ew:IntKind.i64.wrap (1+(p.vars.length:Int))=((1+p.vars.length:Nat):Int):=by rw [w64 (by omega) (by omega)]; omega
  have e1:(0:Int)≤((1+p.vars.length:Nat):Int):=by omega
  have e2:((1+p.vars.length:Nat):Int)≤s.blocks.length:=by omega
  have hdl:(s.blocks.drop (1+p.vars.length)).length=s.blocks.length - (1+p.vars.length):=by simp
  obtain ⟨da,hda⟩:∃da:Option Addr,da=(if (s.blocksC:Int)=((1+p.vars.length:Nat):Int) then s.blocksA else s.blocksA.map (·.add ((1+p.vars.length) * 2))):=⟨_,rfl⟩
  have hD:∀M',Keep M M'→Old F M'→RdG 2 Bl.cs F M' (.slice da (s.blocks.drop (1+p.vars.length)).length (s.blocksC - (1+p.vars.length))) (s.blocks.drop (1+p.vars.length)):=fun M' k o=>by
   have:=RdG.cut (hs.keep k o).blocks (lo:=1+p.vars.length) (n:=s.blocks.length - (1+p.vars.length)) (by omega)
   rw [List.take_of_length_le (by omega),←hda] at this
   exact this
  simp only [go_sem,q2,q3,b2,b3,ew,e1,e2,Int.toNat_natCast]
  rw [←hda,←hdl]
  obtain ⟨G,hG⟩:∃G:Bl→Int,G=fun x=>shlv .i64 1 x.st:=⟨_,rfl⟩
  have hGx:∀x,shlv .i64 1 x.st=G x:=fun x=>by rw [hG]
  have hpe:∀(a1 a2:Option Addr) (c1 c2:Nat),(En.mk false a1 c1 lc a2 c2 ((s.blocks.drop (1+p.vars.length)).map G)).pe=justV p s.blocks:=fun a1 a2 c1 c2=>by
   unfold En.pe justV
   simp only [hlc,hq,Int.toNat_natCast,hG]
  have hst:∀x∈s.blocks.drop (1+p.vars.length),¬x.st < 0:=fun x hx=>by
   obtain ⟨j,hj,e⟩:=List.getElem_of_mem (List.mem_of_mem_drop hx)
   have:=(hfm.bytes j hj).2.1
   rw [e] at this; omega
  have hDn:(s.blocks.drop (1+p.vars.length)).length≤2:=by have:=hpre.2.2.1; omega
  have hll:lc.length≤224:=by
   have h1:=justL_len p.big q hfm s.blocks.length
   rw [←hlc,List.length_map] at h1
   have:=hpre.2.1
   have:=hpre.2.2.1
   omega
  have hlp:∀x∈lc,x.l.length≤1:=fun x hx=>justL_one p.big q s.blocks s.blocks.length x.pc (by rw [←hlc]; exact List.mem_map_of_mem hx)
  clear hda hdl hG
  generalize s.blocks.drop (1+p.vars.length)=D at *
  refine yX D.length (juN p s D G r2 r3 r4 r5 wc lc F M) ⟨rfl,(by simp only [go_sem, *] <;> rfl),_,st⟩ ?_
  clear st b2 b3
  rintro k σ2 F' M2 hk hs2 ⟨rfl,q75,wn,st⟩
  have t4:=hs2 4 rfl
  have t5:=hs2 5 rfl
  have t73:=hs2 73 rfl
  have t74:=hs2 74 rfl
  simp only [go_sem,q4,q5] at t4 t5 t73 t74
  clear hs2
  have b5:=qG (F:=F) st.f5
  by_cases hkl:(k:Int) < D.length
  rotate_left
  ·rw [List.take_of_length_le (by omega)] at st
   obtain ⟨a1,c1,rfl⟩:=st.own.shape
   obtain ⟨a2,c2,rfl⟩:=st.nums.shape
   have f4:=st.f4
   simp only [setH,go_sem,t4,t5,t74,q75,hkl,b5,f4]
   have fr4:∀r x,M2 r=some x→¬x.elem=46→(M2.upd r4 ⟨[.bool false,.slice a1 lc.length c1,.slice a2 (D.map G).length c2],46,3⟩) r=some x:=fun r x hx hne=>by
    have:¬r=r4:=by rintro rfl; rw [f4] at hx; cases hx; exact hne rfl
    rw [Hp.qK this]; exact hx
   have o1:=st.own.own.frame fr4 (by decide)
   have o2:=st.nums.own.frame fr4 (by decide)
   have o3:=fun x hx=>(st.owns x hx).frame fr4 (by decide)
   exact qW ⟨rfl,st.kp.new n4,st.old.upd hF4,⟨false,a1,c1,lc,a2,c2,D.map G⟩,rfl,hpe a1 a2 c1 c2,⟨o1,o3,o2,by show lc.length≤_; omega,by show (D.map G).length≤_; simp; omega,fun x hx=>by have:=hlp x hx; omega⟩⟩
  have hk0:(0:Int)≤k:=by omega
  have hk1:k < D.length:=by omega
  have ek:IntKind.i64.wrap ((k:Int)+1)=k+1:=w64 (by omega) (by omega)
  obtain ⟨b',o',cs',ea',hb',rows⟩:=(hD M2 st.kp st.old).rows (by omega)
  obtain ⟨d1,d2⟩:=rows k hk1
  clear rows
  have hx0:=hst _ (List.getElem_mem hk1)
  have t1:=List.take_succ_eq_append_getElem hk1
  generalize D[k]=x at *
  simp only [go_sem,t73,t74,q75,hkl,hk0,ea',Int.toNat_natCast,hb',d1,d2]
  intro r12 hF12 hM12
  have kp12:Keep M2 (M2.upd r12 ⟨x.cs,76,2⟩):=(Keep.refl M2).new hM12
  have st12:=st.keep kp12 (st.old.upd hF12)
  have f12:(M2.upd r12 ⟨x.cs,76,2⟩) r12=some ⟨x.cs,76,2⟩:=Hp.qJ _ _ _
  simp only [setH,Hp.wG,go_sem]
  generalize M2.upd r12 ⟨x.cs,76,2⟩=M3 at *
  have b512:=qG (F:=F) st12.f5
  have b12:=qG (F:=F) f12
  simp only [go_sem,t5,b512,b12,hx0,hGx]
  intro rb hFb hMb
  simp only [go_sem]
  obtain ⟨y,hy⟩:∃y,G x=y:=⟨_,rfl⟩
  rw [hy]
  have kpb:Keep M3 (M3.upd rb ⟨[.int .i64 y],3,1⟩):=(Keep.refl M3).new hMb
  have stb:=st12.keep kpb (st12.old.upd hFb)
  refine apMG_of (xs:=(D.take k).map G) (ys:=[y]) wD intC_plain (by decide) stb.nums stb.kp ⟨rfl,.inr ⟨⟨rb,0,none⟩,1,rfl,.inr ⟨rb,0,_,rfl,wY,by simp [intC,intV]⟩⟩⟩ (by simp) (by simp; omega) ?_
  rintro _ M5 ⟨g',c'',rfl⟩ fr kp5 o5 mine
  have stN:=stb.num hF5 n5 h45 h25 h35 fr kp5 (o5 stb.old) mine
  have g5:=fr _ _ stb.f5 (by decide:¬(46:Nat)=3)
  have et:((D.take (k+1)).map G)=((D.take k).map G)++[y]:=by rw [t1]; simp [←hy]
  rw [←et] at stN ⊢
  simp only [setH,go_sem,t5,q75,g5,ek]
  exact ⟨hk1,rfl,(by simp only [go_sem, *] <;> rfl),_,stN⟩
end Go.Proofs.Tryz.K
namespace Go.Proofs.Tryz.K
open Go Go.Ax Go.Proofs.Tryz.S
variable (F:Fz) (M:Hp)
def noEnv:En:=⟨false,none,0,[],none,0,[]⟩
theorem noEnv_val:Value.agg #[.bool false,.slice none 0 0,.slice none 0 0]=noEnv.val:=rfl
theorem noEnv_rd {F:Fz}{M:Hp}:noEnv.rd F M:=⟨gX,(fun x hx=>by cases hx),gX,(fun _=>rfl),(fun _=>rfl),(fun x hx=>by cases hx)⟩
def ofR (p:Pg)(s:Ste)(F:Fz)(M:Hp)(v:Value)(F':Fz)(M':Hp):Prop:=
 F'=F∧Keep M M'∧Old F M'∧∃e:En,∃n:Int,v=.tuple #[e.val,.int .i64 n]∧e.rd F M'∧((yK p=true∧stateB p s=true∧n=0∧e.pe=justV p s.blocks)∨(¬(yK p=true∧stateB p s=true)∧n=1∧e=noEnv))
theorem k29 (p:Pg)(s:Ste)(hp:p.rd F)(hold:Old F M)(hs:s.rd F M):CallsA Tryz.prog 29 [p.val,s.val] F M (ofR p s F M):=by
 refine qZ hm Tryz.func29 e29 (Nat.le_of_ble_eq_true rfl) ?_
 simp only [c29,go_sem]
 intro r2 hF2 hM2
 simp only [go_sem]
 intro r3 hF3 hM3
 simp only [wW] at hM3
 simp only [go_sem]
 intro r4 hF4 hM4
 simp only [wW] at hM4
 have kp4:Keep M (((M.upd r2 ⟨p.cs,28,7⟩).upd r3 ⟨s.cs,42,5⟩).upd r4 ⟨[.bool false,.slice none 0 0,.slice none 0 0],46,3⟩):=(by repeat' first | exact Keep.refl _ | (refine Keep.new ?_ (by simp only [*])))
 have old4:Old F (((M.upd r2 ⟨p.cs,28,7⟩).upd r3 ⟨s.cs,42,5⟩).upd r4 ⟨[.bool false,.slice none 0 0,.slice none 0 0],46,3⟩):=(by repeat' first | assumption | (refine Old.upd ?_ (by assumption)))
 have f2:(((M.upd r2 ⟨p.cs,28,7⟩).upd r3 ⟨s.cs,42,5⟩).upd r4 ⟨[.bool false,.slice none 0 0,.slice none 0 0],46,3⟩) r2=some ⟨p.cs,28,7⟩:=by rw [Hp.qK (by simp [hM4]),Hp.qK (by simp [hM3])]; exact Hp.qJ _ _ _
 have f3:(((M.upd r2 ⟨p.cs,28,7⟩).upd r3 ⟨s.cs,42,5⟩).upd r4 ⟨[.bool false,.slice none 0 0,.slice none 0 0],46,3⟩) r3=some ⟨s.cs,42,5⟩:=by rw [Hp.qK (by simp [hM4])]; exact Hp.qJ _ _ _
 have f4:(((M.upd r2 ⟨p.cs,28,7⟩).upd r3 ⟨s.cs,42,5⟩).upd r4 ⟨[.bool false,.slice none 0 0,.slice none 0 0],46,3⟩) r4=some ⟨[.bool false,.slice none 0 0,.slice none 0 0],46,3⟩:=Hp.qJ _ _ _
 have n4:M r4=none:=hM4.2.2
 generalize (((M.upd r2 ⟨p.cs,28,7⟩).upd r3 ⟨s.cs,42,5⟩).upd r4 ⟨[.bool false,.slice none 0 0,.slice none 0 0],46,3⟩)=M1 at *
 have hs1:=hs.keep kp4 old4
 have b2:=qG (F:=F) f2
 have b3:=qG (F:=F) f3
 have b4:=qG (F:=F) f4
 clear hM2 hM3 hM4 hF2 hF3
 have bad:¬(yK p=true∧stateB p s=true)→∀X,endK F (M1.upd r4 X) (ofR p s F M) (.tuple #[noEnv.val,.int .i64 1]):=fun h X=>
  qW ⟨rfl,kp4.new n4,old4.upd hF4,noEnv,1,rfl,noEnv_rd,.inr ⟨h,rfl,rfl⟩⟩
 simp only [go_sem,b2]
 with_reducible refine qQ (k58 F M1 p hp old4) ?_
 cases hc:yK p
 ·simp only [setH,go_sem,f4,noEnv_val]
  exact bad (fun h=>by rw [hc] at h; cases h.1) _
 simp only [go_sem,b2,b3]
 with_reducible refine qQ (k59 F M1 p s hp old4 hs1) ?_
 cases hb:stateB p s
 ·simp only [setH,go_sem,f4,noEnv_val]
  exact bad (fun h=>by rw [hb] at h; cases h.2) _
 have hfm:FitM p s.blocks:=FitM.of (by unfold stateB at hb; simp only [Bool.and_eq_true] at hb; exact hb.2)
 simp only [go_sem,b2,b3]
 with_reducible refine qY (k60 F M1 p s hp old4 hs1 hc hfm) ?_
 rintro u F' M2 ⟨hG,kp2,old2,e,rfl,hpe,own⟩
 subst hG
 refine ⟨(fun h=>by cases h),?_⟩
 have g4:=kp2 _ _ f4
 simp only [setH,go_sem,g4]
 have fr:∀r x,M2 r=some x→¬x.elem=46→(M2.upd r4 ⟨e.cs,46,3⟩) r=some x:=fun r x hx hne=>by
  have:¬r=r4:=by rintro rfl; rw [g4] at hx; cases hx; exact hne rfl
  rw [Hp.qK this]; exact hx
 have own2:=own.frame fr (by decide) (by decide) (by decide)
 exact qW ⟨rfl,(kp4.trans kp2).new n4,old2.upd hF4,e,0,rfl,own2.rd,.inl ⟨hc,hb,rfl,hpe⟩⟩
theorem k95 (c:Cl)(h:c.rd F M)(hc:yD c.pc=true):CallsA Tryz.prog 95 [c.val] F M (Same F M (.bool (soleB c.pc))):=by
 refine qZ hm Tryz.func95 e95 (Nat.le_of_ble_eq_true rfl) ?_
 obtain ⟨hl,hok,hb⟩:=content_pre hc
 have hl:c.l.length≤1000000:=Nat.le_trans hl (by decide)
 have hok:¬c.k=0→¬c.k=7→c.v.ok=true:=hok
 have hb:∀x∈c.l,0≤x.v.w∧x.v.w≤62∧x.v.ok=true:=hb
 simp only [c95,go_sem]
 intro r1 hF1 hM1
 have h1:c.rd F (M.upd r1 ⟨c.cs,84,10⟩):=RdG.new h hF1 hM1
 have f1:(M.upd r1 ⟨c.cs,84,10⟩) r1=some ⟨c.cs,84,10⟩:=Hp.qJ _ _ _
 have kp1:Keep M (M.upd r1 ⟨c.cs,84,10⟩):=(by repeat' first | exact Keep.refl _ | (refine Keep.new ?_ (by simp only [*])))
 generalize M.upd r1 ⟨c.cs,84,10⟩=M1 at *
 have h1:RdG 7 Ba.cs F M1 (.slice c.lA c.l.length c.lC) c.l:=h1
 have b1:=qG (F:=F) f1
 have fin:∀v:Bool,soleB c.pc=v→∀M3,Keep M1 M3→endK F M3 (Same F M (.bool (soleB c.pc))) (.bool v):=fun v e M3 k=>qX (kp1.trans k) ⟨by rw [e],rfl,rfl⟩
 by_cases h0:c.k=0
 ·have hv:soleB c.pc=true:=by unfold soleB; rw [if_pos (show c.pc.k=0 from h0)]
  simp only [go_sem,b1,h0]
  exact fin _ hv _ (Keep.refl _)
 by_cases h11:c.k=11
 ·have hv:soleB c.pc=(c.v.is1 && (onlyB 7 V.zero c.l).2):=by unfold soleB; rw [if_neg (show ¬c.pc.k=0 from h0),if_pos (show c.pc.k=11 from h11)]; rfl
  have hok:c.v.ok=true:=hok h0 (by omega)
  simp only [go_sem,b1,h11]
  with_reducible refine qQ (k93 F M1 c.v hok) ?_
  simp only [onlyA,go_sem,b1]
  with_reducible refine qQ (k52 F M1 7 V.zero (.slice c.lA c.l.length c.lC) c.l h1 hl (fun h=>absurd rfl h) hb) ?_
  simp only [go_sem]
  intro r5 hF5 hM5
  have kp5:∀e,Keep M1 (M1.upd r5 e):=fun e=>(Keep.refl M1).new hM5
  have his:c.v.is1=(decide (0≤c.v.wQ 0) && decide (c.v.wQ (c.v.wQ 0+1) < 0)):=rfl
  rw [his] at hv
  generalize (decide (0≤c.v.wQ 0) && decide (c.v.wQ (c.v.wQ 0+1) < 0))=v1 at *
  cases v1
  ·simp only [setH,Hp.wG,go_sem]
   exact fin _ (by rw [hv]; rfl) _ (kp5 _)
  ·simp only [setH,Hp.wG,go_sem]
   exact fin _ (by rw [hv]; rfl) _ (kp5 _)
 have hv:soleB c.pc=(onlyB c.k c.v c.l).2:=by unfold soleB; rw [if_neg (show ¬c.pc.k=0 from h0),if_neg (show ¬c.pc.k=11 from h11)]; rfl
 simp only [go_sem,b1,h0,h11]
 with_reducible refine qQ (k52 F M1 c.k c.v (.slice c.lA c.l.length c.lC) c.l h1 hl (hok h0) hb) ?_
 simp only [go_sem]
 intro r7 hF7 hM7
 simp only [setH,Hp.wG,go_sem]
 exact fin _ hv _ (by repeat' first | exact Keep.refl _ | (refine Keep.new ?_ (by simp only [*])))
def exI (p:Pg)(e:En)(m:List Bl)(F0:Fz)(M0:Hp)(i:Nat)(σ:Env)(F:Fz)(M:Hp):Prop:=
 F0=F∧Keep M0 M∧Old F0 M∧Ax.look σ 7=some (.int .i64 ((i+1:Nat):Int))∧((List.range (i+1)).all fun b=>decide (b=0) || blockOne p.ptr e.pe.cells m b)=true
def exB (p:Pg)(e:En)(b:Nat)(F0:Fz)(M0:Hp)(k:Nat)(σ:Env)(F:Fz)(M:Hp):Prop:=
 F0=F∧Keep M0 M∧Old F0 M∧Ax.look σ 8=some (.int .i64 k)∧(List.range k).all (byteOne p.ptr e.pe.cells b)=true
def exC (p:Pg)(e:En)(b k:Nat)(F0:Fz)(M0:Hp)(i:Nat)(σ:Env)(F:Fz)(M:Hp):Prop:=
 F0=F∧Keep M0 M∧Old F0 M∧Ax.look σ 10=some (.int .i64 i)∧Ax.look σ 9=some (.bool ((e.pe.cells.take i).any (coverB p.ptr b k)))
theorem k57 (p:Pg)(e:En)(s:Ste)(hp:p.rd F)(hold:Old F M)(h:e.rd F M)(hs:s.rd F M)(hc:yK p=true)(hfm:FitM p s.blocks)(hfc:(∀c∈e.cells,FitC p s.blocks c.pc)∧e.news.length=p.news.length) :
  CallsA Tryz.prog 57 [p.val,e.val,s.val] F M (Same F M (.bool (exactB p e.pe s.blocks))):=by
 refine qZ hm Tryz.func57 e57 (Nat.le_of_ble_eq_true rfl) ?_
 have hpre:=jW hc
 have hlen:=hfm.len
 have hel:=h.cells.1
 simp only [c57,go_sem]
 intro r3 hF3 hM3
 simp only [go_sem]
 intro r4 hF4 hM4
 simp only [wW] at hM4
 simp only [go_sem]
 intro r5 hF5 hM5
 simp only [wW] at hM5
 have kp5:Keep M (((M.upd r3 ⟨p.cs,28,7⟩).upd r4 ⟨e.cs,46,3⟩).upd r5 ⟨s.cs,42,5⟩):=(by repeat' first | exact Keep.refl _ | (refine Keep.new ?_ (by simp only [*])))
 have old5:Old F (((M.upd r3 ⟨p.cs,28,7⟩).upd r4 ⟨e.cs,46,3⟩).upd r5 ⟨s.cs,42,5⟩):=(by repeat' first | assumption | (refine Old.upd ?_ (by assumption)))
 have f3:(((M.upd r3 ⟨p.cs,28,7⟩).upd r4 ⟨e.cs,46,3⟩).upd r5 ⟨s.cs,42,5⟩) r3=some ⟨p.cs,28,7⟩:=by rw [Hp.qK (by simp [hM5]),Hp.qK (by simp [hM4])]; exact Hp.qJ _ _ _
 have f4:(((M.upd r3 ⟨p.cs,28,7⟩).upd r4 ⟨e.cs,46,3⟩).upd r5 ⟨s.cs,42,5⟩) r4=some ⟨e.cs,46,3⟩:=by rw [Hp.qK (by simp [hM5])]; exact Hp.qJ _ _ _
 have f5:(((M.upd r3 ⟨p.cs,28,7⟩).upd r4 ⟨e.cs,46,3⟩).upd r5 ⟨s.cs,42,5⟩) r5=some ⟨s.cs,42,5⟩:=Hp.qJ _ _ _
 generalize (((M.upd r3 ⟨p.cs,28,7⟩).upd r4 ⟨e.cs,46,3⟩).upd r5 ⟨s.cs,42,5⟩)=M1 at *
 have h1:=h.keep kp5 old5
 have hs1:=hs.keep kp5 old5
 have b3:=qG (F:=F) f3
 have b4:=qG (F:=F) f4
 have b5:=qG (F:=F) f5
 clear hM3 hM4 hM5 hF3 hF4 hF5 h hs
 have fin:∀v:Bool,exactB p e.pe s.blocks=v→∀M',Keep M1 M'→endK F M' (Same F M (.bool (exactB p e.pe s.blocks))) (.bool v):=fun v h M' k=>qX (kp5.trans k) ⟨by rw [h],rfl,rfl⟩
 simp only [go_sem,b3,b4,b5]
 with_reducible refine qQ (k21 F M1 p e s hp old5 h1 hs1 hc hfm (fun _=>hfc)) ?_
 have hR:exactB p e.pe s.blocks=(inEnv p e.pe s.blocks && (List.range s.blocks.length).all fun b=>decide (b=0) || blockOne p.ptr e.pe.cells s.blocks b):=rfl
 generalize exactB p e.pe s.blocks=R at *
 cases hin:inEnv p e.pe s.blocks
 ·simp only [go_sem]
  exact fin _ (by rw [hR,hin]; rfl) _ (Keep.refl _)
 rw [hin,Bool.true_and] at hR
 simp only [go_sem]
 refine yX (s.blocks.length - 1) (exI p e s.blocks F M1) ⟨rfl,Keep.refl _,old5,(by simp only [go_sem, *] <;> rfl),by simp⟩ ?_
 rintro i σ F' M2 hi hst ⟨rfl,kp,old,q7,he⟩
 have q3:=hst 3 rfl
 have q4:=hst 4 rfl
 have q5:=hst 5 rfl
 simp only [go_sem] at q3 q4 q5
 clear hst
 have b3':=qG (F:=F) (kp _ _ f3)
 have b4':=qG (F:=F) (kp _ _ f4)
 have b5':=qG (F:=F) (kp _ _ f5)
 have h2:=h1.keep kp old
 have hs2:=hs1.keep kp old
 by_cases hil:((i+1:Nat):Int) < s.blocks.length
 rotate_left
 ·have:i+1=s.blocks.length:=by omega
  rw [this] at he
  simp only [go_sem,q5,q7,b5',hil]
  exact fin _ (by rw [hR,he]) _ kp
 have hi0:(0:Int)≤((i+1:Nat):Int):=by omega
 have hi1:i+1 < s.blocks.length:=by omega
 have ei:IntKind.i64.wrap (((i+1:Nat):Int)+1)=((i+1+1:Nat):Int):=by rw [w64 (by omega) (by omega)]; omega
 have hno:blockOne p.ptr e.pe.cells s.blocks (i+1)=false→R=false:=fun h=>by
  rw [hR]; exact range_no hi1 (by rw [h]; simp)
 have hbO:blockOne p.ptr e.pe.cells s.blocks (i+1)=(List.range (s.blocks[i+1]).l.length).all (byteOne p.ptr e.pe.cells (i+1)):=by
  unfold blockOne; rw [yH hi1]
 have hx32:=(hfm.bytes _ hi1).2.2.2
 have hxd:=hfm.dead _ hi1
 have hat:=yH (m:=s.blocks) hi1
 generalize hxe:s.blocks[i+1]=x at *
 have hbr:∀M',Keep M1 M'→Old F M'→∃b o cs,s.blocksA=some ⟨b,o,none⟩∧blk F M' b=some cs∧o+(i+1) * 2+2≤cs.length∧cs[o+(i+1) * 2+1]? = some (.slice x.lA x.l.length x.lC):=fun M' k o=>by
  obtain ⟨b,o,cs,ea,hb,rows⟩:=(hs1.keep k o).blocks.rows (by omega)
  obtain ⟨d1,d2⟩:=rows _ hi1
  rw [hxe] at d2
  exact ⟨b,o,cs,ea,hb,d1,(Go.Ax.Bl.row d2).2⟩
 simp only [go_sem,q5,q7,b5',hil]
 refine inBlock_st (fun σ F' M'=>F=F'∧Keep M1 M'∧Old F M'∧blockOne p.ptr e.pe.cells s.blocks (i+1)=true) ?_ ?_
 ·refine yX x.l.length (exB p e (i+1) F M1) ⟨rfl,kp,old,(by simp only [go_sem, *] <;> rfl),rfl⟩ ?_
  clear b3' b4' b5'
  rintro k σ2 F' M3 hk hst ⟨rfl,kp3,old3,q8,hb⟩
  have t3:=hst 3 rfl
  have t4:=hst 4 rfl
  have t5:=hst 5 rfl
  have t7:=hst 7 rfl
  simp only [go_sem,q3,q4,q5,q7] at t3 t4 t5 t7
  clear hst
  have b3:=qG (F:=F) (kp3 _ _ f3)
  have b4:=qG (F:=F) (kp3 _ _ f4)
  have b5:=qG (F:=F) (kp3 _ _ f5)
  obtain ⟨bb,bo,bcs,ea,hbb,d1,d2⟩:=hbr M3 kp3 old3
  by_cases hkl:(k:Int) < x.l.length
  rotate_left
  ·have:k=x.l.length:=by omega
   rw [this] at hb
   simp only [go_sem,t5,t7,q8,b5,hi0,hil,ea,Int.toNat_natCast,hbb,d2,hkl]
   exact At.mk ⟨rfl,kp3,old3,by rw [hbO,hb]⟩
  have hk0:(0:Int)≤k:=by omega
  have hk1:k < x.l.length:=by omega
  have ek:IntKind.i64.wrap ((k:Int)+1)=((k+1:Nat):Int):=by rw [w64 (by omega) (by omega)]; omega
  simp only [go_sem,t5,t7,q8,b5,hi0,hil,ea,Int.toNat_natCast,hbb,d2,hkl]
  refine inBlock_st (fun σ F' M'=>F=F'∧Keep M1 M'∧Old F M'∧Ax.look σ 9=some (.bool (byteOne p.ptr e.pe.cells (i+1) k))) ?_ ?_
  ·refine yX e.cells.length (exC p e (i+1) k F M1) ⟨rfl,kp3,old3,(by simp only [go_sem, *] <;> rfl),by simp only [go_sem,List.take_zero,List.any_nil]⟩ ?_
   clear b3 b4 b5 d1 d2 ea hbb
   rintro j σ3 F' M4 hj hst ⟨rfl,kp4,old4,q10,q9⟩
   have u3:=hst 3 rfl
   have u4:=hst 4 rfl
   have u7:=hst 7 rfl
   have u8:=hst 8 rfl
   simp only [go_sem,t3,t4,t7,q8] at u3 u4 u7 u8
   clear hst
   have b3:=qG (F:=F) (kp4 _ _ f3)
   have b4:=qG (F:=F) (kp4 _ _ f4)
   have hpl:e.pe.cells.length=e.cells.length:=by simp [En.pe]
   by_cases hjl:(j:Int) < e.cells.length
   rotate_left
   ·have:j=e.cells.length:=by omega
    rw [List.take_of_length_le (by omega)] at q9
    simp only [go_sem,u4,q10,b4,hjl]
    exact At.mk ⟨rfl,kp4,old4,q9⟩
   cases hfd:(e.pe.cells.take j).any (coverB p.ptr (i+1) k)
   rotate_left
   ·rw [hfd] at q9
    have hall:byteOne p.ptr e.pe.cells (i+1) k=true:=by
     unfold byteOne
     rw [List.any_eq_true] at hfd ⊢
     obtain ⟨c,hc1,hc2⟩:=hfd
     exact ⟨c,List.mem_of_mem_take hc1,hc2⟩
    simp only [go_sem,u4,q9,q10,b4,hjl]
    exact At.mk ⟨rfl,kp4,old4,by rw [hall]; exact q9⟩
   rw [hfd] at q9
   have hj0:(0:Int)≤j:=by omega
   have hj1:j < e.cells.length:=by omega
   have ej:IntKind.i64.wrap ((j:Int)+1)=j+1:=w64 (by omega) (by omega)
   obtain ⟨cb,co,ccs,ca,hcb,rows⟩:=(h1.keep kp4 old4).cells.rows (by omega)
   obtain ⟨d1,d2⟩:=rows j hj1
   clear rows
   have hfi:=hfc.1 _ (List.getElem_mem hj1)
   have hcr:=(h1.keep kp4 old4).ptrs _ (List.getElem_mem hj1)
   have tk:(e.pe.cells.take (j+1)).any (coverB p.ptr (i+1) k)=coverB p.ptr (i+1) k (e.cells[j]).pc:=by
    rw [List.take_succ_eq_append_getElem (by omega),List.any_append,hfd]
    simp [En.pe]
   generalize e.cells[j]=c at *
   simp only [go_sem,u4,q9,q10,b4,hjl,hj0,ca,Int.toNat_natCast,hcb,d1,d2]
   intro r11 hF11 hM11
   have kp11:Keep M4 (M4.upd r11 ⟨c.cs,84,10⟩):=(Keep.refl M4).new hM11
   have old11:Old F (M4.upd r11 ⟨c.cs,84,10⟩):=old4.upd hF11
   have f11:(M4.upd r11 ⟨c.cs,84,10⟩) r11=some ⟨c.cs,84,10⟩:=Hp.qJ _ _ _
   simp only [setH,Hp.wG,go_sem]
   generalize M4.upd r11 ⟨c.cs,84,10⟩=M5 at *
   have b11:=qG (F:=F) f11
   have b35:=qG (F:=F) (kp11 _ _ (kp4 _ _ f3))
   have hcr5:c.rd F M5:=RdG.keep hcr kp11 old11
   have nx:∀v σ',coverB p.ptr (i+1) k c.pc=v→Ax.look σ' 9=some (.bool v)→Ax.look σ' 10=some (.int .i64 ((j+1:Nat):Int))→Nxt (exC p e (i+1) k F M1) e.cells.length j σ' F M5:=fun v σ' hv h9 h10=>
    ⟨hj1,rfl,kp4.trans kp11,old11,h10,by rw [tk,hv]; exact h9⟩
   have hcv:coverB p.ptr (i+1) k c.pc=(decide (c.b=((i+1:Nat):Int)) && (decide (c.p≤k) && (decide ((k:Int) < c.p+wX p.ptr c.k) && soleB c.pc))):=rfl
   by_cases hcb1:c.b=((i+1:Nat):Int)
   rotate_left
   ·simp only [go_sem,u7,hcb1,q10,ej]
    exact nx false _ (by rw [hcv,decide_eq_false hcb1]; rfl) (by simp only [go_sem, *] <;> rfl) (by simp only [go_sem, *] <;> rfl)
   by_cases hcp:c.p≤k
   rotate_left
   ·simp only [go_sem,u7,u8,b11,hcb1,hcp,q10,ej]
    exact nx false _ (by rw [hcv,decide_eq_false hcp]; simp) (by simp only [go_sem, *] <;> rfl) (by simp only [go_sem, *] <;> rfl)
   have hspan:=jX hpre.1 hfi.kind
   have hx1:x.st=1:=by
    rcases Decidable.em (x.st=1) with h | h
    ·exact h
    ·rw [hxd h] at hk1; simp at hk1
   have hin:(yZ s.blocks c.b).st=1→0≤c.p∧c.p+wX p.ptr c.k≤(yZ s.blocks c.b).l.length:=hfi.inside
   rw [hcb1,hat] at hin
   obtain ⟨hp0,hp1⟩:=hin hx1
   have hspan:1≤wX p.ptr c.k∧wX p.ptr c.k≤4:=hspan
   have es:IntKind.i64.wrap (c.p+wX p.ptr c.k)=c.p+wX p.ptr c.k:=w64 (by omega) (by omega)
   simp only [go_sem,u3,u7,u8,b11,b35,hcb1,hcp]
   with_reducible refine qQ (k62 F M5 p c.k) ?_
   by_cases hks:(k:Int) < c.p+wX p.ptr c.k
   rotate_left
   ·simp only [go_sem,es,hks,q10,ej]
    exact nx false _ (by rw [hcv,decide_eq_false hks]; simp) (by simp only [go_sem, *] <;> rfl) (by simp only [go_sem, *] <;> rfl)
   simp only [go_sem,es,hks,b11]
   with_reducible refine qQ (k95 F M5 c hcr5 hfi.content) ?_
   simp only [go_sem,q10,ej]
   exact nx _ _ (by rw [hcv,decide_eq_true hcb1,decide_eq_true hcp,decide_eq_true hks]) (by simp only [go_sem, *] <;> rfl) (by simp only [go_sem, *] <;> rfl)
  ·rintro σ3 F' M4 hst ⟨rfl,kp4,old4,q9⟩
   have u8:=hst 8 rfl
   simp only [go_sem,q8] at u8
   cases hbo:byteOne p.ptr e.pe.cells (i+1) k
   ·rw [hbo] at q9
    simp only [go_sem,q9]
    exact fin _ (hno (by rw [hbO]; exact range_no hk1 hbo)) _ kp4
   ·rw [hbo] at q9
    simp only [go_sem,q9,u8,ek]
    exact ⟨hk1,rfl,kp4,old4,(by simp only [go_sem, *] <;> rfl),by rw [all_range,hb,hbo]; rfl⟩
 ·rintro σ2 F' M3 hst ⟨rfl,kp3,old3,hb⟩
  have t7:=hst 7 rfl
  simp only [go_sem,q7] at t7
  simp only [go_sem,t7,ei]
  exact ⟨by omega,rfl,kp3,old3,(by simp only [go_sem, *] <;> rfl),by rw [all_range,he,hb]; simp⟩
theorem k28 (n:Nat)(hn:n≤100000):CallsA Tryz.prog 28 [.int .i64 n] F M (rowR 5 By.cs 91 (List.replicate n ⟨0,0,0,0,0⟩) F M):=by
 refine qZ hm Tryz.func28 e28 (Nat.le_of_ble_eq_true rfl) ?_
 simp only [c28,go_sem]
 refine msK_of (Nat.le_refl _) (by simp only [maxLen]; omega) (by omega) ?_
 intro r4 hF4 hM4
 have hrep:(List.replicate n [Value.int .i64 0,.int .i64 0,.int .i64 0,.int .i64 0,.int .i64 0]).flatten=(List.replicate n (⟨0,0,0,0,0⟩:By)).flatMap By.cs:=flatG_rep (f:=By.cs) ⟨0,0,0,0,0⟩ n
 rw [hrep]
 simp only [go_sem]
 refine qW ⟨rfl,.inr ⟨r4,n,hF4,hM4,by rw [List.length_replicate],⟨by rw [List.length_replicate]; omega,by simp only [maxLen]; omega⟩,rfl⟩⟩
def smallP (a b c:Option Addr):Pg:=⟨false,4,a,1,[1],none,0,[],none,0,[],b,1,[⟨7,0,0,0,0,none,0,[],none,0,[]⟩],c,1,[0]⟩
theorem k55 (hold:Old F M):CallsA Tryz.prog 55 [] F M (fun u F' M'=>F'=F∧Keep M M'∧Old F M'∧∃a b c,u=(smallP a b c).val∧(smallP a b c).rdM F M'):=by
 refine qZ hm Tryz.func55 e55 (Nat.le_of_ble_eq_true rfl) ?_
 simp only [c55,go_sem]
 intro r0 hF0 hM0
 simp only [go_sem]
 intro r2 hF2 hM2
 simp only [wW] at hM2
 simp only [go_sem]
 intro r4 hF4 hM4
 simp only [wW] at hM4
 simp only [go_sem]
 intro r5 hF5 hM5
 simp only [wW] at hM5
 simp only [setH,go_sem,hM2,hM4,hM5]
 have n0:M r0=none:=hM0
 have h20:¬r2=r0:=by simp [hM2]
 have h40:¬r4=r0:=by simp [hM4]
 have h50:¬r5=r0:=by simp [hM5]
 have h24:¬r2=r4:=by simp [hM4]
 have h25:¬r2=r5:=by simp [hM5]
 have h45:¬r4=r5:=by simp [hM5]
 refine qW ⟨rfl,?_,?_,some ⟨r2,0,none⟩,some ⟨r4,0,none⟩,some ⟨r5,0,none⟩,rfl,?_⟩
 ·refine Keep.new ?_ n0
  exact (by repeat' first | exact Keep.refl _ | (refine Keep.new ?_ (by simp only [*])))
 ·exact Old.upd (by repeat' first | assumption | (refine Old.upd ?_ (by assumption))) hF0
 ·have b2:∀X0 X2 X4 X5 X,blk F (((((M.upd r0 X0).upd r2 X2).upd r4 X4).upd r5 X5).upd r0 X) r2=some X2.cells:=fun X0 X2 X4 X5 X=>qG (e:=X2) (by rw [Hp.qK h20,Hp.qK h25,Hp.qK h24]; exact Hp.qJ _ _ _)
  have b4:∀X0 X2 X4 X5 X,blk F (((((M.upd r0 X0).upd r2 X2).upd r4 X4).upd r5 X5).upd r0 X) r4=some X4.cells:=fun X0 X2 X4 X5 X=>qG (e:=X4) (by rw [Hp.qK h40,Hp.qK h45]; exact Hp.qJ _ _ _)
  have b5:∀X0 X2 X4 X5 X,blk F (((((M.upd r0 X0).upd r2 X2).upd r4 X4).upd r5 X5).upd r0 X) r5=some X5.cells:=fun X0 X2 X4 X5 X=>qG (e:=X5) (by rw [Hp.qK h50]; exact Hp.qJ _ _ _)
  exact ⟨gJ wD (by show 1≤_; decide) (by show 1≤1; decide) (b2 _ _ _ _ _),gX,gX,gJ (f:=Sm.cs) Sm.len (by show 1≤_; decide) (by show 1≤1; decide) (b4 _ _ _ _ _),gJ wD (by show 1≤_; decide) (by show 1≤1; decide) (b5 _ _ _ _ _),fun s hs=>by
   simp only [smallP,List.mem_singleton] at hs
   subst hs
   exact ⟨gX,gX⟩,⟨(fun h=>by cases h),(fun _=>rfl),fun s hs=>by
   simp only [smallP,List.mem_singleton] at hs
   subst hs
   exact ⟨fun _=>rfl,fun _=>rfl⟩⟩,by
   refine ⟨by simp [smallP],by simp [smallP],by simp [smallP],by simp [smallP],by simp [smallP],fun s hs=>?_⟩
   simp only [smallP,List.mem_singleton] at hs
   subst hs
   exact ⟨by decide,by decide⟩⟩
end Go.Proofs.Tryz.K
namespace Go.Proofs.Tryz.K
open Go Go.Ax Go.Proofs.Tryz.S
set_option maxRecDepth 100000
set_option linter.unusedSimpArgs false
set_option linter.unusedVariables false
set_option maxHeartbeats 4000000
variable (F:Fz) (M:Hp)
structure BeB (p:Pg)(r1 r2 r3:Nat)(F0:Fz)(M0:Hp)(wb wn:Value)(lb:List Bl)(M:Hp):Prop where
 kp:Keep M0 M
 old:Old F0 M
 f1:M r1=some ⟨p.cs,28,7⟩
 f2:M r2=some ⟨[.slice none 0 0,.slice none 0 0,.int .i64 0,.int .i64 0,.int .i64 0],42,5⟩
 f3:M r3=some ⟨[wb,wn,.int .i64 0,.int .i64 0,.int .i64 0],42,5⟩
 own:yY 2 Bl.cs 76 F0 M0 M wb lb
 owns:∀x∈lb,jQ 5 By.cs 91 F0 M (.slice x.lA x.l.length x.lC) x.l
 nums:jQ 1 intC 3 F0 M wn p.main
section
variable {p:Pg} {r1 r2 r3:Nat} {F0:Fz} {M0 M1 M2:Hp} {wb wn:Value} {lb:List Bl}
theorem BeB.keep (h:BeB p r1 r2 r3 F0 M0 wb wn lb M1)(k:Keep M1 M2)(o:Old F0 M2):BeB p r1 r2 r3 F0 M0 wb wn lb M2:=
 ⟨h.kp.trans k,o,k _ _ h.f1,k _ _ h.f2,k _ _ h.f3,h.own.keep k,fun x hx=>(h.owns x hx).keep k,h.nums.keep k⟩
theorem BeB.block (h:BeB p r1 r2 r3 F0 M0 wb wn lb M1)(hF3:F0 r3=none)(h3:M0 r3=none)(h13:¬r1=r3)(h23:¬r2=r3){w:Value}{c:Bl}(hc:jQ 5 By.cs 91 F0 M1 (.slice c.lA c.l.length c.lC) c.l)
  (fr:∀r x,M1 r=some x→¬x.elem=76→M2 r=some x)(kp:Keep M0 M2)(o:Old F0 M2)(mine:yY 2 Bl.cs 76 F0 M0 M2 w (lb++[c])) :
  BeB p r1 r2 r3 F0 M0 w wn (lb++[c]) (M2.upd r3 ⟨[w,wn,.int .i64 0,.int .i64 0,.int .i64 0],42,5⟩):=by
 have g3:=fr _ _ h.f3 (by decide:¬(42:Nat)=76)
 have fr3:∀r x,M2 r=some x→¬x.elem=42→(M2.upd r3 ⟨[w,wn,.int .i64 0,.int .i64 0,.int .i64 0],42,5⟩) r=some x:=fun r x hx hne=>by
  have:¬r=r3:=by rintro rfl; rw [g3] at hx; cases hx; exact hne rfl
  rw [Hp.qK this]; exact hx
 refine ⟨kp.new h3,o.upd hF3,?_,?_,Hp.qJ _ _ _,⟨mine.own.frame fr3 (by decide),mine.new⟩,fun x hx=>?_,(h.nums.frame fr (by decide)).frame fr3 (by decide)⟩
 ·rw [Hp.qK h13]; exact fr _ _ h.f1 (by decide:¬(28:Nat)=76)
 ·rw [Hp.qK h23]; exact fr _ _ h.f2 (by decide:¬(42:Nat)=76)
 ·rcases List.mem_append.1 hx with hx | hx
  ·exact ((h.owns x hx).frame fr (by decide)).frame fr3 (by decide)
  ·rw [List.mem_singleton.1 hx]; exact (hc.frame fr (by decide)).frame fr3 (by decide)
end
def bkP (b:Bl):Int × List By:=(b.st,b.l)
def varP (n:Int):Int × List By:=(1,List.replicate n.toNat ⟨0,0,0,0,0⟩)
def beI (p:Pg)(r1 r2 r3:Nat)(wn:Value)(F0:Fz)(M0:Hp)(i:Nat)(σ:Env)(F:Fz)(M:Hp):Prop:=
 F0=F∧Ax.look σ 4=some (.int .i64 i)∧∃wb,∃lb:List Bl,BeB p r1 r2 r3 F0 M0 wb wn lb M∧lb.map bkP=(0,[]) :: (p.vars.take i).map varP
def beN (p:Pg)(r1 r2 r3:Nat)(wn:Value)(F0:Fz)(M0:Hp)(i:Nat)(σ:Env)(F:Fz)(M:Hp):Prop:=
 F0=F∧Ax.look σ 5=some (.int .i64 i)∧∃wb,∃lb:List Bl,BeB p r1 r2 r3 F0 M0 wb wn lb M∧lb.map bkP=(0,[]) :: p.vars.map varP++(p.news.take i).map fun _=>(0,[])
def beginR (p:Pg)(F:Fz)(M:Hp)(u:Value)(F':Fz)(M':Hp):Prop:=F'=F∧Keep M M'∧Old F M'∧∃s:Ste,u=s.val∧s.blocks.map bkP=(0,[]) :: p.vars.map varP++p.news.map (fun _=>(0,[]))∧s.next=p.main∧s.inp=0∧s.p=0∧s.w=0∧s.rd F M'
theorem k11 (p:Pg)(hp:p.rd F)(hold:Old F M)(hv:∀n∈p.vars,0≤n∧n≤32):CallsA Tryz.prog 11 [p.val] F M (beginR p F M):=by
 refine qZ hm Tryz.func11 e11 (Nat.le_of_ble_eq_true rfl) ?_
 obtain ⟨w1,w2,_,_,w5,_⟩:=hp.few
 simp only [c11,go_sem]
 intro r1 hF1 hM1
 simp only [go_sem]
 intro r2 hF2 hM2
 simp only [wW] at hM2
 simp only [go_sem]
 intro rb hFb hMb
 simp only [wW] at hMb
 simp only [go_sem,hM2,hMb]
 have kpb:Keep M (((M.upd r1 ⟨p.cs,28,7⟩).upd r2 ⟨[.slice none 0 0,.slice none 0 0,.int .i64 0,.int .i64 0,.int .i64 0],42,5⟩).upd rb ⟨[.int .i64 0,.slice none 0 0],76,2⟩):=(by repeat' first | exact Keep.refl _ | (refine Keep.new ?_ (by simp only [*])))
 have oldb:Old F (((M.upd r1 ⟨p.cs,28,7⟩).upd r2 ⟨[.slice none 0 0,.slice none 0 0,.int .i64 0,.int .i64 0,.int .i64 0],42,5⟩).upd rb ⟨[.int .i64 0,.slice none 0 0],76,2⟩):=(by repeat' first | assumption | (refine Old.upd ?_ (by assumption)))
 have f1:(((M.upd r1 ⟨p.cs,28,7⟩).upd r2 ⟨[.slice none 0 0,.slice none 0 0,.int .i64 0,.int .i64 0,.int .i64 0],42,5⟩).upd rb ⟨[.int .i64 0,.slice none 0 0],76,2⟩) r1=some ⟨p.cs,28,7⟩:=by rw [Hp.qK (by simp [hMb]),Hp.qK (by simp [hM2])]; exact Hp.qJ _ _ _
 have f2:(((M.upd r1 ⟨p.cs,28,7⟩).upd r2 ⟨[.slice none 0 0,.slice none 0 0,.int .i64 0,.int .i64 0,.int .i64 0],42,5⟩).upd rb ⟨[.int .i64 0,.slice none 0 0],76,2⟩) r2=some ⟨[.slice none 0 0,.slice none 0 0,.int .i64 0,.int .i64 0,.int .i64 0],42,5⟩:=by rw [Hp.qK (by simp [hMb])]; exact Hp.qJ _ _ _
 have n2:M r2=none:=hM2.2
 have nb:M rb=none:=hMb.2.2
 have mine0:yY 2 Bl.cs 76 F M (((M.upd r1 ⟨p.cs,28,7⟩).upd r2 ⟨[.slice none 0 0,.slice none 0 0,.int .i64 0,.int .i64 0,.int .i64 0],42,5⟩).upd rb ⟨[.int .i64 0,.slice none 0 0],76,2⟩) (.slice (some ⟨rb,0,none⟩) 1 1) [⟨0,none,0,[]⟩]:=yY.one (x:=(⟨0,none,0,[]⟩:Bl)) hFb nb rfl
 generalize (((M.upd r1 ⟨p.cs,28,7⟩).upd r2 ⟨[.slice none 0 0,.slice none 0 0,.int .i64 0,.int .i64 0,.int .i64 0],42,5⟩).upd rb ⟨[.int .i64 0,.slice none 0 0],76,2⟩)=M1 at *
 have b1:=qG (F:=F) f1
 clear hM1 hM2 hMb hF1
 with_reducible refine qY (k27 F M1 _ _ p.main (hp.main M1 oldb) oldb (by omega)) ?_
 rintro u F' M2 hr
 have ownN:=hr.own
 obtain ⟨hG,le,kq,oq,a,c,rfl,rdq⟩:=hr.le (f:=intC) wD (by omega)
 subst hG
 refine ⟨(fun h=>by cases h),?_⟩
 have old2:=oq oldb
 clear hr le rdq oq
 simp only [go_sem]
 intro r3 hF3 hM3
 simp only [setH,Hp.wG,go_sem]
 have n3:M r3=none:=(kpb.trans kq).free hM3
 have h13:¬r1=r3:=(qH hM3 (kq _ _ f1)).1
 have h23:¬r2=r3:=(qH hM3 (kq _ _ f2)).1
 have h32:¬r3=r2:=fun h=>h23 h.symm
 have kp3:∀e,Keep M2 (M2.upd r3 e):=fun e=>(Keep.refl M2).new hM3
 have st:BeB p r1 r2 r3 F' M (.slice (some ⟨rb,0,none⟩) 1 1) (.slice a p.main.length c) [⟨0,none,0,[]⟩] (M2.upd r3 ⟨[.slice (some ⟨rb,0,none⟩) 1 1,.slice a p.main.length c,.int .i64 0,.int .i64 0,.int .i64 0],42,5⟩):=
  ⟨(kpb.trans kq).new n3,old2.upd hF3,kp3 _ _ _ (kq _ _ f1),kp3 _ _ _ (kq _ _ f2),Hp.qJ _ _ _,(mine0.keep kq).keep (kp3 _),fun x hx=>by rw [List.mem_singleton.1 hx]; exact .inl ⟨rfl,rfl⟩,ownN.keep (kp3 _)⟩
 clear mine0 f1 f2 kp3 ownN hM3 kq b1
 generalize M2.upd r3 ⟨[.slice (some ⟨rb,0,none⟩) 1 1,.slice a p.main.length c,.int .i64 0,.int .i64 0,.int .i64 0],42,5⟩=M3 at *
 clear kpb oldb old2
 refine inBlock_st (fun σ F2 M'=>F'=F2∧∃wb,∃lb:List Bl,BeB p r1 r2 r3 F' M wb (.slice a p.main.length c) lb M'∧lb.map bkP=(0,[]) :: p.vars.map varP) ?_ ?_
 ·refine yX p.vars.length (beI p r1 r2 r3 (.slice a p.main.length c) F' M) ⟨rfl,(by simp only [go_sem, *] <;> rfl),_,_,st,rfl⟩ ?_
  clear st
  rintro i σ F2 M2 hi hst ⟨rfl,q4,wb,lb,st,hlb⟩
  have q1:=hst 1 rfl
  have q3:=hst 3 rfl
  simp only [go_sem] at q1 q3
  clear hst
  have b1:=qG (F:=F') st.f1
  have b3:=qG (F:=F') st.f3
  by_cases hil:(i:Int) < p.vars.length
  rotate_left
  ·rw [List.take_of_length_le (by omega)] at hlb
   simp only [go_sem,q1,q4,b1,hil]
   exact At.mk ⟨rfl,wb,lb,st,hlb⟩
  have hi0:(0:Int)≤i:=by omega
  have hi1:i < p.vars.length:=by omega
  have ei:IntKind.i64.wrap ((i:Int)+1)=i+1:=w64 (by omega) (by omega)
  obtain ⟨b,o,cs,ea,hb,d1⟩:=Ax.gH (hp.vars M2 st.old) hi1
  have t1:=List.take_succ_eq_append_getElem hi1
  have hvx:=hv _ (List.getElem_mem hi1)
  have hll:lb.length=i+1:=by have:=congrArg List.length hlb; simp at this; omega
  generalize p.vars[i]=x at *
  obtain ⟨n,hn⟩:=Int.eq_ofNat_of_zero_le hvx.1
  have hvn:varP x=(1,List.replicate n ⟨0,0,0,0,0⟩):=by unfold varP; rw [hn]; rfl
  rw [hn] at d1
  simp only [go_sem,q1,q3,q4,b1,b3,hil,hi0,ea,Int.toNat_natCast,hb,d1]
  with_reducible refine qY (k28 F' M2 n (by omega)) ?_
  rintro u F2 M4 hr
  have ownB:=hr.own
  obtain ⟨hG,le,kq,oq,a4,c4,rfl,rdq⟩:=hr.le (f:=By.cs) By.len (by rw [List.length_replicate]; omega)
  subst hG
  refine ⟨fun _=>le,?_⟩
  have st4:=st.keep kq (oq st.old)
  obtain ⟨nb',hnb⟩:∃nb':Bl,nb'=⟨1,a4,c4,List.replicate n ⟨0,0,0,0,0⟩⟩:=⟨_,rfl⟩
  have own':jQ 5 By.cs 91 F2 M4 (.slice nb'.lA nb'.l.length nb'.lC) nb'.l:=by rw [hnb]; exact ownB
  have hbk:bkP nb'=varP x:=by rw [hvn,hnb]; rfl
  simp only [go_sem]
  intro rc hFc hMc
  have eC:[Value.int .i64 1,Value.slice a4 (List.replicate n (⟨0,0,0,0,0⟩:By)).length c4]=Bl.cs nb':=by rw [hnb]; rfl
  rw [eC]
  clear eC hnb ownB rdq hr
  simp only [go_sem]
  have kpc:Keep M4 (M4.upd rc ⟨nb'.cs,76,2⟩):=(Keep.refl M4).new hMc
  have stc:=st4.keep kpc (st4.old.upd hFc)
  have f3':=stc.f3
  have b3':=qG (F:=F2) stc.f3
  refine apMG_of (xs:=lb) (ys:=[nb']) Bl.len Bl.plain (by decide) stc.own stc.kp ⟨rfl,.inr ⟨⟨rc,0,none⟩,1,rfl,.inr ⟨rc,0,_,rfl,wY,by simp [Bl.take_all]⟩⟩⟩ (by simp) (by simp; omega) ?_
  rintro _ M5 ⟨g',c'',rfl⟩ fr kp5 o5 mine
  have stN:=stc.block hF3 n3 h13 h23 (own'.keep kpc) fr kp5 (o5 stc.old) mine
  rw [show (lb++[nb']).length=lb.length+1 by simp] at stN
  have g3:=fr _ _ stc.f3 (by decide:¬(42:Nat)=76)
  simp only [setH,go_sem,q3,q4,g3,ei]
  exact ⟨hi1,rfl,(by simp only [go_sem, *] <;> rfl),_,lb++[nb'],stN,by rw [List.map_append,hlb,t1,List.map_append,List.map_singleton,List.map_singleton,hbk]; rfl⟩
 ·clear st
  rintro σ F2 M2 hst ⟨rfl,wb,lb,st,hlb⟩
  have q1:=hst 1 rfl
  have q2:=hst 2 rfl
  have q3:=hst 3 rfl
  simp only [go_sem] at q1 q2 q3
  clear hst
  simp only [go_sem]
  refine yX p.news.length (beN p r1 r2 r3 (.slice a p.main.length c) F' M) ⟨rfl,(by simp only [go_sem, *] <;> rfl),_,_,st,by rw [hlb]; simp⟩ ?_
  clear st hlb
  rintro i σ2 F2 M2 hi hst ⟨rfl,q5,wb,lb,st,hlb⟩
  have t1:=hst 1 rfl
  have t2:=hst 2 rfl
  have t3:=hst 3 rfl
  simp only [go_sem,q1,q2,q3] at t1 t2 t3
  clear hst
  have b1:=qG (F:=F') st.f1
  have b3:=qG (F:=F') st.f3
  have f2:=st.f2
  have hll:lb.length=1+p.vars.length+i:=by have:=congrArg List.length hlb; simp at this; omega
  by_cases hil:(i:Int) < p.news.length
  rotate_left
  ·rw [List.take_of_length_le (by omega)] at hlb
   obtain ⟨a',c',rfl⟩:=st.own.shape
   simp only [setH,go_sem,t1,t2,t3,q5,b1,b3,f2,hil]
   have fr2:∀r x,M2 r=some x→¬x.elem=42→(M2.upd r2 ⟨[.slice a' lb.length c',.slice a p.main.length c,.int .i64 0,.int .i64 0,.int .i64 0],42,5⟩) r=some x:=fun r x hx hne=>by
    have:¬r=r2:=by rintro rfl; rw [f2] at hx; cases hx; exact hne rfl
    rw [Hp.qK this]; exact hx
   have o1:=st.own.own.frame fr2 (by decide)
   have o2:=fun x hx=>(st.owns x hx).frame fr2 (by decide)
   have o3:=st.nums.frame fr2 (by decide)
   have hle:∀x∈lb,x.l.length≤32:=fun x hx=>by
    have hm:bkP x∈lb.map bkP:=List.mem_map_of_mem hx
    rw [hlb] at hm
    rcases List.mem_append.1 hm with hm | hm
    ·rcases List.mem_cons.1 hm with hm | hm
     ·have:x.l=[]:=congrArg Prod.snd hm
      rw [this]; simp
     ·obtain ⟨n,hn,e⟩:=List.mem_map.1 hm
      have:x.l=List.replicate n.toNat ⟨0,0,0,0,0⟩:=(congrArg Prod.snd e).symm
      rw [this,List.length_replicate]
      have:=hv n hn
      omega
    ·obtain ⟨n,hn,e⟩:=List.mem_map.1 hm
     have:x.l=[]:=(congrArg Prod.snd e).symm
     rw [this]; simp
   exact qW ⟨rfl,st.kp.new n2,st.old.upd hF2,⟨a',c',lb,a,c,p.main,0,0,0⟩,rfl,hlb,rfl,rfl,rfl,rfl,
    ⟨o1.rd Bl.len (by show lb.length≤_; omega),fun x hx=>(o2 x hx).rd By.len (by have:=hle x hx; omega),o3.rd wD (by show p.main.length≤_; omega),own_zero o1,own_zero o3,fun x hx=>own_zero (o2 x hx)⟩⟩
  have hi0:(0:Int)≤i:=by omega
  have hi1:i < p.news.length:=by omega
  have ei:IntKind.i64.wrap ((i:Int)+1)=i+1:=w64 (by omega) (by omega)
  have tk:=List.take_succ_eq_append_getElem hi1
  simp only [go_sem,t1,t3,q5,b1,b3,hil]
  intro rc hFc hMc
  simp only [go_sem]
  have kpc:Keep M2 (M2.upd rc ⟨Bl.cs ⟨0,none,0,[]⟩,76,2⟩):=(Keep.refl M2).new hMc
  have stc:=st.keep kpc (st.old.upd hFc)
  refine apMG_of (xs:=lb) (ys:=[(⟨0,none,0,[]⟩:Bl)]) Bl.len Bl.plain (by decide) stc.own stc.kp ⟨rfl,.inr ⟨⟨rc,0,none⟩,1,rfl,.inr ⟨rc,0,_,rfl,wY,by simp [Bl.cs]⟩⟩⟩ (by simp) (by simp; omega) ?_
  rintro _ M5 ⟨g',c'',rfl⟩ fr kp5 o5 mine
  have stN:=stc.block hF3 n3 h13 h23 (.inl ⟨rfl,rfl⟩) fr kp5 (o5 stc.old) mine
  rw [show (lb++[(⟨0,none,0,[]⟩:Bl)]).length=lb.length+1 by simp] at stN
  have g3:=fr _ _ stc.f3 (by decide:¬(42:Nat)=76)
  simp only [setH,go_sem,t3,q5,g3,ei]
  exact ⟨hi1,rfl,(by simp only [go_sem, *] <;> rfl),_,lb++[⟨0,none,0,[]⟩],stN,by rw [List.map_append,hlb,tk,List.map_append,←List.append_assoc]; rfl⟩
end Go.Proofs.Tryz.K
namespace Go.Ax
open Go
theorem upd_self {M:Hp}{b:Nat}{e:Ent}(h:M b=some e):M.upd b e=M:=by
 funext k
 unfold Hp.upd
 split
 ·rename_i hk; rw [hk,h]
 ·rfl
theorem splice_nil {l:List By}{at_:Nat}:splice l at_ []=l:=by simp [splice]
theorem splice_step {l bs:List By}{at_ i:Nat}(h:at_+bs.length≤l.length)(hi:i < bs.length):(splice l at_ (bs.take i)).set (at_+i) bs[i]=splice l at_ (bs.take (i+1)):=by
 have l1:(bs.take i).length=i:=by rw [List.length_take]; omega
 have l2:(bs.take (i+1)).length=i+1:=by rw [List.length_take]; omega
 apply List.ext_getElem?
 intro j
 rw [List.getElem?_set,splice_get (by omega),splice_get (by omega),splice_len (by omega),l1,l2]
 by_cases h1:at_+i=j
 ·subst h1
  rw [if_pos rfl,if_pos (by omega),if_pos (by omega),List.getElem?_take_of_lt (by omega),Nat.add_sub_cancel_left,List.getElem?_eq_getElem hi]
 ·rw [if_neg h1]
  by_cases h2:at_≤j∧j < at_+i
  ·rw [if_pos h2,if_pos (by omega),List.getElem?_take_of_lt (by omega),List.getElem?_take_of_lt (by omega)]
  ·rw [if_neg h2,if_neg (by omega)]
def Dist (x y:Bl):Prop:=∀g,x.lA=some g→¬y.lA=some g
structure MemOwn (tb ty:TypeId)(F:Fz)(M:Hp)(a:Option Addr)(c:Nat)(m:List Bl):Prop where
 row:jQ 2 Bl.cs tb F M (.slice a m.length c) m
 rows:∀x∈m,jQ 5 By.cs ty F M (.slice x.lA x.l.length x.lC) x.l
 dist:m.Pairwise Dist
theorem MemOwn.keep {tb ty:TypeId}{F:Fz}{M M':Hp}{a:Option Addr}{c:Nat}{m:List Bl}(h:MemOwn tb ty F M a c m)(kp:Keep M M'):MemOwn tb ty F M' a c m:=
 ⟨h.row.keep kp,fun x hx=>(h.rows x hx).keep kp,h.dist⟩
theorem set_map {α β:Type}{f:α→β}{l:List α}{b:Nat}(hb:b < l.length){x:α}(h:f x=f l[b]):(l.set b x).map f=l.map f:=by
 apply List.ext_getElem?
 intro j
 rw [List.getElem?_map,List.getElem?_map,List.getElem?_set]
 split
 ·rename_i e; subst e
  rw [List.getElem?_eq_getElem hb,Option.map_some,Option.map_some,h]
 ·rfl
theorem MemOwn.lay {tb ty:TypeId}{F:Fz}{M:Hp}{a:Option Addr}{c:Nat}{m:List Bl}(h:MemOwn tb ty F M a c m)(ht:¬tb=ty){b:Nat}(hb:b < m.length){g n:Nat}(hg:(m[b]).lA=some ⟨g,0,none⟩)(hM:M g=some ⟨(m[b]).l.flatMap By.cs,ty,n⟩){l':List By}(hl:l'.length=(m[b]).l.length) :
  MemOwn tb ty F (M.upd g ⟨l'.flatMap By.cs,ty,n⟩) a c (m.set b ⟨(m[b]).st,(m[b]).lA,(m[b]).lC,l'⟩):=by
 refine ⟨?_,fun x hx=>?_,?_⟩
 ·have e1:(m.set b ⟨(m[b]).st,(m[b]).lA,(m[b]).lC,l'⟩).flatMap Bl.cs=m.flatMap Bl.cs:=by
   rw [List.flatMap_def,List.flatMap_def,set_map hb]
   simp only [Bl.cs,hl]
  rcases h.row with ⟨h1,h2⟩ | ⟨g',cap,h1,h2,h3,h4,h5⟩
  ·rw [h2] at hb; cases hb
  ·refine .inr ⟨g',cap,by rw [List.length_set]; exact h1,h2,?_,by rw [List.length_set]; exact h4,h5⟩
   have:¬g'=g:=by rintro rfl; rw [hM] at h3; injection h3 with h3; injection h3 with _ h3 _; exact ht h3.symm
   rw [Hp.qK this,e1]; exact h3
 ·obtain ⟨i,hi,rfl⟩:=List.getElem_of_mem hx
  have hi':i < m.length:=by simpa using hi
  rw [List.getElem_set]
  split
  ·rename_i e; subst e
   have hx2:=h.rows _ (List.getElem_mem hb)
   rcases hx2 with ⟨h1,_⟩ | ⟨g',cap,h1,h2,h3,h4,h5⟩
   ·rw [hg] at h1; cases h1
   ·rw [hg] at h1
    injection h1 with e1 e2 e3
    injection e1 with e1
    injection e1 with e1
    subst e1
    rw [hM] at h3
    injection h3 with h3
    injection h3 with _ _ h3
    exact .inr ⟨g,cap,by simp only [hg,hl,e3],h2,by rw [Hp.qJ,h3],by rw [hl]; exact h4,h5⟩
  ·rename_i hne
   rcases h.rows _ (List.getElem_mem hi') with h1 | ⟨g',cap,h1,h2,h3,h4,h5⟩
   ·exact .inl h1
   ·refine .inr ⟨g',cap,h1,h2,?_,h4,h5⟩
    injection h1 with e1 e2 e3
    have:¬g'=g:=by
     rintro rfl
     have hp:=List.pairwise_iff_getElem.1 h.dist
     rcases Nat.lt_or_gt_of_ne hne with hlt | hlt
     ·exact hp b i hb hi' hlt _ hg e1
     ·exact hp i b hi' hb hlt _ e1 hg
    rw [Hp.qK this]; exact h3
 ·have hm:(m.set b ⟨(m[b]).st,(m[b]).lA,(m[b]).lC,l'⟩).map Bl.lA=m.map Bl.lA:=set_map hb rfl
  have key:∀l:List Bl,l.Pairwise Dist↔(l.map Bl.lA).Pairwise (fun x y=>∀g,x=some g→¬y=some g):=fun l=>by
   rw [List.pairwise_map]; rfl
  rw [key,hm,←key]
  exact h.dist
theorem CallsA.part {P:Program}{f:FuncId}{args:List Value}{F:Fz}{A M:Hp}{Q:Value→Hp→Prop}(hA:Keep A M)(hO:Old F M)(h:CallsA P f args F A (Makes F A Q)) :
  CallsA P f args F M (Makes F M fun v M'=>∃N,Keep A N∧Old F N∧Keep N M'∧(∀b,¬M b=none→A b=none→N b=none)∧Q v N):=by
 refine ⟨h.1,fun w hw=>?_⟩
 have hr:Rel F A w:=⟨hw.fz,fun b n hb=>hw.mu b n (hA _ _ hb),fun b hb=>by
  cases hx:A b with
  | none=>exact absurd hx hb
  | some e=>exact hw.ap b (by rw [hA _ _ hx]; simp),hw.mp⟩
 refine (h.2 w hr).mono fun en w' ⟨v,F',N,he,h1,h2,hF,hk,ho,hQ⟩=>?_
 subst hF
 have hd:∀b,¬M b=none→A b=none→N b=none:=fun b hb ha=>by
  cases hx:M b with
  | none=>exact absurd hx hb
  | some e=>
   obtain ⟨cur,g1,_⟩:=hw.mu b e hx
   exact (h2.block b (Array.getElem?_eq_some_iff.1 g1).1 ha (hw.noMap hx)).2.1
 have kN:Keep N (N.join M):=fun b e hb=>join_left hb
 have kM:Keep M (N.join M):=fun b e hb=>by
  cases ha:A b with
  | none=>rw [join_right (hd b (by rw [hb]; simp) ha)]; exact hb
  | some x=>
   have e2:=hA _ _ ha
   rw [hb] at e2
   injection e2 with e2
   subst e2
   exact join_left (hk _ _ ha)
 have oM:Old F' (N.join M):=fun b hb=>join_none.2 ⟨ho b hb,hO b hb⟩
 refine ⟨v,F',N.join M,he,⟨h1.fz,fun b n hb=>?_,fun b hb=>?_,h1.mp⟩,⟨h2.os,h2.tape,h2.output,h2.size,fun b hb hm hp=>?_⟩,rfl,kM,oM,N,hk,ho,kN,hd,hQ⟩
 ·cases hx:N b with
  | some x=>rw [join_left hx] at hb; cases hb; exact h1.mu b n hx
  | none=>
   rw [join_right hx] at hb
   have ha:A b=none:=by
    cases ha:A b with
    | none=>rfl
    | some x=>rw [hk _ _ ha] at hx; cases hx
   obtain ⟨cur,g1,g2,g3⟩:=hw.mu b n hb
   have:=h2.block b (Array.getElem?_eq_some_iff.1 g1).1 ha (hw.noMap hb)
   exact ⟨cur,by rw [this.1]; exact g1,g2,g3⟩
 ·cases hx:N b with
  | some x=>exact h1.ap b (by rw [hx]; simp)
  | none=>rw [join_right hx] at hb; exact hw.ap b hb
 ·have ha:A b=none:=by
   cases ha:A b with
   | none=>rfl
   | some x=>rw [hA _ _ ha] at hm; cases hm
  obtain ⟨g1,g2,g3,_⟩:=h2.block b hb ha hp
  exact ⟨g1,join_none.2 ⟨g2,hm⟩,g3,id⟩
end Go.Ax
namespace Go.Proofs.Tryz.K
open Go Go.Ax Go.Proofs.Tryz.S
variable (F:Fz) (M:Hp)
def cbI (l:List By)(F0:Fz)(M0:Hp)(i:Nat)(σ:Env)(F:Fz)(M:Hp):Prop:=
 F0=F∧Keep M0 M∧Old F0 M∧Ax.look σ 4=some (.int .i64 i)∧∃w,Ax.look σ 3=some w∧yY 5 By.cs 91 F0 M0 M w (l.take i)
theorem k115 (a:Option Addr)(c:Nat)(l:List By)(h:RdG 5 By.cs F M (.slice a l.length c) l)(hold:Old F M)(hl:l.length≤100000) :
  CallsA Tryz.prog 115 [.slice a l.length c] F M (rowR 5 By.cs 91 l F M):=by
 refine qZ hm Tryz.func115 e115 (Nat.le_of_ble_eq_true rfl) ?_
 simp only [c115,go_sem]
 refine yX l.length (cbI l F M) ⟨rfl,Keep.refl _,hold,(by simp only [go_sem, *] <;> rfl),_,(by simp only [go_sem, *] <;> rfl),by rw [List.take_zero]; exact yY.nil⟩ ?_
 rintro i σ F' M' hi hst ⟨rfl,kp,old,q4,w,q3,mine⟩
 have q0:=hst 0 rfl
 simp only [go_sem] at q0
 clear hst
 by_cases hil:(i:Int) < l.length
 rotate_left
 ·rw [List.take_of_length_le (by omega)] at mine
  simp only [go_sem,q0,q3,q4,hil]
  exact mine.done kp
 have hi0:(0:Int)≤i:=by omega
 have hi1:i < l.length:=by omega
 have ei:IntKind.i64.wrap ((i:Int)+1)=i+1:=w64 (by omega) (by omega)
 obtain ⟨b,o,cs,rfl,hb,rows⟩:=(h.keep kp old).rows (by omega)
 obtain ⟨d1,d2⟩:=rows i hi1
 clear rows
 have t1:=List.take_succ_eq_append_getElem hi1
 generalize l[i]=x at *
 simp only [go_sem,q0,q3,q4,hil,hi0,Int.toNat_natCast,hb,d1,d2]
 intro rb hFb hMb
 simp only [go_sem]
 refine apMG_of (xs:=l.take i) (ys:=[x]) By.len By.plain (by decide) (mine.fresh hMb) (kp.new (kp.free hMb)) ⟨rfl,.inr ⟨⟨rb,0,none⟩,1,rfl,.inr ⟨rb,0,_,rfl,wY,by simp [By.take_all]⟩⟩⟩ (by simp) (by simp; omega) ?_
 rintro v' M2 _ _ kp2 ho2 mine2
 rw [←t1] at mine2
 simp only [go_sem,q4,ei]
 exact ⟨hi1,rfl,kp2,ho2 (old.upd hFb),(by simp only [go_sem, *] <;> rfl),v',(by simp only [go_sem, *] <;> rfl),mine2⟩
def blockNew (x:Bl)(F:Fz)(M:Hp)(u:Value)(F':Fz)(M':Hp):Prop:=F'=F∧Keep M M'∧Old F M'∧∃x':Bl,u=x'.val∧x'.st=x.st∧x'.l=x.l∧yY 5 By.cs 91 F M M' (.slice x'.lA x'.l.length x'.lC) x'.l
theorem bl_set1 {x:Bl}{a:Option Addr}{n:Nat}:x.cs.take 1++[Value.slice a x.l.length n]=Bl.cs ⟨x.st,a,n,x.l⟩:=rfl
theorem k68 (x:Bl)(h:RdG 5 By.cs F M (.slice x.lA x.l.length x.lC) x.l)(hold:Old F M)(hl:x.l.length≤100000):CallsA Tryz.prog 68 [x.val] F M (blockNew x F M):=by
 refine qZ hm Tryz.func68 e68 (Nat.le_of_ble_eq_true rfl) ?_
 simp only [c68,go_sem]
 intro r1 hF1 hM1
 simp only [go_sem]
 intro r2 hF2 hM2
 simp only [wW] at hM2
 simp only [go_sem,hM2]
 intro r3 hF3 hM3
 simp only [wW] at hM3
 simp only [setH,Hp.wG,go_sem,hM2,hM3]
 have kp3:Keep M (((M.upd r1 ⟨x.cs,76,2⟩).upd r2 ⟨[.int .i64 0,.slice none 0 0],76,2⟩).upd r3 ⟨x.cs,76,2⟩):=(by repeat' first | exact Keep.refl _ | (refine Keep.new ?_ (by simp only [*])))
 have old3:Old F (((M.upd r1 ⟨x.cs,76,2⟩).upd r2 ⟨[.int .i64 0,.slice none 0 0],76,2⟩).upd r3 ⟨x.cs,76,2⟩):=(by repeat' first | assumption | (refine Old.upd ?_ (by assumption)))
 have f3:(((M.upd r1 ⟨x.cs,76,2⟩).upd r2 ⟨[.int .i64 0,.slice none 0 0],76,2⟩).upd r3 ⟨x.cs,76,2⟩) r3=some ⟨x.cs,76,2⟩:=Hp.qJ _ _ _
 have f2:(((M.upd r1 ⟨x.cs,76,2⟩).upd r2 ⟨[.int .i64 0,.slice none 0 0],76,2⟩).upd r3 ⟨x.cs,76,2⟩) r2=some ⟨[.int .i64 0,.slice none 0 0],76,2⟩:=by
  rw [Hp.qK (by simp [hM3])]; exact Hp.qJ _ _ _
 have n2:M r2=none:=hM2.2
 have n3:M r3=none:=hM3.2.2
 have ne23:¬r2=r3:=hM3.1.2
 have ne32:¬r3=r2:=hM3.1.1
 generalize (((M.upd r1 ⟨x.cs,76,2⟩).upd r2 ⟨[.int .i64 0,.slice none 0 0],76,2⟩).upd r3 ⟨x.cs,76,2⟩)=M3 at *
 have h3:RdG 5 By.cs F M3 (.slice x.lA x.l.length x.lC) x.l:=h.keep kp3 old3
 have kc:=k115 F M3 x.lA x.lC x.l h3 old3 hl
 with_reducible refine qY kc ?_
 rintro u F' M4 hr
 have hown:=hr.own
 have hnew:∀g n c,u=.slice (some ⟨g,0,none⟩) n c→M g=none:=fun g n c e=>by
  obtain ⟨_,hr⟩:=hr
  rcases hr with ⟨_,h1,_⟩ | ⟨g',cap,_,h2,h1,_⟩
  ·rw [h1] at e; cases e
  ·rw [h1] at e; cases e; exact kp3.free h2
 obtain ⟨hG,le,kq,oq,a,n,rfl,rdq⟩:=hr.le By.len (by omega)
 subst hG
 refine ⟨(fun h=>by cases h),?_⟩
 have f3':=kq _ _ f3
 have f2':=kq _ _ f2
 simp only [setH,go_sem,f2',f3',ne23,bl_set1]
 have own5:jQ 5 By.cs 91 F' ((M4.upd r3 ⟨Bl.cs ⟨x.st,a,n,x.l⟩,76,2⟩).upd r2 ⟨Bl.cs ⟨x.st,a,n,x.l⟩,76,2⟩) (.slice a x.l.length n) x.l:=by
  refine hown.frame (e':=76) (fun r y hy hne=>?_) (by decide)
  have e3:¬r=r3:=by rintro rfl; rw [f3'] at hy; cases hy; exact hne rfl
  have e2:¬r=r2:=by rintro rfl; rw [f2'] at hy; cases hy; exact hne rfl
  rw [Hp.qK e2,Hp.qK e3]; exact hy
 exact qW ⟨rfl,((kp3.trans kq).new n3).new n2,((oq old3).upd hF3).upd hF2,⟨x.st,a,n,x.l⟩,rfl,rfl,rfl,own5,hnew⟩
def blocksNew (m:List Bl)(F:Fz)(M:Hp)(u:Value)(F':Fz)(M':Hp):Prop:=F'=F∧Keep M M'∧Old F M'∧∃a c,∃m':List Bl,u=.slice a m'.length c∧m'.map bkP=m.map bkP∧MemOwn 76 91 F M' a c m'∧(∀g n c',u=.slice (some ⟨g,0,none⟩) n c'→M g=none)∧∀x∈m',∀g,x.lA=some ⟨g,0,none⟩→M g=none
def cblI (l:List Bl)(F0:Fz)(M0:Hp)(i:Nat)(σ:Env)(F:Fz)(M:Hp):Prop:=
 F0=F∧Keep M0 M∧Old F0 M∧Ax.look σ 4=some (.int .i64 i)∧∃w,∃l':List Bl,Ax.look σ 3=some w∧yY 2 Bl.cs 76 F0 M0 M w l'∧l'.map bkP=(l.take i).map bkP∧(∀x∈l',yY 5 By.cs 91 F0 M0 M (.slice x.lA x.l.length x.lC) x.l)∧l'.Pairwise Dist
theorem k35 (a:Option Addr)(c:Nat)(l:List Bl)(h:RdG 2 Bl.cs F M (.slice a l.length c) l)(hr:∀x∈l,RdG 5 By.cs F M (.slice x.lA x.l.length x.lC) x.l)(hold:Old F M)(hl:l.length≤100000)(hp:∀x∈l,x.l.length≤100000) :
  CallsA Tryz.prog 35 [.slice a l.length c] F M (blocksNew l F M):=by
 refine qZ hm Tryz.func35 e35 (Nat.le_of_ble_eq_true rfl) ?_
 simp only [c35,go_sem]
 refine yX l.length (cblI l F M) ⟨rfl,Keep.refl _,hold,(by simp only [go_sem, *] <;> rfl),_,[],(by simp only [go_sem, *] <;> rfl),yY.nil,rfl,(fun x hx=>by cases hx),List.Pairwise.nil⟩ ?_
 rintro i σ F' M' hi hst ⟨rfl,kp,old,q4,w,l',q3,mine,hpc,hown,hds⟩
 have q0:=hst 0 rfl
 simp only [go_sem] at q0
 clear hst
 have hll:l'.length=i:=by have:=congrArg List.length hpc; simp at this; omega
 by_cases hil:(i:Int) < l.length
 rotate_left
 ·rw [List.take_of_length_le (by omega)] at hpc
  obtain ⟨a',c',rfl⟩:=mine.shape
  simp only [go_sem,q0,q3,q4,hil]
  exact qW ⟨rfl,kp,old,a',c',l',rfl,hpc,⟨mine.own,fun x hx=>(hown x hx).own,hds⟩,mine.new,fun x hx g e=>(hown x hx).new g _ _ (by rw [e])⟩
 have hi0:(0:Int)≤i:=by omega
 have hi1:i < l.length:=by omega
 have ei:IntKind.i64.wrap ((i:Int)+1)=i+1:=w64 (by omega) (by omega)
 obtain ⟨b,o,cs,rfl,hb,rows⟩:=(h.keep kp old).rows (by omega)
 obtain ⟨d1,d2⟩:=rows i hi1
 clear rows
 have t1:=List.take_succ_eq_append_getElem hi1
 have hx:=hr _ (List.getElem_mem hi1)
 have hxl:=hp _ (List.getElem_mem hi1)
 generalize l[i]=x at *
 simp only [go_sem,q0,q3,q4,hil,hi0,Int.toNat_natCast,hb,d1,d2]
 have kc:=k68 F M' x (hx.keep kp old) old hxl
 with_reducible refine qY kc ?_
 rintro u F' M1 ⟨rfl,kp1,old1,c',rfl,hs',hc',own'⟩
 refine ⟨(fun h=>by cases h),?_⟩
 simp only [go_sem]
 intro rb hFb hMb
 simp only [go_sem]
 have kp2:Keep M' (M1.upd rb ⟨c'.cs,76,2⟩):=kp1.new (kp1.free hMb)
 have hown2:∀y∈l'++[c'],yY 5 By.cs 91 F' M (M1.upd rb ⟨c'.cs,76,2⟩) (.slice y.lA y.l.length y.lC) y.l:=fun y hy=>by
  rcases List.mem_append.1 hy with hy | hy
  ·exact (hown y hy).keep kp2
  ·rw [List.mem_singleton.1 hy]; exact ⟨own'.own.new hMb,fun g n c e=>kp.free (own'.new g n c e)⟩
 have hds2:(l'++[c']).Pairwise Dist:=by
  refine List.pairwise_append.2 ⟨hds,List.pairwise_singleton _ _,fun x hx y hy g e1 e2=>?_⟩
  rw [List.mem_singleton.1 hy] at e2
  rcases (hown x hx).own with ⟨e,_⟩ | ⟨g',cap,e,_,hM,_⟩
  ·rw [e1] at e; cases e
  ·rw [e1] at e
   injection e with e
   injection e with e
   have:=own'.new g' _ _ (by rw [e2,e])
   rw [this] at hM; cases hM
 refine apMG_of (xs:=l') (ys:=[c']) Bl.len Bl.plain (by decide) ((mine.keep kp1).fresh hMb) (kp.trans kp2) ⟨rfl,.inr ⟨⟨rb,0,none⟩,1,rfl,.inr ⟨rb,0,_,rfl,wY,by simp [Bl.take_all]⟩⟩⟩ (by simp) (by simp; omega) ?_
 rintro v' M2 _ hfr kp3 ho3 mine3
 simp only [go_sem,q4,ei]
 exact ⟨hi1,rfl,kp3,ho3 (old1.upd hFb),(by simp only [go_sem, *] <;> rfl),v',l'++[c'],(by simp only [go_sem, *] <;> rfl),mine3,by rw [t1,List.map_append,List.map_append,hpc]; simp [bkP,hc',hs'],fun y hy=>⟨(hown2 y hy).own.frame hfr (by decide),(hown2 y hy).new⟩,hds2⟩
end Go.Proofs.Tryz.K
