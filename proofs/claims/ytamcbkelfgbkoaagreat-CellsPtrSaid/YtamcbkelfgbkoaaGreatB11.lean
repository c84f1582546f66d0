/- Parts B11: the machine's runs of small codes, contracts of functions, plain facts. -/
import Derived.Test.YtamcbkelfgbkoaaGreatB10
set_option maxRecDepth 100000
set_option linter.unusedSimpArgs false
set_option linter.unusedVariables false
set_option maxHeartbeats 4000000
namespace Go.Proofs.Tryz.K
open Go Go.Ax Go.Proofs.Tryz.S
variable (F:Fz) (M:Hp)
theorem k34 (big:Bool)(ptr k:Int)(n:Nat)(a:Option Addr)(c:Nat)(m:List Bl)(b off:Nat)(h:RdG 2 Bl.cs F M (.slice a m.length c) m)(hold:Old F M)(hb:b < m.length)(hst:(m[b]).st=1)(hn:sizeK ptr k=n)(hn1:1≤n∧n≤4)(ho:off≤1000)(hl:(m[b]).l.length≤1000) :
  CallsA Tryz.prog 34 [.agg #[.bool big,.int .i64 ptr],.slice a m.length c,(Sc.mk true 0 b off).val,.int .i64 k] F M (Same F M (.int .i64 (jK n (m[b]).l.length off))):=by
 refine qZ hm Tryz.func34 e34 (Nat.le_of_ble_eq_true rfl) ?_
 simp only [c34,go_sem]
 intro r4 hF4 hM4
 generalize eQ:M.upd r4 ⟨[.bool big,.int .i64 ptr],23,2⟩=M1 at *
 obtain ⟨kp4,old4,f4⟩:=nw eQ hold hF4 hM4
 clear eQ
 simp only [go_sem]
 intro r6 hF6 hM6
 generalize eQ:M1.upd r6 ⟨(Sc.mk true 0 b off).cs,50,4⟩=M2 at *
 obtain ⟨kp6,old6,f6⟩:=nw eQ old4 hF6 hM6
 clear eQ
 have kp:=kp4.trans kp6
 have b4:=qG (F:=F) (kp6 _ _ f4)
 have b6:=qG (F:=F) f6
 have h2:=h.keep kp old6
 have ks:=k48 F M2 big ptr k
 rw [hn] at ks
 simp only [go_sem,b4]
 with_reducible refine qQ ks ?_
 obtain ⟨bb,o,cs,rfl,hbk,rows⟩:=h2.rows (by omega)
 obtain ⟨g1,g2⟩:=rows b hb
 clear rows
 generalize m[b]=x at *
 obtain ⟨g2,g3⟩:=Bl.row g2
 have hb0:(0:Int)≤b:=by omega
 have hbl:(b:Int) < m.length:=by omega
 have en:IntKind.i64.wrap ((off:Int)+n)=off+n:=w64 (by omega) (by omega)
 have hn0:¬(n:Int)=0:=by omega
 by_cases hlt:(x.l.length:Int) < off+n
 ·have e:jK n x.l.length off=1:=by unfold jK; rw [if_pos hlt]
  simp only [go_sem,b6,hb0,hbl,Int.toNat_natCast,Nat.add_zero,hbk,g2,g3,hst,en,hlt]
  exact qX kp ⟨by rw [e],rfl,rfl⟩
 by_cases hal:(off:Int).tmod n=0
 ·have e:jK n x.l.length off=0:=by unfold jK; rw [if_neg hlt,if_pos hal]
  simp only [go_sem,b6,hb0,hbl,Int.toNat_natCast,Nat.add_zero,hbk,g2,g3,hst,en,hlt,hn0,hal]
  exact qX kp ⟨by rw [e],rfl,rfl⟩
 ·have e:jK n x.l.length off=3:=by unfold jK; rw [if_neg hlt,if_neg hal]
  simp only [go_sem,b6,hb0,hbl,Int.toNat_natCast,Nat.add_zero,hbk,g2,g3,hst,en,hlt,hn0,hal]
  exact qX kp ⟨by rw [e],rfl,rfl⟩
def pageV (big:Bool)(k:Int)(n off:Nat)(l:List By):Sc × Int:=
 if jK n l.length off=0 then yW big k ((l.drop off).take n) else (⟨false,0,0,0⟩,jK n l.length off)
theorem k22 (big:Bool)(ptr k:Int)(n:Nat)(a:Option Addr)(c:Nat)(m:List Bl)(b off:Nat)(h:RdG 2 Bl.cs F M (.slice a m.length c) m)(hold:Old F M)(hp:ptr=2∨ptr=4)(hb:b < m.length)(hst:(m[b]).st=1)(hn:sizeK ptr k=n)(hn1:1≤n∧n≤4)(ho:off≤1000)(hl:(m[b]).l.length≤1000)
  (hx:RdG 5 By.cs F M (.slice (m[b]).lA (m[b]).l.length (m[b]).lC) (m[b]).l)(hby:∀x∈(m[b]).l,byteB x=true) :
  CallsA Tryz.prog 22 [.agg #[.bool big,.int .i64 ptr],.slice a m.length c,(Sc.mk true 0 b off).val,.int .i64 k] F M (Same F M (.tuple #[(pageV big k n off (m[b]).l).1.val,.int .i64 (pageV big k n off (m[b]).l).2])):=by
 refine qZ hm Tryz.func22 e22 (Nat.le_of_ble_eq_true rfl) ?_
 simp only [c22,go_sem]
 intro r4 hF4 hM4
 generalize eQ:M.upd r4 ⟨[.bool big,.int .i64 ptr],23,2⟩=M1 at *
 obtain ⟨kp4,old4,f4⟩:=nw eQ hold hF4 hM4
 clear eQ
 simp only [go_sem]
 intro r6 hF6 hM6
 generalize eQ:M1.upd r6 ⟨(Sc.mk true 0 b off).cs,50,4⟩=M2 at *
 obtain ⟨kp6,old6,f6⟩:=nw eQ old4 hF6 hM6
 clear eQ
 simp only [go_sem]
 intro r8 hF8 hM8
 have n8:M r8=none:=(kp4.trans kp6).free hM8
 generalize eQ:M2.upd r8 ⟨[.bool false,.int .i64 0,.int .i64 0,.int .i64 0],50,4⟩=M3 at *
 obtain ⟨kp8,old8,f8⟩:=nw eQ old6 hF8 hM8
 clear eQ
 have kp:=(kp4.trans kp6).trans kp8
 have b4:=qG (F:=F) (kp8 _ _ (kp6 _ _ f4))
 have b6:=qG (F:=F) (kp8 _ _ f6)
 have b8:=qG (F:=F) f8
 have h3:=h.keep kp old8
 have hx3:=hx.keep kp old8
 have kr:=k34 F M3 big ptr k n a c m b off h3 old8 hb hst hn hn1 ho hl
 have ks:=k48 F M3 big ptr k
 rw [hn] at ks
 simp only [go_sem,b4,b6]
 with_reducible refine qQ kr ?_
 by_cases hs:jK n (m[b]).l.length off=0
 rotate_left
 ·have e:pageV big k n off (m[b]).l=(⟨false,0,0,0⟩,jK n (m[b]).l.length off):=by unfold pageV; rw [if_neg hs]
  rw [e]
  simp only [setH,go_sem,f8,hs]
  exact qX (kp.new n8) ⟨rfl,rfl,rfl⟩
 have e:pageV big k n off (m[b]).l=yW big k (((m[b]).l.drop off).take n):=by unfold pageV; rw [if_pos hs]
 rw [e]
 have hfit:¬((m[b]).l.length:Int) < off+n:=fun hlt=>by unfold jK at hs; rw [if_pos hlt] at hs; cases hs
 obtain ⟨bb,o,cs,rfl,hbk,rows⟩:=h3.rows (by omega)
 obtain ⟨g1,g2⟩:=rows b hb
 clear rows
 generalize m[b]=x at *
 obtain ⟨g2,g3⟩:=Bl.row g2
 have hb0:(0:Int)≤b:=by omega
 have hbl:(b:Int) < m.length:=by omega
 have ho0:(0:Int)≤off:=by omega
 have ew:IntKind.i64.wrap ((off:Int)+n)=((off+n:Nat):Int):=by rw [w64 (by omega) (by omega)]; omega
 have e1:(0:Int)≤((off+n:Nat):Int):=by omega
 have e2:(off:Int)≤((off+n:Nat):Int):=by omega
 have e3:((off+n:Nat):Int)≤x.l.length:=by omega
 have e4:x.l.length≤x.lC:=by
  obtain ⟨_,ad,cap,hc,e,_⟩:=hx3
  cases e; exact hc
 have e4':(x.l.length:Int)≤x.lC:=by omega
 have e5:off+n - off=n:=by omega
 have hcl:=cut_len (l:=x.l) (lo:=off) (n:=n) (by omega)
 have hcut:=RdG.cut hx3 (lo:=off) (n:=n) (by omega)
 have kG:=k47 F M3 big ptr k _ _ ((x.l.drop off).take n) hp old8 hcut (by rw [hcl]; omega) (fun z hz=>hby z (List.mem_of_mem_drop (List.mem_of_mem_take hz))) (fun _=>by rw [hcl,hn]; rfl)
 rw [hcl] at kG
 simp only [go_sem,b4,b6,hb0,hbl,Int.toNat_natCast,hbk,g3,hs]
 with_reducible refine qQ ks ?_
 simp only [go_sem,Int.toNat_natCast,ho0,ew,e2,e3,e4,e5]
 with_reducible refine qQ kG ?_
 generalize yW big k ((x.l.drop off).take n)=rv at *
 simp only [setH,go_sem,f8]
 exact qX (kp.new n8) ⟨rfl,rfl,rfl⟩
def pageR (m:List Bl)(b on:Nat)(bs:List By)(cls:Int)(F:Fz)(M:Hp)(u:Value)(F':Fz)(M':Hp):Prop:=
 F'=F∧Keep M M'∧Old F M'∧∃a c,∃m':List Bl,u=.tuple #[.slice a m'.length c,.int .i64 cls]∧MemOwn 76 91 F M' a c m'∧(cls=0→MemSet m b on bs m')
theorem bk_at {m m':List Bl}(h:m'.map bkP=m.map bkP)(i:Nat):(yZ m' (i:Int)).st=(yZ m (i:Int)).st∧(yZ m' (i:Int)).l=(yZ m (i:Int)).l:=by
 have e:=congrArg (fun l=>l[i]?) h
 simp only [List.getElem?_map] at e
 unfold yZ
 rw [Int.toNat_natCast]
 cases h1:m'[i]? <;> cases h2:m[i]? <;> rw [h1,h2] at e <;> simp [bkP] at e ⊢
 exact e
theorem memSet_of {m m1:List Bl}{b on:Nat}{bs:List By}(hb:b < m1.length)(h:m1.map bkP=m.map bkP){x:Bl}(hs:x.st=(m1[b]).st)(hl:x.l=splice (m1[b]).l on bs):MemSet m b on bs (m1.set b x):=by
 have hlen:m1.length=m.length:=by have:=congrArg List.length h; simpa using this
 have ha:∀i:Nat,yZ (m1.set b x) (i:Int)=if i=b then x else yZ m1 (i:Int):=fun i=>by
  unfold yZ
  rw [Int.toNat_natCast,List.getElem?_set]
  by_cases e:i=b
  ·rw [if_pos e.symm,if_pos e]
   simp [hb]
  ·rw [if_neg (Ne.symm e),if_neg e]
 have hbb:=yH hb
 refine ⟨by rw [List.length_set,hlen],fun i=>?_,fun i=>?_⟩
 ·rw [ha]
  split
  ·rename_i e; subst e; rw [hs,←hbb]; exact (bk_at h _).1
  ·exact (bk_at h i).1
 ·rw [ha]
  split
  ·rename_i e; subst e; rw [hl,←hbb,(bk_at h _).2]
  ·exact (bk_at h i).2
def psI (x:Bl)(bs:List By)(on:Nat)(g z:Nat)(F0:Fz)(M0:Hp)(i:Nat)(σ:Env)(F:Fz)(M:Hp):Prop:=
 F0=F∧M=M0.upd g ⟨(splice x.l on (bs.take i)).flatMap By.cs,91,z⟩∧Ax.look σ 14=some (.int .i64 i)
theorem k16 (big:Bool)(ptr k:Int)(n:Nat)(s:Sc)(a:Option Addr)(c:Nat)(m:List Bl)(b off:Nat)(h:RdG 2 Bl.cs F M (.slice a m.length c) m)(hr:∀x∈m,RdG 5 By.cs F M (.slice x.lA x.l.length x.lC) x.l)(hold:Old F M)(hp:ptr=2∨ptr=4)(hb:b < m.length)(hst:(m[b]).st=1)(hn:sizeK ptr k=n)(hn1:1≤n∧n≤4)(ho:off≤1000)(hml:m.length≤1000)(hl:∀x∈m,x.l.length≤1000) :
  CallsA Tryz.prog 16 [.agg #[.bool big,.int .i64 ptr],.slice a m.length c,(Sc.mk true 0 b off).val,.int .i64 k,s.val] F M (pageR m b off (putL big n s) (jK n (m[b]).l.length off) F M):=by
 refine qZ hm Tryz.func16 e16 (Nat.le_of_ble_eq_true rfl) ?_
 have hlb:=hl _ (List.getElem_mem hb)
 simp only [c16,go_sem]
 intro r5 hF5 hM5
 generalize eQ:M.upd r5 ⟨[.bool big,.int .i64 ptr],23,2⟩=M1 at *
 obtain ⟨kp5,old5,f5⟩:=nw eQ hold hF5 hM5
 clear eQ
 simp only [go_sem]
 intro r7 hF7 hM7
 generalize eQ:M1.upd r7 ⟨(Sc.mk true 0 b off).cs,50,4⟩=M2 at *
 obtain ⟨kp7,old7,f7⟩:=nw eQ old5 hF7 hM7
 clear eQ
 simp only [go_sem]
 intro r9 hF9 hM9
 generalize eQ:M2.upd r9 ⟨s.cs,50,4⟩=M3 at *
 obtain ⟨kp9,old9,f9⟩:=nw eQ old7 hF9 hM9
 clear eQ
 have kp:=(kp5.trans kp7).trans kp9
 have f73:=kp9 _ _ f7
 have f53:=kp9 _ _ (kp7 _ _ f5)
 have b5:=qG (F:=F) f53
 have b7:=qG (F:=F) f73
 have b9:=qG (F:=F) f9
 have h3:=h.keep kp old9
 have hr3:=fun x hx=>(hr x hx).keep kp old9
 have kr:=k34 F M3 big ptr k n a c m b off h3 old9 hb hst hn hn1 ho hlb
 have kc:=k35 F M3 a c m h3 hr3 old9 (by omega) (fun x hx=>by have:=hl x hx; omega)
 clear kp5 kp7 kp9 old5 old7 hF5 hM5 hF7 hM7 hF9 hM9 f5 f7
 simp only [go_sem,b5,b7]
 with_reducible refine qQ kr ?_
 by_cases hs:jK n (m[b]).l.length off=0
 rotate_left
 ·simp only [go_sem,hs]
  with_reducible refine qY kc ?_
  rintro u F' M4 ⟨rfl,kp4,old4,a',c',m',rfl,hbk,own,_⟩
  refine ⟨(fun h=>by cases h),?_⟩
  simp only [go_sem]
  exact qW ⟨rfl,kp.trans kp4,old4,a',c',m',rfl,own,fun h=>absurd h hs⟩
 simp only [go_sem,hs]
 with_reducible refine qY kc ?_
 rintro u F' M4 ⟨rfl,kp4,old4,a',c',m',rfl,hbk,own,_,hnew⟩
 refine ⟨(fun h=>by cases h),?_⟩
 have hlen':m'.length=m.length:=by have:=congrArg List.length hbk; simpa using this
 have hb':b < m'.length:=by omega
 have hbl':(m'[b]).st=(m[b]).st∧(m'[b]).l=(m[b]).l:=by
  have:=bk_at hbk b
  rw [yH hb,yH hb'] at this; exact this
 have hfit:¬((m[b]).l.length:Int) < off+n:=fun hlt=>by unfold jK at hs; rw [if_pos hlt] at hs; cases hs
 rw [←hbl'.2] at hfit hlb
 have f54:=kp4 _ _ f53
 have f74:=kp4 _ _ f73
 have f94:=kp4 _ _ f9
 have b54:=qG (F:=F') f54
 have b74:=qG (F:=F') f74
 have b94:=qG (F:=F') f94
 have kP:=k36 F' M4 big ptr k s hp old4
 rw [hn,Int.toNat_natCast] at kP
 simp only [go_sem,b54,b94]
 with_reducible refine qY kP ?_
 rintro u F5 M5 hrow
 have ownP:=hrow.own
 have hnP:∀g w d,u=.slice (some ⟨g,0,none⟩) w d→M4 g=none:=fun g w d e=>by
  obtain ⟨_,hr⟩:=hrow
  rcases hr with ⟨_,h1,_⟩ | ⟨g',cap,_,h2,h1,_⟩
  ·rw [h1] at e; cases e
  ·rw [h1] at e; cases e; exact h2
 obtain ⟨hG,le5,kp5,o5,aP,cP,rfl,rdP⟩:=hrow.le By.len (by rw [gV]; omega)
 subst hG
 refine ⟨(fun h=>by cases h),?_⟩
 have old5:=o5 old4
 have own5:=own.keep kp5
 have f75:=kp5 _ _ f74
 clear hrow b54 b74 b94 f54 f94 kc kr kP b5 b7 b9 h3 hr3
 rcases own5.rows _ (List.getElem_mem hb') with ⟨e,el⟩ | ⟨g,cap,e,hFg,hMg,hlc,hcm⟩
 ·rw [el] at hfit; simp at hfit; omega
 injection e with e1 e2 e3
 have hg4:M4 g=some ⟨(m'[b]).l.flatMap By.cs,91,cap * 5⟩:=by
  rcases own.rows _ (List.getElem_mem hb') with ⟨e,el⟩ | ⟨g',cap',e,_,hMg',_⟩
  ·rw [el] at hfit; simp at hfit; omega
  ·injection e with e1' e2' e3'
   rw [e1] at e1'
   injection e1' with e1'
   injection e1' with e1'
   subst e1'
   rw [hMg',←e3',←e3]
 obtain ⟨gr,orr,csr,ear,hbr,rowsr⟩:=(own5.row.rd Bl.len (by omega)).rows (by omega)
 obtain ⟨g1,g2⟩:=rowsr b hb'
 clear rowsr
 obtain ⟨g2,g3⟩:=Bl.row g2
 have hgr:¬gr=g:=by
  rintro rfl
  rcases own5.row with ⟨_,el⟩ | ⟨g',cap',e',_,hM',_⟩
  ·rw [el] at hb'; cases hb'
  ·rw [ear] at e'
   injection e' with e' _ _
   injection e' with e'
   injection e' with e'
   subst e'
   rw [hMg] at hM'
   injection hM' with hM'
   injection hM' with _ hM' _
   exact absurd hM' (by decide)
 obtain ⟨gp,op,csp,eap,hbp,rowsp⟩:=(ownP.rd By.len (by rw [gV]; omega)).rows (by rw [gV]; omega)
 have hgp:¬gp=g:=by
  rintro rfl
  rcases ownP with ⟨e',_⟩ | ⟨g',cap',e',_⟩
  ·rw [eap] at e'; cases e'
  ·have hop:=e'
   rw [eap] at hop
   injection hop with hop _ _
   injection hop with hop
   injection hop with hop
   subst hop
   rw [hnP _ _ _ e'] at hg4; cases hg4
 have h7g:¬r7=g:=by
  rintro rfl
  rw [f75] at hMg
  injection hMg with hMg
  injection hMg with _ hMg _
  exact absurd hMg (by decide)
 have hMg0:M g=none:=by
  have:=hnew _ (List.getElem_mem hb') g e1
  exact kp.free this
 have hPl:=gV big n s
 simp only [go_sem]
 refine yX n (psI (m'[b]) (putL big n s) off g (cap * 5) F5 M5) ⟨rfl,by rw [List.take_zero,splice_nil,upd_self hMg],(by simp only [go_sem, *] <;> rfl)⟩ ?_
 rintro i σ F' M' hi hst' ⟨rfl,rfl,q14⟩
 have q1:=hst' 1 rfl
 have q3:=hst' 3 rfl
 have q7:=hst' 7 rfl
 have q13:=hst' 13 rfl
 simp only [go_sem] at q1 q3 q7 q13
 clear hst'
 by_cases hil:(i:Int) < n
 rotate_left
 ·have hin:i=n:=by omega
  rw [List.take_of_length_le (by omega)]
  simp only [go_sem,q1,q13,q14,hPl,hil]
  refine qW ⟨rfl,?_,old5.upd hFg,a',c',m'.set b ⟨(m'[b]).st,(m'[b]).lA,(m'[b]).lC,splice (m'[b]).l off (putL big n s)⟩,?_,own5.lay (by decide) hb' e1 hMg (splice_len (by omega)),fun _=>?_⟩
  ·exact ((kp.trans kp4).trans kp5).new hMg0
  ·rw [List.length_set]
  ·exact memSet_of hb' hbk rfl rfl
 have hi0:(0:Int)≤i:=by omega
 have hi1:i < n:=by omega
 have hi2:i < (putL big n s).length:=by omega
 have ei:IntKind.i64.wrap ((i:Int)+1)=i+1:=w64 (by omega) (by omega)
 have eo:IntKind.i64.wrap ((off:Int)+i)=((off+i:Nat):Int):=by rw [w64 (by omega) (by omega)]; omega
 have eo0:(0:Int)≤((off+i:Nat):Int):=by omega
 have eo1:((off+i:Nat):Int) < (m'[b]).l.length:=by omega
 have hb0:(0:Int)≤b:=by omega
 have hbl:(b:Int) < m'.length:=by omega
 obtain ⟨p1,p2⟩:=rowsp i hi2
 clear rowsp
 have hstep:=splice_step (l:=(m'[b]).l) (bs:=putL big n s) (at_:=off) (i:=i) (by omega) hi2
 have hsl:=splice_len (l:=(m'[b]).l) (at_:=off) (bs:=(putL big n s).take i) (by rw [List.length_take]; omega)
 have hfs:=flatG_set By.len (putL big n s)[i] (splice (m'[b]).l off ((putL big n s).take i)) (off+i) (by omega)
 have hfl:(off+i) * 5+5≤((splice (m'[b]).l off ((putL big n s).take i)).flatMap By.cs).length:=by rw [gW By.len,hsl]; omega
 rw [hstep] at hfs
 have hMg':∀e,(M5.upd g e) g=some e:=fun e=>Hp.qJ _ _ _
 have b7':∀e,blk F5 (M5.upd g e) r7=some (Sc.mk true 0 b off).cs:=fun e=>by rw [blk_upd_ne h7g]; exact qG f75
 have br':∀e,blk F5 (M5.upd g e) gr=some csr:=fun e=>by rw [blk_upd_ne hgr]; exact hbr
 have bp':∀e,blk F5 (M5.upd g e) gp=some csp:=fun e=>by rw [blk_upd_ne hgp]; exact hbp
 rw [ear] at q1
 rw [eap] at q13
 generalize putL big n s=bs at *
 generalize hX:(m'[b]).l=X at *
 rw [e1] at g3
 generalize bs[i]=y at *
 simp only [setH,Hp.wG,go_sem,q1,q7,q13,q14,hPl,hil,hi0,hb0,hbl,Int.toNat_natCast,Nat.zero_add,b7',br',bp',g3,p1,p2,eo,eo0,eo1,hMg',hfs,hfl,ei]
 exact ⟨hi1,rfl,by rw [hX],(by simp only [go_sem, *] <;> rfl)⟩
def inRdP (l:List Int)(n:Int)(F:Fz)(M:Hp)(u:Value)(F':Fz)(M':Hp):Prop:=F'=F∧M'=M∧∃z,u=.int .i64 z∧(z < 0↔n ∉ l)
theorem inRd (a:Option Addr)(c:Nat)(l:List Int)(n:Int)(h:intR F M a c l)(hl:l.length≤100000) :
  CallsA Tryz.prog 45 [.slice a l.length c,.int .i64 n] F M (inRdP l n F M):=by
 refine qZ hm Tryz.func45 e45 (Nat.le_of_ble_eq_true rfl) ?_
 simp only [c45,go_sem]
 refine yX l.length (fun i σ F' M'=>F=F'∧M=M'∧Ax.look σ 5=some (.int .i64 i)∧n ∉ l.take i) ⟨rfl,rfl,(by simp only [go_sem, *] <;> rfl),by simp⟩ ?_
 rintro i σ F' M' hi hst ⟨rfl,rfl,q5,hn⟩
 have q0:=hst 0 rfl
 have q1:=hst 1 rfl
 simp only [go_sem] at q0 q1
 clear hst
 by_cases hil:(i:Int) < l.length
 rotate_left
 ·rw [List.take_of_length_le (by omega)] at hn
  simp only [go_sem,q0,q5,hil]
  exact qW ⟨rfl,rfl,-1,rfl,by simp [hn]⟩
 have hi0:(0:Int)≤i:=by omega
 have hi1:i < l.length:=by omega
 have ei:IntKind.i64.wrap ((i:Int)+1)=i+1:=w64 (by omega) (by omega)
 obtain ⟨b,o,cs,rfl,hb,d1⟩:=Ax.gH h hi1
 have t1:=List.take_succ_eq_append_getElem hi1
 have hm:=List.getElem_mem hi1
 generalize l[i]=x at *
 by_cases he:x=n
 ·simp only [go_sem,q0,q1,q5,hil,hi0,Int.toNat_natCast,hb,d1,he]
  refine qW ⟨rfl,rfl,i,rfl,⟨fun h=>by omega,fun h=>absurd (he ▸ hm) h⟩⟩
 ·simp only [go_sem,q0,q1,q5,hil,hi0,Int.toNat_natCast,hb,d1,he,ei]
  exact ⟨hi1,rfl,rfl,(by simp only [go_sem, *] <;> rfl),by rw [t1]; simp only [List.mem_append,List.mem_singleton,not_or]; exact ⟨hn,fun e=>he e.symm⟩⟩
theorem classRd (a:Option Addr)(c:Nat)(l:List Int)(n:Int)(h:intR F M a c l)(hl:l.length≤100000) :
  CallsA Tryz.prog 20 [.slice a l.length c,.int .i64 n] F M (Same F M (.bool (decide (n∈l)))):=by
 refine qZ hm Tryz.func20 e20 (Nat.le_of_ble_eq_true rfl) ?_
 simp only [c20,go_sem]
 refine qY (inRd F M a c l n h hl) ?_
 rintro w G M' ⟨hG,hM,z,rfl,hz⟩
 rw [hG,hM]
 refine ⟨(fun h=>by cases h),?_⟩
 simp only [go_sem]
 refine qW ⟨?_,rfl,rfl⟩
 have:decide (0≤z)=decide (n∈l):=by
  by_cases hn:n∈l
  ·have:¬z < 0:=fun h=>hz.1 h hn
   simp [hn]; omega
  ·have:=hz.2 hn
   simp [hn]; omega
 rw [this]
theorem k24 (k:Int)(r:Sc × Int)(v:V)(u:Value)(l:List Ba)(ba:Option Addr)(bc:Nat)(bads:List Int)(h:RdG 7 Ba.cs F M u l)(hbd:intR F M ba bc bads)(hold:Old F M)(hf:FoundIs k r v l bads) :
  CallsA Tryz.prog 24 [.int .i64 k,abV v u,.slice ba bads.length bc,r.1.val,.int .i64 r.2] F M (Same F M (.bool true)):=by
 refine qZ hm Tryz.func24 e24 (Nat.le_of_ble_eq_true rfl) ?_
 obtain ⟨s,bad⟩:=r
 simp only [c24,go_sem]
 intro r6 hF6 hM6
 generalize eQ:M.upd r6 ⟨yJ v u,62,7⟩=M1 at *
 obtain ⟨kp6,old6,f6⟩:=nw eQ hold hF6 hM6
 clear eQ
 simp only [go_sem]
 intro r8 hF8 hM8
 generalize eQ:M1.upd r8 ⟨s.cs,50,4⟩=M2 at *
 obtain ⟨kp8,old8,f8⟩:=nw eQ old6 hF8 hM8
 clear eQ
 have kp:=kp6.trans kp8
 have b6:=qG (F:=F) (kp8 _ _ f6)
 have b8:=qG (F:=F) f8
 have h2:=h.keep kp old8
 have hb2:=hbd.keep kp old8
 rcases hf with ⟨h0,rfl,h1⟩ | ⟨h0,rfl,h1⟩
 ·have h0':bad=0:=h0
  have ko:=k52 F M2 k v u l h2 (by have:=(abs_pre h1.may).1; omega) (fun h=>((abs_pre h1.may).2.1 h).1) (fun t ht=>⟨((abs_pre h1.may).2.2 t ht).1,((abs_pre h1.may).2.2 t ht).2.1,((abs_pre h1.may).2.2 t ht).2.2.1⟩)
  rw [h1.only] at ko
  simp only [go_sem,b6,h0']
  with_reducible refine qQ ko ?_
  simp only [go_sem]
  intro r11 hF11 hM11
  simp only [setH,Hp.wG,go_sem]
  have kp11:Keep M2 (M2.upd r11 ⟨s.cs,50,4⟩):=(Keep.refl _).new hM11
  have b11:blk F (M2.upd r11 ⟨s.cs,50,4⟩) r11=some s.cs:=wY
  have b8':=qG (F:=F) (kp11 _ _ f8)
  generalize M2.upd r11 ⟨s.cs,50,4⟩=M3 at *
  simp only [go_sem,b8']
  exact qX (kp.trans kp11) ⟨rfl,rfl,rfl⟩
 ·have h0':¬bad=0:=h0
  have ke:=k51 F M2 k v u l h2 h1.may
  rw [h1.empty] at ke
  obtain ⟨b,o,cs,rfl,hb,d1⟩:=Ax.gH hb2 (i:=0) (by simp)
  simp only [Nat.zero_mul,Nat.add_zero,List.getElem_cons_zero] at d1
  simp only [go_sem,b6,h0']
  with_reducible refine qQ ke ?_
  simp only [go_sem,hb,d1,Int.toNat_zero,Nat.zero_mul,Nat.add_zero]
  exact qX kp ⟨rfl,rfl,rfl⟩
theorem beginM (p:Pg)(h:p.rdM F M)(hold:Old F M)(hv:∀n∈p.vars,0≤n∧n≤32):CallsA Tryz.prog 11 [p.val] F M (beginR p F M):=by
 refine (CallsA.lendAll (Q:=fun v N=>∃s:Ste,v=s.val∧s.blocks.map bkP=(0,[]) :: p.vars.map varP++p.news.map (fun _=>(0,[]))∧s.next=p.main∧s.inp=0∧s.p=0∧s.w=0∧s.rd (F.all M) N) hold ((k11 (F.all M) noHp p h.lent (Old.start _) hv).mono ?_)).mono ?_
 ·rintro v F' N ⟨rfl,kp,old,s,hs⟩
  exact ⟨rfl,kp,old,s,hs⟩
 ·rintro v F' M' ⟨rfl,kp,old,N,rfl,hN,s,h1,h2,h3,h4,h5,h6,h7⟩
  exact ⟨rfl,kp,old,s,h1,h2,h3,h4,h5,h6,h7.all hN⟩
theorem ofM (p:Pg)(s:Ste)(h:p.rdM F M)(hold:Old F M)(hs:s.rd F M):CallsA Tryz.prog 29 [p.val,s.val] F M (ofR p s F M):=by
 refine (CallsA.lendAll (Q:=fun v N=>∃e:En,∃n:Int,v=.tuple #[e.val,.int .i64 n]∧e.rd (F.all M) N∧((yK p=true∧stateB p s=true∧n=0∧e.pe=justV p s.blocks)∨(¬(yK p=true∧stateB p s=true)∧n=1∧e=noEnv))) hold ((k29 (F.all M) noHp p s h.lent (Old.start _) (hs.lent (Old.start _))).mono ?_)).mono ?_
 ·rintro v F' N ⟨rfl,kp,old,e,hs⟩
  exact ⟨rfl,kp,old,e,hs⟩
 ·rintro v F' M' ⟨rfl,kp,old,N,rfl,hN,e,n,h1,h2,h3⟩
  exact ⟨rfl,kp,old,e,n,h1,h2.all hN,h3⟩
theorem hasM (p:Pg)(e:En)(s:Ste)(hp:p.rdM F M)(h:e.rd F M)(hs:s.rd F M)(hfe:e.cells.length≤100000∧e.news.length≤100000) :
  CallsA Tryz.prog 56 [p.val,e.val,s.val] F M (Same F M (if yK p=true∧envB p e.pe=true∧stateB p s=true then .tuple #[.bool (inEnv p e.pe s.blocks),.int .i64 0] else .tuple #[.bool false,.int .i64 1])):=
 CallsA.lendSame (k56 (F.all M) noHp p e s hp.lent (Old.start _) (h.lent (Old.start _)) (hs.lent (Old.start _)) hfe)
theorem exactM (p:Pg)(e:En)(s:Ste)(hp:p.rdM F M)(h:e.rd F M)(hs:s.rd F M)(hc:yK p=true)(hfm:FitM p s.blocks)(hfc:(∀c∈e.cells,FitC p s.blocks c.pc)∧e.news.length=p.news.length) :
  CallsA Tryz.prog 57 [p.val,e.val,s.val] F M (Same F M (.bool (exactB p e.pe s.blocks))):=
 CallsA.lendSame (k57 (F.all M) noHp p e s hp.lent (Old.start _) (h.lent (Old.start _)) (hs.lent (Old.start _)) hc hfm hfc)
theorem small_may (a b c:Option Addr):yK (smallP a b c)=true:=by rfl
theorem small_blocks {a b c:Option Addr}{m:List Bl}(h:m.map bkP=(0,[]) :: (smallP a b c).vars.map varP++(smallP a b c).news.map (fun _=>(0,[]))):∃a0 c0 a1 c1,m=[⟨0,a0,c0,[]⟩,⟨1,a1,c1,[⟨0,0,0,0,0⟩]⟩]:=by
 have h:m.map bkP=[(0,[]),(1,[⟨0,0,0,0,0⟩])]:=h
 match m,h with
 | [x,y],h=>
  simp only [List.map_cons,List.map_nil,List.cons.injEq,and_true] at h
  obtain ⟨h1,h2⟩:=h
  obtain ⟨s1,a1,c1,l1⟩:=x
  obtain ⟨s2,a2,c2,l2⟩:=y
  simp only [bkP,Prod.mk.injEq] at h1 h2
  obtain ⟨rfl,rfl⟩:=h1
  obtain ⟨rfl,rfl⟩:=h2
  exact ⟨a1,c1,a2,c2,rfl⟩
 | [],h=>simp at h
 | [x],h=>simp at h
 | x :: y :: z :: m,h=>simp at h
theorem small_exact (a b c a0 a1:Option Addr)(c0 c1:Nat):exactB (smallP a b c) (justV (smallP a b c) [⟨0,a0,c0,[]⟩,⟨1,a1,c1,[⟨0,0,0,0,0⟩]⟩]) [⟨0,a0,c0,[]⟩,⟨1,a1,c1,[⟨0,0,0,0,0⟩]⟩]=true:=by rfl
theorem small_env (a b c a0 a1:Option Addr)(c0 c1:Nat):envB (smallP a b c) (justV (smallP a b c) [⟨0,a0,c0,[]⟩,⟨1,a1,c1,[⟨0,0,0,0,0⟩]⟩])=true:=by rfl
theorem rdM_keep {F:Fz}{M M':Hp}{p:Pg}(h:p.rdM F M)(kp:Keep M M')(o:Old F M'):p.rdM F M':=
 ⟨h.vars.keep kp o,h.news.keep kp o,h.exprs.keep kp o,h.stmts.keep kp o,h.main.keep kp o,fun s hs=>⟨(h.bodies s hs).1.keep kp o,(h.bodies s hs).2.keep kp o⟩,h.zero,h.few⟩
theorem k26 (hold:Old F M):CallsA Tryz.prog 26 [] F M (Same F M (.bool true)):=by
 refine qZ hm Tryz.func26 e26 (Nat.le_of_ble_eq_true rfl) ?_
 simp only [c26,go_sem]
 with_reducible refine qY (k55 F M hold) ?_
 rintro u F' M1 ⟨rfl,kp1,old1,a,b,c,rfl,hp1⟩
 refine ⟨(fun h=>by cases h),?_⟩
 have hmay:=small_may a b c
 have hfl:∀n∈(smallP a b c).vars,0≤n∧n≤32:=fun n hn=>by
  simp only [smallP,List.mem_singleton] at hn
  omega
 have hsb:∀{m:List Bl},m.map bkP=(0,[]) :: (smallP a b c).vars.map varP++(smallP a b c).news.map (fun _=>(0,[]))→∃a0 c0 a1 c1,m=[⟨0,a0,c0,[]⟩,⟨1,a1,c1,[⟨0,0,0,0,0⟩]⟩]:=fun h=>small_blocks h
 have hmn:(smallP a b c).main=[0]:=rfl
 have hex:=fun a0 a1 c0 c1=>small_exact a b c a0 a1 c0 c1
 have hst:∀s:Ste,(∃a0 c0 a1 c1,s.blocks=[⟨0,a0,c0,[]⟩,⟨1,a1,c1,[⟨0,0,0,0,0⟩]⟩])→s.next=[0]→s.inp=0→s.p=0→s.w=0→stateB (smallP a b c) s=true:=by
  rintro ⟨x1,x2,m,x3,x4,nx,i1,i2,i3⟩ ⟨a0,c0,a1,c1,h1⟩ h2 h3 h4 h5
  simp only at h1 h2 h3 h4 h5
  subst h1 h2 h3 h4 h5
  rfl
 have hev:=fun a0 a1 c0 c1=>small_env a b c a0 a1 c0 c1
 generalize smallP a b c=p at *
 simp only [go_sem]
 intro r1 hF1 hM1
 simp only [setH,Hp.wG,go_sem]
 have kp2:Keep M (M1.upd r1 ⟨p.cs,28,7⟩):=kp1.new (kp1.free hM1)
 have kp12:Keep M1 (M1.upd r1 ⟨p.cs,28,7⟩):=(Keep.refl M1).new hM1
 have old2:Old F' (M1.upd r1 ⟨p.cs,28,7⟩):=old1.upd hF1
 have f1:(M1.upd r1 ⟨p.cs,28,7⟩) r1=some ⟨p.cs,28,7⟩:=Hp.qJ _ _ _
 have hp2:=rdM_keep hp1 kp12 old2
 generalize M1.upd r1 ⟨p.cs,28,7⟩=M2 at *
 clear hp1 kp12 kp1 old1 hM1 hF1
 with_reducible refine qY (beginM F' M2 p hp2 old2 hfl) ?_
 rintro u F2 M3 ⟨rfl,kp3,old3,s,rfl,hb,hn,h0,h1,h2,hs⟩
 refine ⟨(fun h=>by cases h),?_⟩
 obtain ⟨a0,c0,a1,c1,hm'⟩:=hsb hb
 have hst:=hst s ⟨a0,c0,a1,c1,hm'⟩ (by rw [hn,hmn]) h0 h1 h2
 simp only [go_sem]
 intro r2 hF2 hM2
 simp only [setH,Hp.wG,go_sem]
 have kp24:Keep M2 (M3.upd r2 ⟨s.cs,42,5⟩):=kp3.new (kp3.free hM2)
 generalize eQ:M3.upd r2 ⟨s.cs,42,5⟩=M4 at *
 obtain ⟨kp34,old4,f2⟩:=nw eQ old3 hF2 hM2
 clear eQ
 have hp4:=rdM_keep hp2 kp24 old4
 have hs4:=hs.keep kp34 old4
 have f1':=kp24 _ _ f1
 have b1:=qG (F:=F2) f1'
 have b2:=qG (F:=F2) f2
 clear kp3 kp34 old3 hF2 hM2 hp2 hs
 have hnoE:envB p (En.pe ⟨true,none,0,[],none,0,[]⟩)=true:=by unfold envB; simp [En.pe]
 have hnoR:(⟨true,none,0,[],none,0,[]⟩:En).rd F2 M4:=⟨gX,(fun x hx=>by cases hx),gX,(fun _=>rfl),(fun _=>rfl),(fun x hx=>by cases hx)⟩
 have hnoI:inEnv p (En.pe ⟨true,none,0,[],none,0,[]⟩) s.blocks=false:=rfl
 have kH:=hasM F2 M4 p ⟨true,none,0,[],none,0,[]⟩ s hp4 hnoR hs4 ⟨by decide,by decide⟩
 rw [if_pos ⟨hmay,hnoE,hst⟩,hnoI] at kH
 have eN:Value.agg #[.bool true,.slice none 0 0,.slice none 0 0]=En.val ⟨true,none,0,[],none,0,[]⟩:=rfl
 simp only [go_sem,b1,b2,eN]
 with_reducible refine qQ kH ?_
 simp only [go_sem,b1,b2]
 with_reducible refine qY (ofM F2 M4 p s hp4 old4 hs4) ?_
 rintro u F3 M5 ⟨rfl,kp5,old5,x,n,rfl,hx,hcase⟩
 refine ⟨(fun h=>by cases h),?_⟩
 rcases hcase with ⟨_,_,rfl,hpe⟩ | ⟨h,_⟩
 rotate_left
 ·exact absurd ⟨hmay,hst⟩ h
 have hp5:=rdM_keep hp4 kp5 old5
 have hs5:=hs4.keep kp5 old5
 have f1'':=kp5 _ _ f1'
 have f2'':=kp5 _ _ f2
 simp only [go_sem]
 intro r5 hF5 hM5
 simp only [setH,Hp.wG,go_sem]
 generalize eQ:M5.upd r5 ⟨x.cs,46,3⟩=M6 at *
 obtain ⟨kp6,old6,f5⟩:=nw eQ old5 hF5 hM5
 clear eQ
 have hp6:=rdM_keep hp5 kp6 old6
 have hs6:=hs5.keep kp6 old6
 have hx6:=hx.keep kp6 old6
 have b16:=qG (F:=F3) (kp6 _ _ f1'')
 have b26:=qG (F:=F3) (kp6 _ _ f2'')
 have b56:=qG (F:=F3) f5
 have hfm:FitM p s.blocks:=FitM.of (by unfold stateB at hst; simp only [Bool.and_eq_true] at hst; exact hst.2)
 have hevx:envB p x.pe=true:=by rw [hpe,hm']; exact hev _ _ _ _
 have hnox:x.no=false:=by
  have:x.pe.no=false:=by rw [hpe]; rfl
  exact this
 have hec:=envB_cells hevx hnox
 have kE:=exactM F3 M6 p x s hp6 hx6 hs6 hmay hfm ⟨fun c hc=>FitC.of hfm (hec.1 _ (by simp only [En.pe]; exact List.mem_map_of_mem hc)),hec.2.1⟩
 have hexx:exactB p x.pe s.blocks=true:=by rw [hpe,hm']; exact hex _ _ _ _
 rw [hexx] at kE
 with_reducible refine qQ (k19 F3 M6 0) ?_
 simp only [go_sem]
 with_reducible refine qQ (k19 F3 M6 0) ?_
 simp only [go_sem,b16,b26,b56]
 with_reducible refine qQ kE ?_
 simp only [go_sem]
 exact qX (kp2.trans (kp24.trans (kp5.trans kp6))) ⟨rfl,rfl,rfl⟩
theorem k18 (k:Int)(s:Sc):CallsA Tryz.prog 18 [.int .i64 k,s.val] F M (cpR (if k=7 then V.zero else V.just (wK k) s.n) (oneL k s) F M):=by
 refine qZ hm Tryz.func18 e18 (Nat.le_of_ble_eq_true rfl) ?_
 simp only [c18,go_sem]
 intro r3 hF3 hM3
 simp only [go_sem]
 intro r4 hF4 hM4
 have g4:=wV hM4
 by_cases h7:k=7
 ·subst h7
  simp only [go_sem,g4]
  refine qQ (k44 _ _ 8 s.o) ?_
  simp only [go_sem]
  intro rb hFb hMb
  have gb:=wV hMb
  have gb2:=wV gb.2.2
  simp only [go_sem,gb]
  have kp:∀e,Keep M (((M.upd r3 ⟨s.cs,50,4⟩).upd r4 e).upd rb ⟨(oneL 7 s).flatMap Ba.cs,102,1 * 7⟩):=fun e=>(((Keep.refl M).new hM3).new g4.2.2).new gb2.2.2
  have hk:=fun e=>(kp e).one (Hp.qJ _ _ _)
  have el:(oneL 7 s).flatMap Ba.cs=(Ba.mk s.b (V.just 8 s.o)).cs:=by simp [oneL]
  rw [←el]
  exact qX (hk _) ⟨_,rfl,rfl,.inr ⟨rb,1,hFb,gb2.2.2,rfl,⟨by simp [oneL],by decide⟩,rfl⟩⟩
 ·simp only [go_sem,g4,h7]
  refine qQ (k15 _ _ k) ?_
  simp only [go_sem]
  refine qQ (k44 _ _ (wK k) s.n) ?_
  simp only [go_sem]
  refine qX (M:=M) (((Keep.refl M).new hM3).new g4.2.2) ⟨_,rfl,rfl,.inl ⟨by simp [oneL,h7],rfl,rfl⟩⟩
end Go.Proofs.Tryz.K
namespace Go.Ax
open Go
theorem cell_parts {ptr:Int}{sz:List Int}{c:Pc}(h:cellB ptr sz c=true):knownB c.l ((sz.length:Int) - 1)=true∧c.p.tmod (wX ptr c.k)=0:=by
 simp only [cellB,Bool.and_eq_true,decide_eq_true_eq] at h
 exact ⟨h.1.1.2,h.1.2⟩
theorem byte_num {x:By}(h:byteB x=true)(s1:x.st=1):x=⟨1,x.n,0,0,0⟩∧0≤x.n∧x.n≤255:=by
 simp only [byteB,s1,Int.reduceEq,if_false,if_true,Bool.and_eq_true,decide_eq_true_eq] at h
 obtain ⟨a,b,c,d,e⟩:=x
 simp only at h s1
 obtain ⟨⟨⟨h1,h2⟩,h3⟩,h4⟩:=h
 subst s1 h2 h3 h4
 exact ⟨rfl,h1⟩
theorem byte_no {x:By}(h:byteB x=true)(s1:¬x.st=1)(s2:¬x.st=2):x=⟨0,0,0,0,0⟩:=by
 simp only [byteB,s1,s2,if_false] at h
 by_cases s0:x.st=0
 ·rw [if_pos s0] at h; exact of_decide_eq_true h
 ·rw [if_neg s0] at h; cases h
theorem byte_pt {x:By}(h:byteB x=true)(s2:x.st=2):x=⟨2,0,x.b,x.o,x.i⟩:=by
 simp only [byteB,s2,Int.reduceEq,if_false,if_true,Bool.and_eq_true,decide_eq_true_eq] at h
 obtain ⟨a,b,c,d,e⟩:=x
 simp only at h s2
 have:=h.1.1.1
 subst s2 this
 rfl
theorem step_in {p:Pg}(hc:yK p=true){m:List Bl}(hm:FitM p m){b:Nat}(hb:1≤b∧b < m.length){at_:Nat}(hat:at_ < (yZ m (b:Int)).l.length) :
  CellIn p m (stepV p.big p.ptr.toNat b (yZ m (b:Int)).l at_).1:=by
 have hp:=(jW hc).1
 have hl:=sizes_len p
 have hl2:=hm.len
 obtain ⟨hst,hsz⟩:=alive_of hm (b:=b) (by omega) (by omega)
 have hbl:=yH (m:=m) (i:=b) hb.2
 obtain ⟨b1,b2,b3,b4⟩:=hm.bytes b hb.2
 have b6:=List.all_eq_true.1 (hm.ptrs b hb.2)
 rw [←hbl] at b1 b4 b6
 obtain ⟨ok,hpos,_⟩:=step_ok hc (b:=b) (by omega) hsz b1 b6 hat
 obtain ⟨kn,al⟩:=cell_parts ok.cell
 have e1:((wJ p).length:Int) - 1=(m.length:Int) - 1:=by omega
 rw [e1] at kn
 have mk:CanC (stepV p.big p.ptr.toNat b (yZ m (b:Int)).l at_).1→cutB p.ptr m (stepV p.big p.ptr.toNat b (yZ m (b:Int)).l at_).1=jZ p.big p.ptr (stepV p.big p.ptr.toNat b (yZ m (b:Int)).l at_).1→CellIn p m (stepV p.big p.ptr.toNat b (yZ m (b:Int)).l at_).1:=fun h1 h2=>
  ⟨h1,by rw [ok.blk]; omega,by rw [hpos]; omega,al,by rw [ok.blk]; exact ok.fits,kn,h2⟩
 refine mk ?_ ?_
 ·clear mk al kn ok hpos
  unfold stepV
  split
  ·rename_i hw
   obtain ⟨ok,_⟩:=ptr_ok hc (b:=b) (by omega) hsz b1 b6 hat hw
   have hco:=ok.cell
   simp only [cellB,Bool.and_eq_true,decide_eq_true_eq] at hco
   unfold wholeV at hw ⊢
   split at hw
   rotate_left
   ·cases hw
   rename_i hcond
   rw [if_pos hcond]
   simp only [Bool.and_eq_true,decide_eq_true_eq] at hw
   have hcut:(((yZ m (b:Int)).l.drop at_).take p.ptr.toNat).length=p.ptr.toNat:=cut_len hcond.2
   have hmem:∀x∈((yZ m (b:Int)).l.drop at_).take p.ptr.toNat,x∈(yZ m (b:Int)).l:=fun x hx=>List.mem_of_mem_drop (List.mem_of_mem_take hx)
   generalize ((yZ m (b:Int)).l.drop at_).take p.ptr.toNat=cu at *
   have hrd:yW p.big 7 cu=(⟨true,0,(yQ cu 0).b,(yQ cu 0).o⟩,0):=by
    have h2:=hw.1
    simp only [yW] at h2 ⊢
    split at h2
    ·cases h2
    rename_i h0
    rw [if_neg h0]
    simp only [if_true,jJ] at h2 ⊢
    split at h2
    ·rename_i h3; rw [if_pos h3]
    ·cases h2
   rw [hrd] at hw ⊢
   have hx:=byAt_in (l:=cu) (i:=0) (by omega)
   have hst2:=byte_ptr (b1 _ (hmem _ hx)) hw.2
   obtain ⟨q1,q2,q3,_,_⟩:=pt_in hc (b1 _ (hmem _ hx)) (b6 _ (hmem _ hx)) hst2
   exact .inr (.inr (.inl ⟨rfl,(yQ cu 0).b,(yQ cu 0).o,V.just 8 (yQ cu 0).o,rfl,rfl,Is1.just (by decide) (n8 (by omega)),by omega,by omega⟩))
  ·have hx:=byAt_in hat
   generalize yQ (yZ m (b:Int)).l at_=x at *
   have h1:=b1 _ hx
   have h2:=b6 _ hx
   unfold singleV
   split
   ·rename_i s1
    obtain ⟨_,n0,n1⟩:=byte_num h1 s1
    exact .inr (.inr (.inr ⟨(show isK 1=true from by decide),x.n,by rw [show wK 1=8 from by decide]; exact Is1.just (by decide) (n8 ⟨n0,n1⟩),rfl⟩))
   split
   ·rename_i s2
    obtain ⟨q1,q2,q3,q4,q5⟩:=pt_in hc h1 h2 s2
    exact .inr (.inl ⟨rfl,x.b,x.o,x.i,V.just 8 x.o,Is1.just (by decide) (n8 (by omega)),rfl,Is1.just (by decide) (n8 (by omega)),by omega,by omega,by omega⟩)
   ·exact .inl ⟨rfl,rfl,rfl⟩
 ·clear mk al kn hpos
  unfold cutB
  rw [ok.blk]
  clear ok
  unfold stepV
  split
  ·rename_i hw
   unfold wholeV at hw ⊢
   split at hw
   rotate_left
   ·cases hw
   rename_i hcond
   rw [if_pos hcond]
   simp only [Bool.and_eq_true,decide_eq_true_eq] at hw
   have hcut:(((yZ m (b:Int)).l.drop at_).take p.ptr.toNat).length=p.ptr.toNat:=cut_len hcond.2
   have hmem:∀x∈((yZ m (b:Int)).l.drop at_).take p.ptr.toNat,x∈(yZ m (b:Int)).l:=fun x hx=>List.mem_of_mem_drop (List.mem_of_mem_take hx)
   show ((yZ m (b:Int)).l.drop at_).take (wX p.ptr 7).toNat=_
   rw [span_7]
   generalize ((yZ m (b:Int)).l.drop at_).take p.ptr.toNat=cu at *
   have hrd:yW p.big 7 cu=(⟨true,0,(yQ cu 0).b,(yQ cu 0).o⟩,0)∧cu=ptrL (yQ cu 0).b (yQ cu 0).o cu.length:=by
    have h2:=hw.1
    simp only [yW] at h2 ⊢
    split at h2
    ·cases h2
    rename_i h0
    rw [if_neg h0]
    simp only [if_true,jJ] at h2 ⊢
    split at h2
    ·rename_i h3; rw [if_pos h3]; exact ⟨rfl,h3⟩
    ·cases h2
   rw [hrd.1] at hw ⊢
   have hx:=byAt_in (l:=cu) (i:=0) (by omega)
   have hst2:=byte_ptr (b1 _ (hmem _ hx)) hw.2
   obtain ⟨q1,q2,q3,_,_⟩:=pt_in hc (b1 _ (hmem _ hx)) (b6 _ (hmem _ hx)) hst2
   have e2:=hrd.2
   rw [hcut] at e2
   unfold jZ ptrC
   simp only [Int.reduceEq,if_false,if_true]
   rw [sole_only (Is1.just (by decide) (n8 (by omega))) q3]
   exact e2
  ·have t1:=take1 hat
   have hx:=byAt_in hat
   generalize yQ (yZ m (b:Int)).l at_=x at *
   have h1:=b1 _ hx
   have h2:=b6 _ hx
   unfold singleV
   split
   ·rename_i s1
    obtain ⟨e,n0,n1⟩:=byte_num h1 s1
    show ((yZ m (b:Int)).l.drop at_).take (wX p.ptr 1).toNat=_
    rw [span_1]
    show ((yZ m (b:Int)).l.drop at_).take 1=_
    rw [t1]
    unfold jZ
    simp only [Int.reduceEq,if_false]
    rw [span_1,(Is1.just (w:=8) (by decide) (n8 ⟨n0,n1⟩)).at_]
    obtain ⟨n,hn⟩:=Int.eq_ofNat_of_zero_le n0
    have hb0:byteV x.n 0=x.n:=by rw [hn,byteV_nat n 0 (by decide)]; simp; omega
    have:putL p.big 1 ⟨false,x.n,0,0⟩=[⟨1,byteV x.n 0,0,0,0⟩]:=by cases p.big <;> rfl
    show [x]=putL p.big 1 ⟨false,x.n,0,0⟩
    rw [this,hb0,←e]
   split
   ·rename_i s2
    obtain ⟨q1,q2,q3,q4,q5⟩:=pt_in hc h1 h2 s2
    show ((yZ m (b:Int)).l.drop at_).take (wX p.ptr 11).toNat=_
    rw [span_11]
    show ((yZ m (b:Int)).l.drop at_).take 1=_
    rw [t1]
    unfold jZ
    simp only [Int.reduceEq,if_false,if_true]
    rw [sole_only (Is1.just (by decide) (n8 (by omega))) q3,(Is1.just (w:=8) (n:=x.i) (by decide) (n8 (by omega))).at_,←byte_pt h1 s2]
   ·rename_i s1 s2
    show ((yZ m (b:Int)).l.drop at_).take (wX p.ptr 0).toNat=_
    rw [span_0]
    show ((yZ m (b:Int)).l.drop at_).take 1=_
    rw [t1,byte_no h1 s1 s2]
    rfl
theorem cellsAt_in {p:Pg}(hc:yK p=true){m:List Bl}(hm:FitM p m){b:Nat}(hb:1≤b∧b < m.length)(hst:(yZ m (b:Int)).st=1):∀(k at_:Nat),
  (∀c∈jV p.big p.ptr.toNat b (yZ m (b:Int)).l k at_,CellIn p m c∧c.b=b∧at_≤c.p)∧(jV p.big p.ptr.toNat b (yZ m (b:Int)).l k at_).Pairwise (ApartC p.ptr)
 | 0,at_=>⟨(fun c hc=>by cases hc),List.Pairwise.nil⟩
 | k+1,at_=>by
  rw [jV]
  split
  ·rename_i hat
   have hin:=step_in hc hm hb hat
   have hl:=sizes_len p
   have hl2:=hm.len
   obtain ⟨_,hsz⟩:=alive_of hm (b:=b) (by omega) (by omega)
   have hbl:=yH (m:=m) (i:=b) hb.2
   obtain ⟨b1,_⟩:=hm.bytes b hb.2
   have b6:=List.all_eq_true.1 (hm.ptrs b hb.2)
   rw [←hbl] at b1 b6
   obtain ⟨ok,hpos,hend⟩:=step_ok hc (b:=b) (by omega) hsz b1 b6 hat
   have hblk:=ok.blk
   have hsp:=ok.span
   generalize stepV p.big p.ptr.toNat b (yZ m (b:Int)).l at_=s at *
   obtain ⟨i1,i2⟩:=cellsAt_in hc hm hb hst k s.2
   refine ⟨fun c hcm=>?_,List.pairwise_cons.2 ⟨fun c hcm=>?_,i2⟩⟩
   ·rcases List.mem_cons.1 hcm with rfl | hcm
    ·exact ⟨hin,hblk,by omega⟩
    ·obtain ⟨h1,h2,h3⟩:=i1 c hcm
     exact ⟨h1,h2,by omega⟩
   ·obtain ⟨h1,h2,h3⟩:=i1 c hcm
    unfold ApartC
    omega
  ·exact ⟨(fun c hc=>by cases hc),List.Pairwise.nil⟩
theorem justL_in {p:Pg}(hc:yK p=true){m:List Bl}(hm:FitM p m):∀n,n≤m.length→
  (∀c∈justL p.big p.ptr.toNat m n,CellIn p m c∧c.b < n)∧(justL p.big p.ptr.toNat m n).Pairwise (ApartC p.ptr)
 | 0,_=>⟨(fun c hc=>by cases hc),List.Pairwise.nil⟩
 | n+1,hn=>by
  obtain ⟨i1,i2⟩:=justL_in hc hm n (by omega)
  rw [justL]
  have hbl:=yH (m:=m) (i:=n) (by omega)
  by_cases hs:(m[n]'(by omega)).st=1
  rotate_left
  ·have hd:(yZ m (n:Int)).l=[]:=by rw [hbl]; exact hm.dead n (by omega) hs
   rw [hd]
   simp only [List.length_nil,jV,List.append_nil]
   exact ⟨fun c hc=>⟨(i1 c hc).1,by have:=(i1 c hc).2; omega⟩,i2⟩
  have hn1:1≤n:=by
   rcases Nat.eq_zero_or_pos n with h0 | h0
   ·subst h0
    have:=hm.zero (by omega)
    omega
   ·exact h0
  obtain ⟨c1,c2⟩:=cellsAt_in hc hm (b:=n) ⟨hn1,by omega⟩ (by rw [hbl]; exact hs) (yZ m (n:Int)).l.length 0
  refine ⟨fun c hcm=>?_,List.pairwise_append.2 ⟨i2,c2,fun x hx y hy=>?_⟩⟩
  ·rcases List.mem_append.1 hcm with hcm | hcm
   ·exact ⟨(i1 c hcm).1,by have:=(i1 c hcm).2; omega⟩
   ·obtain ⟨h1,h2,_⟩:=c1 c hcm
    exact ⟨h1,by omega⟩
  ·have h1:=(i1 x hx).2
   have h2:=(c1 y hy).2.1
   exact .inl (by omega)
theorem justV_mir {p:Pg}(hc:yK p=true){m:List Bl}(hm:FitM p m):Mir p (justV p m).cells m:=by
 have hj:=justL_ok hc hm m.length (Nat.le_refl _)
 have hi:=justL_in hc hm m.length (Nat.le_refl _)
 refine ⟨fun c hcm=>(hi.1 c hcm).1,hj.2.1,hi.2,fun b j hj2=>?_⟩
 have hb:b < m.length:=by
  rcases Nat.lt_or_ge b m.length with h | h
  ·exact h
  ·unfold yZ at hj2
   rw [Int.toNat_natCast,List.getElem?_eq_none h] at hj2
   simp at hj2
 obtain ⟨c,hcm,hcov⟩:=hj.2.2.2 b hb j hj2
 refine ⟨c,hcm,?_⟩
 simp only [coverB,Bool.and_eq_true,decide_eq_true_eq] at hcov
 unfold OverC
 omega
theorem FitM.memIn {p:Pg}(hc:yK p=true){m:List Bl}(h:FitM p m):memIn p m=true:=by
 have hp:=jW hc
 have hl:=sizes_len p
 have hl2:=h.len
 unfold Go.Ax.memIn memoryB okAll
 simp only [Bool.and_eq_true,decide_eq_true_eq,List.all_eq_true]
 refine ⟨⟨⟨⟨⟨by omega,by omega⟩,?_⟩,fun x hx=>?_⟩,by omega⟩,fun i hi=>?_⟩
 ·unfold stAt
  rw [List.getElem?_eq_getElem (by omega:0 < m.length)]
  exact h.zero (by omega)
 ·obtain ⟨i,hi,rfl⟩:=List.getElem_of_mem hx
  obtain ⟨b1,b2,b3,b4⟩:=h.bytes i hi
  simp only [blockB,Bool.and_eq_true,Bool.or_eq_true,decide_eq_true_eq,List.all_eq_true]
  refine ⟨⟨⟨⟨b2,b3⟩,b4⟩,?_⟩,b1⟩
  by_cases hs:(m[i]).st=1
  ·exact .inl hs
  ·right; rw [h.dead i hi hs]; rfl
 ·have hi:=List.mem_range.1 hi
  rw [List.getElem?_eq_getElem hi]
  have h4:=h.ptrs i hi
  simp only [okBlk,h4,Bool.and_true,Bool.and_eq_true,Bool.not_eq_true',Bool.and_eq_false_iff,Bool.not_eq_false',decide_eq_true_eq,decide_eq_false_iff_not]
  refine ⟨?_,?_⟩
  ·by_cases hs:(m[i]).st=1
   ·exact .inr (h.size i hi hs)
   ·exact .inl hs
  ·by_cases h1:1≤(i:Int)
   ·by_cases h2:(i:Int)≤p.vars.length
    ·exact .inr (h.live i hi (by omega) (by omega))
    ·exact .inl (.inr h2)
   ·exact .inl (.inl h1)
def kindP (big:Bool)(ptr:Int)(a b c:Option Addr):Pg:=⟨big,ptr,a,2,[8,12],none,0,[],none,0,[],b,1,[⟨7,0,0,0,0,none,0,[],none,0,[]⟩],c,1,[0]⟩
theorem kind_may {big:Bool}{ptr:Int}(hp:ptr=2∨ptr=4)(a b c:Option Addr):yK (kindP big ptr a b c)=true:=by
 rcases hp with rfl | rfl <;> rfl
theorem kind_state (big:Bool)(ptr:Int)(a b c a0 a1 a2 a3 a4:Option Addr)(c0 c1 c2 c3 c4:Nat) :
  stateB (kindP big ptr a b c) ⟨a3,c3,[⟨0,a0,c0,[]⟩,⟨1,a1,c1,List.replicate 8 ⟨0,0,0,0,0⟩⟩,⟨1,a2,c2,List.replicate 12 ⟨0,0,0,0,0⟩⟩],a4,c4,[0],0,0,0⟩=true:=by rfl
structure KS (p:Pg)(s:Ste)(e:En):Prop where
 st:stateB p s=true
 mir:Mir p e.pe.cells s.blocks
 no:e.no=false
 news:e.news=[]
theorem state_mem' {p:Pg}{s:Ste}(h:stateB p s=true):memIn p s.blocks=true:=by
 unfold stateB at h; simp only [Bool.and_eq_true] at h; exact h.2
theorem state_fit {p:Pg}{s:Ste}(h:stateB p s=true):FitM p s.blocks:=FitM.of (state_mem' h)
theorem KS.fit {p:Pg}{s:Ste}{e:En}(h:KS p s e):FitM p s.blocks:=state_fit h.st
theorem newsV_nil {p:Pg}{m:List Bl}(hn:p.news=[])(hm:FitM p m):newsV p m=[]:=by
 have:=hm.len
 rw [hn] at this
 unfold newsV
 rw [List.drop_eq_nil_of_le (by simp at this; omega)]; rfl
theorem KS.pe {p:Pg}{s:Ste}{e:En}(h:KS p s e)(hn:p.news=[]):e.pe=⟨false,e.pe.cells,newsV p s.blocks⟩:=by
 rw [newsV_nil hn h.fit]
 have h1:=h.no
 have h2:=h.news
 unfold En.pe
 rw [h1,h2]
theorem KS.env {p:Pg}{s:Ste}{e:En}(h:KS p s e)(hc:yK p=true)(hn:p.news=[]):envB p e.pe=true:=by
 rw [h.pe hn]; exact h.mir.env h.fit hc
theorem KS.has {p:Pg}{s:Ste}{e:En}(h:KS p s e)(hc:yK p=true)(hn:p.news=[]):inEnv p e.pe s.blocks=true:=by
 rw [h.pe hn]; exact h.mir.has h.fit hc
theorem KS.fitC {p:Pg}{s:Ste}{e:En}(h:KS p s e)(hc:yK p=true)(hn:p.news=[]):(∀c∈e.cells,FitC p s.blocks c.pc)∧e.news.length=p.news.length:=by
 have h1:=envB_cells (h.env hc hn) (show e.pe.no=false from h.no)
 exact ⟨fun c hcm=>FitC.of h.fit (h1.1 _ (List.mem_map_of_mem hcm)),h1.2.1⟩
theorem KS.few {p:Pg}{s:Ste}{e:En}(h:KS p s e)(hc:yK p=true)(hn:p.news=[]):e.cells.length≤200∧e.news.length≤200:=by
 have h1:=envB_cells (h.env hc hn) (show e.pe.no=false from h.no)
 have h2:(e.cells.map Cl.pc).length≤200:=h1.2.2.2
 rw [List.length_map] at h2
 exact ⟨h2,by rw [h.news]; simp⟩
theorem KS.ne {p:Pg}{s:Ste}{e:En}(h:KS p s e)(hv:p.vars=[8,12]):¬e.cells=[]:=by
 intro h0
 have hf:=h.fit
 have hl:=hf.len
 rw [hv] at hl
 have h1:1 < s.blocks.length:=by simp at hl; omega
 have hs:=hf.size 1 h1 (hf.live 1 h1 (by omega) (by rw [hv]; decide))
 have e8:szAt (wJ p) ((1:Nat):Int)=8:=by unfold szAt wJ; rw [hv]; rfl
 rw [e8] at hs
 obtain ⟨c,hcm,_⟩:=h.mir.cover 1 0 (by rw [yH h1]; omega)
 have:e.pe.cells=[]:=by unfold En.pe; rw [h0]; rfl
 rw [this] at hcm; cases hcm
theorem kind_block {p:Pg}{m:List Bl}(hv:p.vars=[8,12])(hm:FitM p m){b:Nat}(hb:b=1∨b=2):∃h:b < m.length,(m[b]).st=1∧((m[b]).l.length:Int)=szAt (wJ p) b∧yZ m (b:Int)=m[b]∧(m[b]).l.length≤32:=by
 have hl:=hm.len
 rw [hv] at hl
 have h:b < m.length:=by simp at hl; omega
 have hs:=hm.live b h (by omega) (by rw [hv]; simp; omega)
 exact ⟨h,hs,hm.size b h hs,yH h,(hm.bytes b h).2.2.2⟩
def VS (q:Int)(s:Sc):Prop:=(q=7∧∃b o:Int,s=⟨true,0,b,o⟩∧(1≤b∧b≤2)∧0≤o∧o≤6)∨(isK q=true∧∃n,s=⟨false,n,0,0⟩∧0≤n∧n≤wH (wK q))
def oneW (q:Int)(s:Sc):V:=if q=7 then V.zero else V.just (wK q) s.n
theorem isK_7 {q:Int}(h:isK q=true):¬q=7∧¬q=0∧¬q=11:=by simp only [isK,Bool.and_eq_true,decide_eq_true_eq] at h; omega
theorem isW_wK {q:Int}(h:isK q=true):isW (wK q)=true:=by
 rcases isK_cases h with rfl | rfl | rfl | rfl | rfl | rfl <;> decide
theorem VS.can {q:Int}{s:Sc}(h:VS q s)(b on:Int):CanC ⟨b,on,q,oneW q s,oneL q s⟩:=by
 rcases h with ⟨rfl,b',o,rfl,hb,ho,ho2⟩ | ⟨hk,n,rfl,h0,h1⟩
 ·exact .inr (.inr (.inl ⟨rfl,b',o,V.just 8 o,rfl,rfl,Is1.just (by decide) (n8 (by omega)),by omega,by omega⟩))
 ·have:=isK_7 hk
  refine .inr (.inr (.inr ⟨hk,n,?_,?_⟩))
  ·unfold oneW; rw [if_neg this.1]
   exact Is1.just (isW_wK hk) (by simp only [isN,Bool.and_eq_true,decide_eq_true_eq]; exact ⟨h0,h1⟩)
  ·unfold oneL; rw [if_neg this.1]
theorem VS.known {q:Int}{s:Sc}(h:VS q s){n:Int}(hn:2≤n):knownB (oneL q s) n=true:=by
 rcases h with ⟨rfl,b',o,rfl,hb,_⟩ | ⟨hk,_⟩
 ·simp only [oneL,if_true,knownB,List.all_cons,List.all_nil,Bool.and_true,decide_eq_true_eq]; omega
 ·unfold oneL; rw [if_neg (isK_7 hk).1]; rfl
theorem VS.bytes {q:Int}{s:Sc}(h:VS q s){big:Bool}{ptr:Int}(b on:Int):jZ big ptr ⟨b,on,q,oneW q s,oneL q s⟩=putL big (wX ptr q).toNat s:=by
 rcases h with ⟨rfl,b',o,rfl,hb,ho,ho2⟩ | ⟨hk,n,rfl,h0,h1⟩
 ·unfold jZ
  simp only [Int.reduceEq,if_false,if_true,oneL]
  rw [sole_only (Is1.just (by decide) (n8 (by omega))) (by omega),span_7,putL_ptr]
 ·have:=isK_7 hk
  unfold jZ
  simp only []
  rw [if_neg this.2.1,if_neg this.2.2,if_neg this.1]
  unfold oneW
  rw [if_neg this.1,(Is1.just (isW_wK hk) (by simp only [isN,Bool.and_eq_true,decide_eq_true_eq]; exact ⟨h0,h1⟩)).at_]
theorem VS.by_ {q:Int}{s:Sc}(h:VS q s){p:Pg}(hv:p.vars=[8,12]){big:Bool}{n:Nat}(hn:n≤4):∀x∈putL big n s,byteB x=true∧ptrIn (wJ p) x=true:=by
 intro x hx
 simp only [putL,List.mem_map,List.mem_range] at hx
 obtain ⟨i,hi,rfl⟩:=hx
 rcases h with ⟨rfl,b',o,rfl,hb,ho,ho2⟩ | ⟨hk,n',rfl,h0,h1⟩
 ·have e:putB big n ⟨true,0,b',o⟩ i=⟨2,0,b',o,i⟩:=by
   unfold putB wantB
   simp only [if_true]
   rw [if_pos (by omega)]
  rw [e]
  have hl:((wJ p).length:Int)=3+p.news.length:=by rw [sizes_len,hv]; simp
  have hs:8≤szAt (wJ p) b':=by
   rcases (by omega:b'=1∨b'=2) with rfl | rfl <;> unfold szAt wJ <;> rw [hv] <;> try simp
  constructor
  ·simp [byteB]; omega
  ·simp [ptrIn]; omega
 ·obtain ⟨y,rfl⟩:=Int.eq_ofNat_of_zero_le h0
  have e:∃j:Nat,j≤4∧putB big n ⟨false,(y:Int),0,0⟩ i=⟨1,byteV y j,0,0,0⟩:=by
   refine ⟨if big=true then n - 1 - i else i,?_,?_⟩
   ·split <;> omega
   ·unfold putB byteV
    rw [if_neg Bool.false_ne_true]
  obtain ⟨j,hj,e⟩:=e
  rw [e,byteV_nat y j hj]
  constructor
  ·have:=Nat.mod_lt (y / 256 ^ j) (show 0 < 256 by decide)
   generalize y / 256 ^ j % 256=z at *
   simp [byteB]; omega
  ·simp [ptrIn]
theorem KS.set {p:Pg}{s:Ste}{e:En}(h:KS p s e)(hc:yK p=true)(hv:p.vars=[8,12]){q:Int}{v:Sc}(hq:VS q v){b on n:Nat}(hn:n≤4)(hn1:1≤n){m':List Bl}(hs:MemSet s.blocks b on (putL p.big n v) m')(hf:on+n≤(yZ s.blocks (b:Int)).l.length) :
  FitM p m'∧∀a c,stateB p ⟨a,c,m',s.nextA,s.nextC,s.next,s.inp,s.p,s.w⟩=true:=by
 have hfm:FitM p m':=hs.fit h.fit (by rw [gV]; exact hf) (by rw [gV]; omega) (hq.by_ hv hn)
 refine ⟨hfm,fun a c=>?_⟩
 have:=h.st
 have hmi:=hfm.memIn hc
 unfold stateB at this ⊢
 simp only [Bool.and_eq_true] at this ⊢
 exact ⟨this.1,hmi⟩
end Go.Ax
namespace Go.Proofs.Tryz.K
open Go Go.Ax Go.Proofs.Tryz.S
variable (F:Fz) (M:Hp)
theorem Fo.rd.all {F:Fz}{M N:Hp}{s:Fo}(hd:∀b,N b≠none→M b=none∧F b=none)(h:s.rd (F.all M) N):s.rd F (M.join N):=⟨h.row.all hd,h.bads.all hd⟩
theorem lookM {p:Pg}{s:Ste}{e:En}{F:Fz}{M:Hp}(h:KS p s e)(hc:yK p=true)(he:e.rd F M):Look (F.all M) ⟨p,e⟩ s.blocks:=
 ⟨hc,h.fit,h.mir,fun N o=>he.cells.lent o,fun c hcm N o=>RdG.lent (he.ptrs c hcm) o,h.no⟩
theorem loadM (p:Pg)(s:Ste)(e:En)(k o:Int)(b:Nat)(vo:V)(a:Option Addr)(c:Nat)(h:KS p s e)(hc:yK p=true)(hn:p.news=[])(hold:Old F M)(hp:p.rdM F M)(he:e.rd F M)(hk:isS k=true)
  (hb:1≤b∧b≤p.vars.length∧b≤6)(ho:Is1 vo 8 o)(ho32:o≤32)(hx:RdG 7 Ba.cs F M (.slice a 1 c) [⟨b,vo⟩]) :
  CallsA Tryz.prog 23 [p.val,e.val,abV V.zero (.slice a 1 c),.int .i64 k] F M (loadR k (takeV p s.blocks k b o) F M):=by
 have hfe:=h.few hc hn
 have kl:=k23 (F.all M) noHp p e s.blocks k o b vo a c (lookM h hc he) (Old.start _) hp.lent (fun M' oo=>he.lent oo) (h.env hc hn) ⟨by omega,by omega⟩ hk hb ho ho32 (hx.lent (Old.start _))
 refine (CallsA.lendAll (Q:=fun v N=>∃f:Fo,v=.tuple #[abV f.v (.slice f.lA f.l.length f.lC),.slice f.badsA f.bads.length f.badsC,.int .i64 0]∧f.rd (F.all M) N∧f.l.length≤7∧FoundIs k (takeV p s.blocks k b o) f.v f.l f.bads) hold (kl.mono ?_)).mono ?_
 ·rintro v F' N ⟨rfl,kp,old,f,hf⟩
  exact ⟨rfl,kp,old,f,hf⟩
 ·rintro v F' M' ⟨rfl,kp,old,N,rfl,hN,f,h1,h2,h3⟩
  exact ⟨rfl,kp,old,f,h1,Fo.rd.all hN h2,h3⟩
theorem storeM (p:Pg)(s:Ste)(e:En)(m':List Bl)(k:Int)(b on:Nat)(vo:V)(a:Option Addr)(c:Nat)(v:V)(lA:Option Addr)(lC:Nat)(l:List Ba)(h:KS p s e)(hc:yK p=true)(hn:p.news=[])(hold:Old F M)(hp:p.rdM F M)(he:e.rd F M)(hk:isS k=true)
  (hb:1≤b∧b≤p.vars.length∧b≤6)(ho:Is1 vo 8 on)(ho32:on≤32)(hx:RdG 7 Ba.cs F M (.slice a 1 c) [⟨b,vo⟩])(hv:RdG 7 Ba.cs F M (.slice lA l.length lC) l)(h0:CanC ⟨b,on,k,v,l⟩)(hkn:knownB l ((s.blocks.length:Int) - 1)=true)(hne:¬e.cells=[])
  (hm':jK (wX p.ptr k) (szAt (wJ p) b) on=0→MemSet s.blocks b on (jZ p.big p.ptr ⟨b,on,k,v,l⟩) m'∧FitM p m') :
  CallsA Tryz.prog 17 [p.val,e.val,abV V.zero (.slice a 1 c),.int .i64 k,abV v (.slice lA l.length lC)] F M (storeR p m' e.news (jK (wX p.ptr k) (szAt (wJ p) b) on) F M):=by
 have hfe:=h.few hc hn
 have kl:=k17 (F.all M) noHp p e s.blocks m' k b on vo a c v lA lC l (lookM h hc he) (Old.start _) hp.lent (fun M' oo=>he.lent oo) (h.env hc hn) ⟨by omega,by omega⟩ hk hb ho ho32 (hx.lent (Old.start _)) (fun M' oo=>hv.lent oo) h0 hkn hne hm'
 refine (CallsA.lendAll (Q:=fun u N=>∃(y:En) (ba:Option Addr) (bc:Nat) (bads:List Int),u=.tuple #[y.val,.slice ba bads.length bc,.int .i64 0]∧y.rd (F.all M) N∧intR (F.all M) N ba bc bads∧LayIs p m' e.news (jK (wX p.ptr k) (szAt (wJ p) b) on) y.pe bads) hold (kl.mono ?_)).mono ?_
 ·rintro v F' N ⟨rfl,kp,old,f,hf⟩
  exact ⟨rfl,kp,old,f,hf⟩
 ·rintro v F' M' ⟨rfl,kp,old,N,rfl,hN,y,ba,bc,bads,h1,h2,h3,h4⟩
  exact ⟨rfl,kp,old,y,ba,bc,bads,h1,h2.all hN,RdG.all hN h3,h4⟩
theorem envM (p:Pg)(e:En)(hp:p.rdM F M)(h:e.rd F M)(hc:yK p=true):CallsA Tryz.prog 13 [p.val,e.val] F M (Same F M (.bool (envB p e.pe))):=
 CallsA.lendSame (k13 (F.all M) noHp p e hp.lent (Old.start _) hc (h.lent (Old.start _)))
theorem inM (p:Pg)(s:Ste)(e:En)(h:KS p s e)(hc:yK p=true)(hn:p.news=[])(hp:p.rdM F M)(he:e.rd F M)(hs:s.rd F M):CallsA Tryz.prog 21 [p.val,e.val,s.val] F M (Same F M (.bool true)):=by
 have:=CallsA.lendSame (F:=F) (M:=M) (k21 (F.all M) noHp p e s hp.lent (Old.start _) (he.lent (Old.start _)) (hs.lent (Old.start _)) hc h.fit (fun _=>h.fitC hc hn))
 rw [h.has hc hn] at this
 exact this
def setR (q:Int)(s:Sc)(F:Fz)(M:Hp)(u:Value)(F':Fz)(M':Hp):Prop:=F'=F∧Keep M M'∧(Old F M→Old F M')∧∃a c,u=abV (oneW q s) (.slice a (oneL q s).length c)∧RdG 7 Ba.cs F M' (.slice a (oneL q s).length c) (oneL q s)
theorem oneM (q:Int)(s:Sc):CallsA Tryz.prog 18 [.int .i64 q,s.val] F M (setR q s F M):=by
 refine (k18 F M q s).mono ?_
 rintro v F' M' ⟨w,rfl,hr⟩
 obtain ⟨rfl,_,kp,old,a,c,rfl,rd⟩:=hr.le (f:=Ba.cs) (fun _=>rfl) (by unfold oneL; split <;> simp)
 exact ⟨rfl,kp,old,a,c,rfl,rd⟩
def madeR (p:Pg)(s:Ste)(F:Fz)(M:Hp)(u:Value)(F':Fz)(M':Hp):Prop:=F'=F∧Keep M M'∧Old F M'∧∃e:En,u=e.val∧e.rd F M'∧e.pe=justV p s.blocks
theorem k12 (p:Pg)(s:Ste)(hp:p.rdM F M)(hold:Old F M)(hs:s.rd F M)(hc:yK p=true)(hst:stateB p s=true):CallsA Tryz.prog 12 [p.val,s.val] F M (madeR p s F M):=by
 refine qZ hm Tryz.func12 e12 (Nat.le_of_ble_eq_true rfl) ?_
 simp only [c12,go_sem]
 intro r2 hF2 hM2
 generalize eQ:M.upd r2 ⟨p.cs,28,7⟩=M1 at *
 obtain ⟨kp2,old2,f2⟩:=nw eQ hold hF2 hM2
 clear eQ
 simp only [go_sem]
 intro r3 hF3 hM3
 generalize eQ:M1.upd r3 ⟨s.cs,42,5⟩=M2 at *
 obtain ⟨kp3,old3,f3⟩:=nw eQ old2 hF3 hM3
 clear eQ
 simp only [go_sem]
 intro r4 hF4 hM4
 have n4:M r4=none:=(kp2.trans kp3).free hM4
 generalize eQ:M2.upd r4 ⟨[.bool false,.slice none 0 0,.slice none 0 0],46,3⟩=M3 at *
 obtain ⟨kp4,old4,f4⟩:=nw eQ old3 hF4 hM4
 clear eQ
 have kp:=(kp2.trans kp3).trans kp4
 have b2:=qG (F:=F) (kp4 _ _ (kp3 _ _ f2))
 have b3:=qG (F:=F) (kp4 _ _ f3)
 have ko:=CallsA.part (Q:=fun v M'=>∃e:En,∃n:Int,v=.tuple #[e.val,.int .i64 n]∧e.rd F M'∧((yK p=true∧stateB p s=true∧n=0∧e.pe=justV p s.blocks)∨(¬(yK p=true∧stateB p s=true)∧n=1∧e=noEnv))) kp old4 (ofM F M p s hp hold hs)
 clear kp2 kp3 kp4 hM2 hM3 hM4
 simp only [go_sem,b2,b3]
 with_reducible refine qY ko ?_
 rintro u F' M4 ⟨rfl,kp5,old5,N,kN,oN,kNM,hd,e,n,rfl,he,hcase⟩
 refine ⟨(fun h=>by cases h),?_⟩
 rcases hcase with ⟨_,_,rfl,hpe⟩ | ⟨h,_⟩
 rotate_left
 ·exact absurd ⟨hc,hst⟩ h
 have g4:=kp5 _ _ f4
 have N4:=hd r4 (by rw [f4]; simp) n4
 simp only [go_sem]
 intro r5 hF5 hM5
 have kp6:Keep M4 (M4.upd r5 ⟨e.cs,46,3⟩):=(Keep.refl _).new hM5
 have old6:Old F' (M4.upd r5 ⟨e.cs,46,3⟩):=old5.upd hF5
 have f5:(M4.upd r5 ⟨e.cs,46,3⟩) r5=some ⟨e.cs,46,3⟩:=Hp.qJ _ _ _
 simp only [setH,Hp.wG,go_sem]
 generalize M4.upd r5 ⟨e.cs,46,3⟩=M5 at *
 have b5:=qG (F:=F') f5
 have g45:=kp6 _ _ g4
 with_reducible refine qQ (k19 F' M5 0) ?_
 simp only [setH,go_sem,b5,g45]
 have kpf:Keep N (M5.upd r4 ⟨e.cs,46,3⟩):=(kNM.trans kp6).new N4
 have of_:Old F' (M5.upd r4 ⟨e.cs,46,3⟩):=old6.upd hF4
 exact qW ⟨rfl,((kp.trans kp5).trans kp6).new n4,of_,e,rfl,he.keep kpf of_,hpe⟩
theorem take_page {p:Pg}{m:List Bl}(hv:p.vars=[8,12])(hm:FitM p m){b:Nat}(hb:b=1∨b=2)(k:Int){n:Nat}(hn:wX p.ptr k=n)(on:Nat)(h:b < m.length):takeV p m k b on=pageV p.big k n on (m[b]).l:=by
 obtain ⟨_,hs,hsz,hbl,_⟩:=kind_block hv hm hb
 unfold takeV pageV cutM
 rw [hn,hbl,hsz,Int.toNat_natCast,Int.toNat_natCast]
theorem kind_blocks {p:Pg}(hv:p.vars=[8,12])(hn:p.news=[]){m:List Bl}(h:m.map bkP=(0,[]) :: p.vars.map varP++p.news.map (fun _=>(0,[]))):∃a0 c0 a1 c1 a2 c2,m=[⟨0,a0,c0,[]⟩,⟨1,a1,c1,List.replicate 8 ⟨0,0,0,0,0⟩⟩,⟨1,a2,c2,List.replicate 12 ⟨0,0,0,0,0⟩⟩]:=by
 rw [hv,hn] at h
 have h:m.map bkP=[(0,[]),(1,List.replicate 8 ⟨0,0,0,0,0⟩),(1,List.replicate 12 ⟨0,0,0,0,0⟩)]:=h
 generalize List.replicate 8 (⟨0,0,0,0,0⟩:By)=u8 at *
 generalize List.replicate 12 (⟨0,0,0,0,0⟩:By)=u12 at *
 match m,h with
 | [x,y,z],h=>
  simp only [List.map_cons,List.map_nil,List.cons.injEq,and_true] at h
  obtain ⟨h1,h2,h3⟩:=h
  obtain ⟨s1,a1,c1,l1⟩:=x
  obtain ⟨s2,a2,c2,l2⟩:=y
  obtain ⟨s3,a3,c3,l3⟩:=z
  simp only [bkP,Prod.mk.injEq] at h1 h2 h3
  obtain ⟨rfl,rfl⟩:=h1
  obtain ⟨rfl,rfl⟩:=h2
  obtain ⟨rfl,rfl⟩:=h3
  exact ⟨a1,c1,a2,c2,a3,c3,rfl⟩
 | [],h=>simp at h
 | [x],h=>simp at h
 | [x,y],h=>simp at h
 | x :: y :: z :: t :: m,h=>simp at h
def kdS (q:Ask16)(p:Pg)(r2 r5 r6 r7:Nat)(F:Fz)(M0 M:Hp):Prop:=
 Keep M0 M∧Old F M∧M r2=some ⟨q.cs,33,10⟩∧M r5=some ⟨p.cs,28,7⟩∧∃(A:Hp) (s:Ste) (e:En),M r6=some ⟨s.cs,42,5⟩∧M r7=some ⟨e.cs,46,3⟩∧Keep A M∧Old F A∧A r6=none∧A r7=none∧p.rdM F A∧s.rd F A∧e.rd F A∧KS p s e
def kdI (q:Ask16)(p:Pg)(r2 r5 r6 r7:Nat)(F0:Fz)(M0:Hp)(i:Nat)(σ:Env)(F:Fz)(M:Hp):Prop:=
 F0=F∧Ax.look σ 8=some (.int .i64 i)∧kdS q p r2 r5 r6 r7 F0 M0 M
theorem kdS.new {q:Ask16}{p:Pg}{r2 r5 r6 r7:Nat}{F:Fz}{M0 M M':Hp}(h:kdS q p r2 r5 r6 r7 F M0 M)(kp:Keep M M')(o:Old F M'):kdS q p r2 r5 r6 r7 F M0 M':=by
 obtain ⟨h1,h2,h3,h4,A,s,e,h5,h6,h7,h8⟩:=h
 exact ⟨h1.trans kp,o,kp _ _ h3,kp _ _ h4,A,s,e,kp _ _ h5,kp _ _ h6,h7.trans kp,h8⟩
theorem wrap_in {k:Int}(h:isK k=true)(N:Int):0≤N % 2 ^ (wK k).toNat∧N % 2 ^ (wK k).toNat≤wH (wK k):=by
 have key:∀w m:Int,(2:Int) ^ w.toNat=m+1→wH w=m→0≤m→0≤N % 2 ^ w.toNat∧N % 2 ^ w.toNat≤wH w:=fun w m h1 h2 h3=>by
  rw [h1,h2]
  have:=Int.emod_nonneg N (show m+1≠0 by omega)
  have:=Int.emod_lt_of_pos N (show 0 < m+1 by omega)
  omega
 rcases isK_cases h with rfl | rfl | rfl | rfl | rfl | rfl
 ·exact key _ 255 (by decide) (by decide) (by decide)
 ·exact key _ 255 (by decide) (by decide) (by decide)
 ·exact key _ 65535 (by decide) (by decide) (by decide)
 ·exact key _ 65535 (by decide) (by decide) (by decide)
 ·exact key _ 4294967295 (by decide) (by decide) (by decide)
 ·exact key _ 4294967295 (by decide) (by decide) (by decide)
theorem ste_set0 {s:Ste}{a:Option Addr}{c:Nat}{m:List Bl}:[Value.slice a m.length c]++List.drop 1 s.cs=Ste.cs ⟨a,c,m,s.nextA,s.nextC,s.next,s.inp,s.p,s.w⟩:=rfl
theorem two_upd {M:Hp}{r6 r7 q:Nat}{x a b a' b':Ent}(h:M q=some x)(h6:M r6=some a)(h7:M r7=some b)(n6:¬x.elem=a.elem)(n7:¬x.elem=b.elem):((M.upd r6 a').upd r7 b') q=some x:=by
 have e6:¬q=r6:=by rintro rfl; rw [h6] at h; injection h with h; exact n6 (by rw [h])
 have e7:¬q=r7:=by rintro rfl; rw [h7] at h; injection h with h; exact n7 (by rw [h])
 rw [Hp.qK e7,Hp.qK e6]; exact h
theorem state_own {F:Fz}{M:Hp}{p:Pg}{s:Ste}{m':List Bl}{a:Option Addr}{c:Nat}(h:MemOwn 76 91 F M a c m')(hm:FitM p m')(hl:m'.length=3)(hn:intR F M s.nextA s.nextC s.next)(hz:s.nextA=none→s.nextC=0):Ste.rd F M ⟨a,c,m',s.nextA,s.nextC,s.next,s.inp,s.p,s.w⟩:=
 ⟨h.row.rd Bl.len (show m'.length≤4611686018427387904 by omega),fun b hb=>(h.rows b hb).rd By.len (by
  have hb:b∈m':=hb
  obtain ⟨j,hj,rfl⟩:=List.getElem_of_mem hb
  have:=(hm.bytes j hj).2.2.2
  omega),hn,own_zero h.row,hz,fun b hb=>own_zero (h.rows b hb)⟩
def kdO (F0:Fz)(M0:Hp)(j:Nat)(σ:Env)(F:Fz)(M:Hp):Prop:=
 F0=F∧Keep M0 M∧Old F0 M∧Ax.look σ 17=some (.int .i64 j)
def kdB (F0:Fz)(M0:Hp)(t:Nat)(σ:Env)(F:Fz)(M:Hp):Prop:=
 F0=F∧Keep M0 M∧Old F0 M∧Ax.look σ 18=some (.int .i64 ((t+1:Nat):Int))
theorem ks_just {p:Pg}{s:Ste}{e:En}(hc:yK p=true)(hn:p.news=[])(hst:stateB p s=true)(hpe:e.pe=justV p s.blocks):KS p s e:=by
 have hm:=state_fit hst
 refine ⟨hst,by rw [hpe]; exact justV_mir hc hm,?_,?_⟩
 ·have:=congrArg Pe.no hpe; exact this
 ·have:=congrArg Pe.news hpe
  exact Eq.trans this (newsV_nil hn hm)
theorem k10 (q:Ask16)(k:Int)(hold:Old F M)(hk:isS k=true)(hm1:q.s.length≤140737488351232)(hm2:q.e.length≤140737488351232)(hm3:q.x.length≤140737488351232) :
  CallsA Tryz.prog 10 [q.val,.int .i64 k] F M (Same F M (.bool true)):=by
 refine qZ hm Tryz.func10 e10 (Nat.le_of_ble_eq_true rfl) ?_
 simp only [c10,go_sem]
 intro r2 hF2 hM2
 generalize eQ:M.upd r2 ⟨q.cs,33,10⟩=M1 at *
 obtain ⟨kp2,old2,f2⟩:=nw eQ hold hF2 hM2
 clear eQ
 have b2:=qG (F:=F) f2
 obtain ⟨n,hn,hn2⟩:∃n:Nat,(q.e.length:Int).tmod 2=n∧n < 2:=⟨q.e.length % 2,by rw [Int.tmod_eq_emod_of_nonneg (by omega)]; rfl,Nat.mod_lt _ (by decide)⟩
 have ew1:IntKind.i64.wrap (2 * (n:Int))=2 * (n:Int):=w64 (by omega) (by omega)
 have ew2:IntKind.i64.wrap (2+2 * (n:Int))=2+2 * (n:Int):=w64 (by omega) (by omega)
 have hptr:(2+2 * (n:Int))=2∨(2+2 * (n:Int))=4:=by omega
 simp only [go_sem,b2,hn,ew1,ew2]
 generalize 2+2 * (n:Int)=ptr at *
 generalize decide ((q.x.length:Int).tmod 2=1)=big at *
 intro r40 hF40 hM40
 generalize eQ:M1.upd r40 ⟨[.int .i64 8,.int .i64 12],3,2⟩=M2 at *
 obtain ⟨kp40,old40,f40⟩:=nw eQ old2 hF40 hM40
 clear eQ
 simp only [go_sem]
 intro r42 hF42 hM42
 generalize eQ:M2.upd r42 ⟨[.int .i64 7,.int .i64 0,.int .i64 0,.int .i64 0,.int .i64 0,.slice none 0 0,.slice none 0 0],37,7⟩=M3 at *
 obtain ⟨kp42,old42,f42⟩:=nw eQ old40 hF42 hM42
 clear eQ
 simp only [go_sem]
 intro r43 hF43 hM43
 generalize eQ:M3.upd r43 ⟨[.int .i64 0],3,1⟩=M4 at *
 obtain ⟨kp43,old43,f43⟩:=nw eQ old42 hF43 hM43
 clear eQ
 simp only [go_sem]
 intro r5 hF5 hM5
 simp only [setH,Hp.wG,go_sem]
 obtain ⟨p,hpd⟩:∃p,p=kindP big ptr (some ⟨r40,0,none⟩) (some ⟨r42,0,none⟩) (some ⟨r43,0,none⟩):=⟨_,rfl⟩
 have ecs:[Value.bool big,Value.int IntKind.i64 ptr,Value.slice (some { block:=r40,off:=0 }) 2 2,Value.slice none 0 0,Value.slice none 0 0,Value.slice (some { block:=r42,off:=0 }) 1 1,Value.slice (some { block:=r43,off:=0 }) 1 1]=p.cs:=by rw [hpd]; rfl
 rw [ecs,Pg.fold2]
 have hc:yK p=true:=by rw [hpd]; exact kind_may hptr _ _ _
 have hv:p.vars=[8,12]:=by rw [hpd]; rfl
 have hn:p.news=[]:=by rw [hpd]; rfl
 have hmn:p.main=[0]:=by rw [hpd]; rfl
 have epb:p.big=big:=by rw [hpd]; rfl
 have epp:p.ptr=ptr:=by rw [hpd]; rfl
 have n5:M r5=none:=(((kp2.trans kp40).trans kp42).trans kp43).free hM5
 generalize eQ:M4.upd r5 ⟨p.cs,28,7⟩=M5 at *
 obtain ⟨kp5,old5,f5⟩:=nw eQ old43 hF5 hM5
 clear eQ
 have b40:=qG (F:=F) (kp5 _ _ (kp43 _ _ (kp42 _ _ f40)))
 have b42:=qG (F:=F) (kp5 _ _ (kp43 _ _ f42))
 have b43:=qG (F:=F) (kp5 _ _ f43)
 have f25:=kp5 _ _ (kp43 _ _ (kp42 _ _ (kp40 _ _ f2)))
 have kp:Keep M M5:=(((kp2.trans kp40).trans kp42).trans kp43).trans kp5
 have hp5:p.rdM F M5:=by
  rw [hpd]
  exact ⟨gJ wD (by show 2≤_; decide) (by show 2≤2; decide) b40,gX,gX,gJ (f:=Sm.cs) Sm.len (by show 1≤_; decide) (by show 1≤1; decide) b42,gJ wD (by show 1≤_; decide) (by show 1≤1; decide) b43,fun s hs=>by
   simp only [kindP,List.mem_singleton] at hs
   subst hs
   exact ⟨gX,gX⟩,⟨(fun h=>by cases h),(fun _=>rfl),fun s hs=>by
   simp only [kindP,List.mem_singleton] at hs
   subst hs
   exact ⟨fun _=>rfl,fun _=>rfl⟩⟩,by
   refine ⟨by simp [kindP],by simp [kindP],by simp [kindP],by simp [kindP],by simp [kindP],fun s hs=>?_⟩
   simp only [kindP,List.mem_singleton] at hs
   subst hs
   exact ⟨by decide,by decide⟩⟩
 have hst0:∀s:Ste,s.blocks.map bkP=(0,[]) :: p.vars.map varP++p.news.map (fun _=>(0,[]))→s.next=p.main→s.inp=0→s.p=0→s.w=0→stateB p s=true:=by
  rintro ⟨x1,x2,m,x3,x4,nx,i1,i2,i3⟩ h1 h2 h3 h4 h5
  obtain ⟨a0,c0,a1,c1,a2,c2,h1⟩:=kind_blocks hv hn h1
  rw [hmn] at h2
  simp only at h1 h2 h3 h4 h5
  subst h1 h2 h3 h4 h5
  rw [hpd]
  exact kind_state _ _ _ _ _ _ _ _ _ _ _ _ _ _ _
 have hfl:∀n∈p.vars,0≤n∧n≤32:=fun n hn=>by
  rw [hv] at hn
  simp only [List.mem_cons,List.not_mem_nil,or_false] at hn
  omega
 have kB:=beginM F M5 p hp5 old5 hfl
 have b5:=qG (F:=F) f5
 clear kp2 kp40 kp42 kp43 kp5 hM2 hM40 hM42 hM43 hM5 b40 b42 b43 b2 f2 f40 f42 f43 old2 old40 old42 old43 hpd ecs
 with_reducible refine qY kB ?_
 rintro u F' M6 ⟨hG,kp6,old6,s,rfl,hb,hnx,h0,h1,h2,hs⟩
 replace hG:=hG.symm
 subst hG
 refine ⟨(fun h=>by cases h),?_⟩
 have hst:=hst0 s hb hnx h0 h1 h2
 simp only [go_sem]
 intro r6 hF6 hM6
 have n6:M r6=none:=(kp.trans kp6).free hM6
 have kp67:Keep M6 (M6.upd r6 ⟨s.cs,42,5⟩):=(Keep.refl _).new hM6
 have old7:Old F (M6.upd r6 ⟨s.cs,42,5⟩):=old6.upd hF6
 have f6:(M6.upd r6 ⟨s.cs,42,5⟩) r6=some ⟨s.cs,42,5⟩:=Hp.qJ _ _ _
 simp only [setH,Hp.wG,go_sem]
 generalize M6.upd r6 ⟨s.cs,42,5⟩=M7 at *
 have hp6:=rdM_keep hp5 kp6 old6
 have kM:=CallsA.part (Q:=fun u N=>∃e:En,u=e.val∧e.rd F N∧e.pe=justV p s.blocks) kp67 old7 (k12 F M6 p s hp6 old6 hs hc hst)
 have f57:=kp67 _ _ (kp6 _ _ f5)
 have f27:=kp67 _ _ (kp6 _ _ f25)
 have b57:=qG (F:=F) f57
 have b67:=qG (F:=F) f6
 try simp only [go_sem,b57,b67]
 with_reducible refine qY kM ?_
 rintro u F' M8 ⟨hG,kp8,old8,A,kA,oA,kA8,hd,e,rfl,he,hpe⟩
 replace hG:=hG.symm
 subst hG
 refine ⟨(fun h=>by cases h),?_⟩
 have A6:=hd r6 (by rw [f6]; simp) hM6
 have hKS:KS p s e:=by
  have hm:=state_fit hst
  refine ⟨hst,by rw [hpe]; exact justV_mir hc hm,?_,?_⟩
  ·have:=congrArg Pe.no hpe; exact this
  ·have:=congrArg Pe.news hpe
   exact Eq.trans this (newsV_nil hn hm)
 simp only [go_sem]
 intro r7 hF7 hM7
 have n7:M r7=none:=((kp.trans kp6).trans (kp67.trans kp8)).free hM7
 have A7:A r7=none:=kA8.free hM7
 have kp89:Keep M8 (M8.upd r7 ⟨e.cs,46,3⟩):=(Keep.refl _).new hM7
 have old9:Old F (M8.upd r7 ⟨e.cs,46,3⟩):=old8.upd hF7
 have f7:(M8.upd r7 ⟨e.cs,46,3⟩) r7=some ⟨e.cs,46,3⟩:=Hp.qJ _ _ _
 simp only [setH,Hp.wG,go_sem]
 generalize M8.upd r7 ⟨e.cs,46,3⟩=M9 at *
 have hpA:=rdM_keep hp6 kA oA
 have hsA:=hs.keep kA oA
 have kA9:=kA8.trans kp89
 have kS9:kdS q p r2 r5 r6 r7 F M M9:=⟨((kp.trans kp6).trans (kp67.trans kp8)).trans kp89,old9,kp89 _ _ (kp8 _ _ f27),kp89 _ _ (kp8 _ _ f57),A,s,e,kp89 _ _ (kp8 _ _ f6),f7,kA9,oA,A6,A7,hpA,hsA,he,hKS⟩
 have kE:=envM F M9 p e (rdM_keep hpA kA9 old9) (he.keep kA9 old9) hc
 rw [hKS.env hc hn] at kE
 have b59:=qG (F:=F) (kp89 _ _ (kp8 _ _ f57))
 have b79:=qG (F:=F) f7
 try simp only [go_sem,b59,b79]
 with_reducible refine qQ kE ?_
 clear kE kM kB kp6 kp67 kp8 kp89 hM6 hM7 f6 f7 f57 f27 f5 f25 old5 old6 old7 old8 old9 b59 b79 b57 b67 b5 kA kA8 kA9 oA hd A6 A7 hpA hsA he hpe hKS hst hs hb hnx h0 h1 h2 hp5 hp6 hst0 kp hfl
 simp only [go_sem]
 refine yX 12 (kdI q p r2 r5 r6 r7 F M) ⟨rfl,(by simp only [go_sem, *] <;> rfl),kS9⟩ ?_
 clear kS9
 rintro i σ F' M' hi hstay ⟨hG,q8,hS⟩
 subst hG
 have q1:=hstay 1 rfl
 have q2:=hstay 2 rfl
 have q5:=hstay 5 rfl
 have q6:=hstay 6 rfl
 have q7:=hstay 7 rfl
 simp only [go_sem] at q1 q2 q5 q6 q7
 clear hstay
 by_cases hil:(i:Int) < 12
 rotate_left
 ·obtain ⟨kpm,oldm,_⟩:=hS
  have kw:=k26 F M' oldm
  simp only [go_sem,q8,hil]
  with_reducible refine qQ kw ?_
  simp only [go_sem]
  exact qX kpm ⟨rfl,rfl,rfl⟩
 have hi12:i < 12:=by omega
 have ei:IntKind.i64.wrap ((i:Int)+1)=i+1:=w64 (by omega) (by omega)
 have hk7:1≤k∧k≤7:=by simp only [isS,Bool.and_eq_true,decide_eq_true_eq] at hk; exact hk
 obtain ⟨kn,rfl⟩:=Int.eq_ofNat_of_zero_le (by omega:0≤k)
 have tm:∀a b:Nat,(a:Int).tmod (b:Int)=((a % b:Nat):Int):=fun a b=>by rw [Int.tmod_eq_emod_of_nonneg (by omega)]; rfl
  -- the kind that is stored
 obtain ⟨qq,hqq,hqS⟩:∃qq:Int,qq=(if (i:Int).tmod 3=1 then 1+((i * 5+kn:Nat):Int).tmod 7 else kn)∧isS qq=true:=by
  refine ⟨_,rfl,?_⟩
  have h7:=tm (i * 5+kn) 7
  have:(((7:Nat)):Int)=7:=rfl
  rw [this] at h7
  rw [h7]
  have:=Nat.mod_lt (i * 5+kn) (show 0 < 7 by decide)
  split
  ·simp only [isS,Bool.and_eq_true,decide_eq_true_eq]; omega
  ·exact hk
 have e5:IntKind.i64.wrap ((i:Int) * 5)=(i:Int) * 5:=w64 (by omega) (by omega)
 have e5k:IntKind.i64.wrap ((i:Int) * 5+kn)=((i * 5+kn:Nat):Int):=by rw [w64 (by omega) (by omega)]; omega
 have e1m:IntKind.i64.wrap (1+((i * 5+kn:Nat):Int).tmod 7)=1+((i * 5+kn:Nat):Int).tmod 7:=by
  have h7:((i * 5+kn:Nat):Int).tmod 7=(((i * 5+kn) % 7:Nat):Int):=tm _ 7
  have:=Nat.mod_lt (i * 5+kn) (show 0 < 7 by decide)
  rw [h7]
  exact w64 (by omega) (by omega)
 simp only [go_sem,q1,q8,hil]
 refine vQ (fun σ' F' M2=>F=F'∧M'=M2∧Ax.look σ' 9=some (.int .i64 qq)) ?_ ?_
 ·by_cases h3:(i:Int).tmod 3=1
  ·rw [if_pos h3] at hqq
   simp only [go_sem,q1,q8,h3,e5,e5k,e1m]
   exact At.mk ⟨rfl,rfl,by rw [hqq]; simp only [go_sem]⟩
  ·rw [if_neg h3] at hqq
   simp only [go_sem,h3]
   exact At.mk ⟨rfl,rfl,by rw [hqq]; simp only [go_sem]⟩
 rintro σ2 F' M2 hst ⟨hG,hM2,q9⟩
 subst hG hM2
 have t1:=hst 1 rfl
 have t2:=hst 2 rfl
 have t5:=hst 5 rfl
 have t6:=hst 6 rfl
 have t7:=hst 7 rfl
 have t8:=hst 8 rfl
 simp only [go_sem,q1,q2,q5,q6,q7,q8] at t1 t2 t5 t6 t7 t8
 clear hst hqq e5 e5k e1m
  -- where, and what
 obtain ⟨b,hbm,hb12⟩:∃b:Nat,1+(i:Int).tmod 2=b∧(b=1∨b=2):=⟨1+i % 2,by have:=tm i 2; have e:((2:Nat):Int)=2:=rfl; rw [e] at this; omega,by omega⟩
 obtain ⟨o7,ho7,ho77⟩:∃o:Nat,(i:Int).tmod 7=o∧o < 7:=⟨i % 7,tm i 7,by omega⟩
 obtain ⟨on,hon,hon9⟩:∃o:Nat,((i * 3+q.s.length:Nat):Int).tmod 9=o∧o < 9:=⟨_,tm _ 9,by omega⟩
 have e2:IntKind.i64.wrap (1+(i:Int).tmod 2)=b:=by rw [hbm]; exact w64 (by omega) (by omega)
 have e3:IntKind.i64.wrap ((i:Int) * 3)=(i:Int) * 3:=w64 (by omega) (by omega)
 have e3s:IntKind.i64.wrap ((i:Int) * 3+q.s.length)=((i * 3+q.s.length:Nat):Int):=by rw [w64 (by omega) (by omega)]; omega
 have e7:IntKind.i64.wrap ((i:Int) * 77777)=(i:Int) * 77777:=w64 (by omega) (by omega)
 have e7s:IntKind.i64.wrap ((i:Int) * 77777+13)=(i:Int) * 77777+13:=w64 (by omega) (by omega)
 have b2':=qG (F:=F) hS.2.2.1
 simp only [go_sem,t2,t8,b2',e2,e3,e3s,hon]
 intro r10 hF10 hM10
 simp only [setH,Hp.wG,go_sem]
 have oldS:=hS.2.1
 generalize eQ:M'.upd r10 ⟨(Sc.mk true 0 b on).cs,50,4⟩=M2 at *
 obtain ⟨kp10,old10,f10⟩:=nw eQ oldS hF10 hM10
 clear eQ
 try simp only [go_sem,t8,e2,ho7]
 intro r11 hF11 hM11
 simp only [setH,Hp.wG,go_sem,q9]
 obtain ⟨vs,hvs⟩:∃vs:Sc,vs=if qq=7 then ⟨true,0,b,o7⟩ else ⟨false,((i:Int) * 77777+13) % 2 ^ (wK qq).toNat,0,0⟩:=⟨_,rfl⟩
 have hVS:VS qq vs:=by
  rw [hvs]
  by_cases h7:qq=7
  ·rw [if_pos h7]; exact .inl ⟨h7,b,o7,rfl,by omega,by omega⟩
  ·rw [if_neg h7]
   have hkk:isK qq=true:=by simp only [isS,isK,Bool.and_eq_true,decide_eq_true_eq] at hqS ⊢; omega
   exact .inr ⟨hkk,_,rfl,wrap_in hkk _⟩
 refine vQ (fun σ' F' M3=>F=F'∧M2.upd r11 ⟨vs.cs,50,4⟩=M3) ?_ ?_
 ·by_cases h7:qq=7
  ·rw [if_pos h7] at hvs
   simp only [go_sem,h7]
   exact At.mk ⟨rfl,by rw [hvs]⟩
  ·rw [if_neg h7] at hvs
   have hw:=wK_le qq
   simp only [go_sem,h7,t8,q9,e7,e7s]
   with_reducible refine qQ (k15 F _ qq) ?_
   simp only [go_sem]
   with_reducible refine qQ (k14 F _ _ _ hw.1 hw.2) ?_
   simp only [setH,Hp.wG,go_sem]
   exact At.mk ⟨rfl,by rw [hvs]⟩
 rintro σ3 F' M3 hst3 ⟨hG,hM3⟩
 subst hG
 have kp11:Keep M2 M3:=by rw [←hM3]; exact (Keep.refl _).new hM11
 have old11:Old F M3:=by rw [←hM3]; exact old10.upd hF11
 have f11:M3 r11=some ⟨vs.cs,50,4⟩:=by rw [←hM3]; exact Hp.qJ _ _ _
 have s1:=hst3 1 rfl
 have s2:=hst3 2 rfl
 have s5:=hst3 5 rfl
 have s6:=hst3 6 rfl
 have s7:=hst3 7 rfl
 have s8:=hst3 8 rfl
 have s9:=hst3 9 rfl
 have s10:=hst3 10 rfl
 have s11:=hst3 11 rfl
 simp only [go_sem,t1,t2,t5,t6,t7,t8,q9] at s1 s2 s5 s6 s7 s8 s9 s10 s11
 clear hst3 hM3 hM11 hM10 e2 e3 e3s e7 e7s b2' hvs
 have hS3:=(hS.new kp10 old10).new kp11 old11
 have f103:=kp11 _ _ f10
 clear hS kp10 old10 kp11 f10 t1 t2 t5 t6 t7 t8 q9 q1 q2 q5 q6 q7 q8 hon hbm ho7 oldS
 obtain ⟨kp3,old3,f2,f5,A,s,e,f6,f7,kA,oA,A6,A7,hpA,hsA,heA,hKS⟩:=hS3
 have hptr':=(jW hc).1
 have hspn:=jX hptr' (.inr (.inr hqS))
 obtain ⟨n,hnq⟩:∃n:Nat,wX p.ptr qq=n:=Int.eq_ofNat_of_zero_le (by omega)
 have hn4:1≤n∧n≤4:=by omega
 have hsz:sizeK p.ptr qq=n:=by
  have:1≤qq∧qq≤7:=by simp only [isS,Bool.and_eq_true,decide_eq_true_eq] at hqS; exact hqS
  rw [←span_size (by omega) (by omega),hnq]
 have hfit:=hKS.fit
 obtain ⟨hbm,hbs,hbz,hbat,hb32⟩:=kind_block hv hfit hb12
 have hblen:s.blocks.length=3:=by rw [hfit.len,hv,hn]; rfl
 have hl32:∀x∈s.blocks,x.l.length≤1000:=fun x hx=>by
  obtain ⟨j,hj,rfl⟩:=List.getElem_of_mem hx
  have:=(hfit.bytes j hj).2.2.2
  omega
 have hcls:jK (wX p.ptr qq) (szAt (wJ p) b) on=jK n (s.blocks[b]).l.length on:=by rw [hnq,hbz]
 have hin:jK n (s.blocks[b]).l.length on=0→on+n≤(s.blocks[b]).l.length:=fun h=>by
  unfold jK at h
  split at h
  ·cases h
  ·omega
 have kS:=CallsA.part (Q:=fun u N=>∃a c,∃m':List Bl,u=.tuple #[.slice a m'.length c,.int .i64 (jK n (s.blocks[b]).l.length on)]∧MemOwn 76 91 F N a c m'∧(jK n (s.blocks[b]).l.length on=0→MemSet s.blocks b on (putL p.big n vs) m')) kA old3 (k16 F A p.big p.ptr qq n vs s.blocksA s.blocksC s.blocks b on hsA.blocks hsA.bytes oA hptr' hbm hbs hsz hn4 (by omega) (by omega) hl32)
 have b5:=qG (F:=F) f5
 have b6:=qG (F:=F) f6
 have b10:=qG (F:=F) f103
 have b11:=qG (F:=F) f11
 simp only [go_sem,s5,s6,s9,s10,s11,b5,b6,b10,b11]
 with_reducible refine qY kS ?_
 rintro u F' M4 ⟨hG,kp4,old4,N0,kN0,oN0,kN04,hd0,a',c',m',rfl,hown,hset⟩
 replace hG:=hG.symm
 subst hG
 refine ⟨(fun h=>by cases h),?_⟩
 have N06:=hd0 r6 (by rw [f6]; simp) A6
 have N07:=hd0 r7 (by rw [f7]; simp) A7
 have g6:=kp4 _ _ f6
 have g7:=kp4 _ _ f7
 have g2:=kp4 _ _ f2
 have g5:=kp4 _ _ f5
 have b54:=qG (F:=F) g5
 have b74:=qG (F:=F) g7
 have b104:=qG (F:=F) (kp4 _ _ f103)
 have b114:=qG (F:=F) (kp4 _ _ f11)
 have hset':jK n (s.blocks[b]).l.length on=0→FitM p m'∧∀a c,stateB p ⟨a,c,m',s.nextA,s.nextC,s.next,s.inp,s.p,s.w⟩=true:=fun h=>hKS.set hc hv hVS hn4.2 hn4.1 (hset h) (by rw [hbat]; exact hin h)
 have k1:=CallsA.part (Q:=fun u N=>∃a c,u=abV V.zero (.slice a 1 c)∧RdG 7 Ba.cs F N (.slice a 1 c) [⟨b,V.just 8 on⟩]) kN04 old4 ((oneM F N0 7 ⟨true,0,b,on⟩).mono (fun v F' M' h=>by
  obtain ⟨hG,kp,o,a,c,hu,hr⟩:=h
  exact ⟨hG,kp,o oN0,a,c,hu,hr⟩))
 clear kS b5 b6 b10 b11
 simp only [go_sem,s5,s7,s9,s10,s11,b54,b74,b104,b114]
 with_reducible refine qY k1 ?_
 rintro u F' M5 ⟨hG,kp5,old5,N1,kN1,oN1,kN15,hd1,a1,c1,rfl,hx1⟩
 replace hG:=hG.symm
 subst hG
 refine ⟨(fun _=>kp5.le old5),?_⟩
 have N16:=hd1 r6 (by rw [g6]; simp) N06
 have N17:=hd1 r7 (by rw [g7]; simp) N07
 have k2:=CallsA.part (Q:=fun u N=>∃a c,u=abV (oneW qq vs) (.slice a (oneL qq vs).length c)∧RdG 7 Ba.cs F N (.slice a (oneL qq vs).length c) (oneL qq vs)) kN15 old5 ((oneM F N1 qq vs).mono (fun v F' M' h=>by
  obtain ⟨hG,kp,o,a,c,hu,hr⟩:=h
  exact ⟨hG,kp,o oN1,a,c,hu,hr⟩))
 clear k1
 simp only [go_sem]
 with_reducible refine qY k2 ?_
 rintro u F' M6 ⟨hG,kp6,old6,N2,kN2,oN2,kN26,hd2,a2,c2,rfl,hx2⟩
 replace hG:=hG.symm
 subst hG
 refine ⟨(fun _=>kp6.le old6),?_⟩
 have N26:=hd2 r6 (by rw [kp5 _ _ g6]; simp) N16
 have N27:=hd2 r7 (by rw [kp5 _ _ g7]; simp) N17
 have kA2:=(kN0.trans kN1).trans kN2
 have k3:=storeM F N2 p s e m' qq b on (V.just 8 on) a1 c1 (oneW qq vs) a2 c2 (oneL qq vs) hKS hc hn oN2 (rdM_keep hpA kA2 oN2) (heA.keep kA2 oN2) hqS ⟨by omega,by rw [hv]; simp; omega,by omega⟩ (Is1.just (by decide) (n8 (by omega))) (by omega) (hx1.keep kN2 oN2) hx2 (hVS.can b on) (hVS.known (by rw [hblen]; decide)) (hKS.ne hv) (fun h=>by
  rw [hcls] at h
  rw [hVS.bytes,hnq,Int.toNat_natCast]
  exact ⟨hset h,(hset' h).1⟩)
 rw [hcls] at k3
 have k3:=CallsA.part (Q:=fun u N=>∃(y:En) (ba:Option Addr) (bc:Nat) (bads:List Int),u=.tuple #[y.val,.slice ba bads.length bc,.int .i64 0]∧y.rd F N∧intR F N ba bc bads∧LayIs p m' e.news (jK n (s.blocks[b]).l.length on) y.pe bads) kN26 old6 k3
 clear k2
 simp only [go_sem]
 with_reducible refine qY k3 ?_
 rintro u F' M7 ⟨hG,kp7,old7,N3,kN3,oN3,kN37,hd3,y,ba,bc,bads,rfl,hy,hbd,hlay⟩
 replace hG:=hG.symm
 subst hG
 refine ⟨(fun _=>kp7.le old7),?_⟩
 have N36:=hd3 r6 (by rw [kp6 _ _ (kp5 _ _ g6)]; simp) N26
 have N37:=hd3 r7 (by rw [kp6 _ _ (kp5 _ _ g7)]; simp) N27
 have kp47:=(kp5.trans kp6).trans kp7
 have kp37:=kp4.trans kp47
 have hown3:=hown.keep ((kN1.trans kN2).trans kN3)
 have kA3:=kA2.trans kN3
 clear k3 kN0 kN04 kN1 kN15 kN2 kN26 hd0 hd1 hd2 hd3 hx1 hx2 N06 N07 N16 N17 N26 N27 kp5 kp6 kp7 hcls
 simp only [go_sem]
 intro r14 hF14 hM14
 simp only [setH,Hp.wG,go_sem]
 generalize eQ:M7.upd r14 ⟨y.cs,46,3⟩=M8 at *
 obtain ⟨kp8,old8,f14⟩:=nw eQ old7 hF14 hM14
 clear eQ
 have k38:=kp37.trans kp8
 have kN38:=kN37.trans kp8
 have hS8:kdS q p r2 r5 r6 r7 F M M8:=⟨kp3.trans k38,old8,k38 _ _ f2,k38 _ _ f5,A,s,e,k38 _ _ f6,k38 _ _ f7,kA.trans k38,oA,A6,A7,hpA,hsA,heA,hKS⟩
 have hpN:=rdM_keep hpA kA3 oN3
 have hp8:=rdM_keep hpN kN38 old8
 have kE:=envM F M8 p y hp8 (hy.keep kN38 old8) hc
 have b58:=qG (F:=F) (k38 _ _ f5)
 have b148:=qG (F:=F) f14
 clear b54 b74 b104 b114 g2 g5 g6 g7 kp47 kp37 kp4 old4 old5 old6 old7 kN37 hM14 heA f103 f11 hF10 hF11
 generalize hcc:jK n (s.blocks[b]).l.length on=cls at *
 rcases hlay with ⟨h0,hbd0,hno,hmir,hnw⟩ | ⟨h0,hbd0,hpe⟩
 rotate_left
 ·have hE:envB p y.pe=true:=by rw [hpe]; simp [envB]
  rw [hE] at kE
  subst hbd0
  have kC:=classRd F M8 ba bc [cls] cls (RdG.keep hbd kN38 old8) (by simp)
  have hdm:decide (cls∈[cls])=true:=by simp
  rw [hdm] at kC
  with_reducible refine qQ (k19 F M8 0) ?_
  simp only [go_sem,s5,b58,b148]
  with_reducible refine qQ kE ?_
  simp only [go_sem,h0]
  with_reducible refine qQ kC ?_
  simp only [go_sem,s8,ei]
  exact ⟨hi12,rfl,(by simp only [go_sem, *] <;> rfl),hS8⟩
 have hKS':KS p ⟨a',c',m',s.nextA,s.nextC,s.next,s.inp,s.p,s.w⟩ y:=⟨(hset' h0).2 a' c',hmir,hno,Eq.trans hnw hKS.news⟩
 rw [hKS'.env hc hn] at kE
 with_reducible refine qQ (k19 F M8 0) ?_
 simp only [go_sem,s5,b58,b148]
 with_reducible refine qQ kE ?_
 have g6:=k38 _ _ f6
 have g7:=k38 _ _ f7
 have ne76:¬r7=r6:=by
  rintro rfl
  rw [g6] at g7
  injection g7 with g7
  injection g7 with _ g7 _
  exact absurd g7 (by decide)
 have ne67:¬r6=r7:=fun h=>ne76 h.symm
 have ne146:¬r14=r6:=by
  rintro rfl
  rw [g6] at f14
  injection f14 with f14
  injection f14 with _ f14 _
  exact absurd f14 (by decide)
 simp only [setH,go_sem,h0,s6,s7,b148,g6,g7,ne76,ne146,ste_set0]
 have hmB:s.blocks.length=m'.length:=(hset h0).len.symm
 have hsR:=state_own (s:=s) hown3 (hset' h0).1 (by omega) (hsA.next.keep kA3 oN3) hsA.zero.2.1
 generalize (⟨a',c',m',s.nextA,s.nextC,s.next,s.inp,s.p,s.w⟩:Ste)=s' at *
 have keep9:Keep M ((M8.upd r6 ⟨s'.cs,42,5⟩).upd r7 ⟨y.cs,46,3⟩):=(hS8.1.new n6).new n7
 have old9:Old F ((M8.upd r6 ⟨s'.cs,42,5⟩).upd r7 ⟨y.cs,46,3⟩):=(old8.upd hF6).upd hF7
 have h29:=two_upd (a':=⟨s'.cs,42,5⟩) (b':=⟨y.cs,46,3⟩) hS8.2.2.1 g6 g7 (show ¬(33:TypeId)=42 from by decide) (show ¬(33:TypeId)=46 from by decide)
 have h59:=two_upd (a':=⟨s'.cs,42,5⟩) (b':=⟨y.cs,46,3⟩) hS8.2.2.2.1 g6 g7 (show ¬(28:TypeId)=42 from by decide) (show ¬(28:TypeId)=46 from by decide)
 have h69:((M8.upd r6 ⟨s'.cs,42,5⟩).upd r7 ⟨y.cs,46,3⟩) r6=some ⟨s'.cs,42,5⟩:=by rw [Hp.qK ne67]; exact Hp.qJ _ _ _
 have h79:((M8.upd r6 ⟨s'.cs,42,5⟩).upd r7 ⟨y.cs,46,3⟩) r7=some ⟨y.cs,46,3⟩:=Hp.qJ _ _ _
 have kN39:Keep N3 ((M8.upd r6 ⟨s'.cs,42,5⟩).upd r7 ⟨y.cs,46,3⟩):=(kN38.new N36).new N37
 generalize (M8.upd r6 ⟨s'.cs,42,5⟩).upd r7 ⟨y.cs,46,3⟩=M9 at *
 have hS9:kdS q p r2 r5 r6 r7 F M M9:=⟨keep9,old9,h29,h59,N3,s',y,h69,h79,kN39,oN3,N36,N37,hpN,hsR,hy,hKS'⟩
 have hp9:=rdM_keep hpN kN39 old9
 have hy9:=hy.keep kN39 old9
 have hs9:=hsR.keep kN39 old9
 have kI:=inM F M9 p s' y hKS' hc hn hp9 hy9 hs9
 have b59:=qG (F:=F) h59
 have b69:=qG (F:=F) h69
 have b79:=qG (F:=F) h79
 clear hS8 keep9 kN39 hpN hy hsR N36 N37 oN3 hown3 hset hset' hmir hno hnw hKS hpA hsA kA kA3 oA A6 A7 f6 f7 f2 f5 f14 k38 kN38 hp8 b58 b148 g6 g7 ne76 ne67 ne146 hbm hbs hbz hbat hb32 hblen hl32 hin hbd hfit hcc hmB kE old8 hF14 h29
 simp only [go_sem,s5,s6,s7,b59,b69,b79]
 with_reducible refine qQ kI ?_
 clear kI
 simp only [go_sem]
 refine yX 12 (kdO F M9) ⟨rfl,Keep.refl _,old9,(by simp only [go_sem, *] <;> rfl)⟩ ?_
 rintro j σ4 F' M10 hj hst4 ⟨hG,kp10,old10,q17⟩
 subst hG
 have t1:=hst4 1 rfl
 have t5:=hst4 5 rfl
 have t6:=hst4 6 rfl
 have t7:=hst4 7 rfl
 have t8:=hst4 8 rfl
 simp only [go_sem,s1,s5,s6,s7,s8] at t1 t5 t6 t7 t8
 clear hst4
 by_cases hjl:(j:Int) < 12
 rotate_left
 ·simp only [go_sem,q17,t8,hjl,ei]
  exact ⟨hi12,rfl,(by simp only [go_sem, *] <;> rfl),hS9.new kp10 old10⟩
 have hj12:j < 12:=by omega
 have ej:IntKind.i64.wrap ((j:Int)+1)=j+1:=w64 (by omega) (by omega)
 simp only [go_sem,q17,hjl]
 refine yX 2 (kdB F M9) ⟨rfl,kp10,old10,(by simp only [go_sem, *] <;> rfl)⟩ ?_
 rintro t σ5 F' M11 ht hst5 ⟨hG,kp11,old11,q18⟩
 subst hG
 have u1:=hst5 1 rfl
 have u5:=hst5 5 rfl
 have u6:=hst5 6 rfl
 have u7:=hst5 7 rfl
 have u17:=hst5 17 rfl
 simp only [go_sem,t1,t5,t6,t7,q17] at u1 u5 u6 u7 u17
 clear hst5
 by_cases htl:((t+1:Nat):Int) < 3
 rotate_left
 ·simp only [go_sem,q18,u17,htl,ej]
  exact ⟨hj12,rfl,kp11,old11,(by simp only [go_sem, *] <;> rfl)⟩
 have et:IntKind.i64.wrap (((t+1:Nat):Int)+1)=((t+1+1:Nat):Int):=by rw [w64 (by omega) (by omega)]; omega
 have ht2:t < 2:=by omega
 have hb12':t+1=1∨t+1=2:=by omega
 obtain ⟨bb,hbb⟩:∃bb,bb=t+1:=⟨_,rfl⟩
 rw [←hbb] at hb12' q18 htl et
 simp only [go_sem,q18,u17,htl]
 intro r19 hF19 hM19
 simp only [setH,Hp.wG,go_sem]
 generalize eQ:M11.upd r19 ⟨(Sc.mk true 0 bb j).cs,50,4⟩=M12 at *
 obtain ⟨kp12,old12,f19⟩:=nw eQ old11 hF19 hM19
 clear eQ
 have k912:=kp11.trans kp12
 have hs12:=hs9.keep k912 old12
 have hy12:=hy9.keep k912 old12
 have hp12:=rdM_keep hp9 k912 old12
 have hptr':=(jW hc).1
 have hspn:=jX hptr' (.inr (.inr hk))
 obtain ⟨n,hnq⟩:∃n:Nat,wX p.ptr kn=n:=Int.eq_ofNat_of_zero_le (by omega)
 have hn4:1≤n∧n≤4:=by omega
 have hsz:sizeK p.ptr kn=n:=by rw [←span_size (by omega) (by omega),hnq]
 have hfit:=hKS'.fit
 obtain ⟨hbm,hbs,hbz,hbat,hb32⟩:=kind_block hv hfit hb12'
 have kL:=k22 F M12 p.big p.ptr kn n s'.blocksA s'.blocksC s'.blocks bb j hs12.blocks old12 hptr' hbm hbs hsz hn4 (by omega) (by omega) (hs12.bytes _ (List.getElem_mem hbm)) (fun x hx=>(hfit.bytes bb hbm).1 x hx)
 have htp:=take_page hv hfit hb12' kn hnq j hbm
 have b512:=qG (F:=F) (k912 _ _ h59)
 have b612:=qG (F:=F) (k912 _ _ h69)
 have b1912:=qG (F:=F) f19
 simp only [go_sem,u1,u5,u6,b512,b612,b1912]
 with_reducible refine qQ kL ?_
 rw [←htp]
 generalize hrv:takeV p s'.blocks kn bb j=rv at *
 simp only [go_sem]
 intro r20 hF20 hM20
 simp only [setH,Hp.wG,go_sem]
 generalize eQ:M12.upd r20 ⟨rv.1.cs,50,4⟩=M13 at *
 obtain ⟨kp13,old13,f20⟩:=nw eQ old12 hF20 hM20
 clear eQ
 have k913:=k912.trans kp13
 have b513:=qG (F:=F) (k913 _ _ h59)
 have b713:=qG (F:=F) (k913 _ _ h79)
 have b1913:=qG (F:=F) (kp13 _ _ f19)
 have ko1:=oneM F M13 7 ⟨true,0,bb,j⟩
 clear kL b512 b612 b1912 hM20 hM19 hs12 hy12 hp12 htp
 simp only [go_sem,u1,u5,u7,b513,b713,b1913]
 with_reducible refine qY ko1 ?_
 rintro u F' M14 ⟨hG,kp14,oo,a1,c1,hu,hx1⟩
 replace hG:=hG.symm
 subst hG
 have old14:=oo old13
 replace hu:u=abV V.zero (.slice a1 1 c1):=hu
 subst hu
 replace hx1:RdG 7 Ba.cs F M14 (.slice a1 1 c1) [⟨bb,V.just 8 j⟩]:=hx1
 refine ⟨(fun _=>kp14.le old14),?_⟩
 have k914:=k913.trans kp14
 have kl1:=loadM F M14 p s' y kn j bb (V.just 8 j) a1 c1 hKS' hc hn old14 (rdM_keep hp9 k914 old14) (hy9.keep k914 old14) hk ⟨by omega,by rw [hv]; simp; omega,by omega⟩ (Is1.just (by decide) (n8 (by omega))) (by omega) hx1
 rw [hrv] at kl1
 clear ko1 oo
 simp only [go_sem]
 with_reducible refine qY kl1 ?_
 rintro u F' M15 ⟨hG,kp15,old15,f,rfl,hf,hfl7,hfo⟩
 replace hG:=hG.symm
 subst hG
 refine ⟨(fun _=>kp15.le old15),?_⟩
 simp only [go_sem]
 intro r22 hF22 hM22
 simp only [setH,Hp.wG,go_sem]
 generalize eQ:M15.upd r22 ⟨yJ f.v (.slice f.lA f.l.length f.lC),62,7⟩=M16 at *
 obtain ⟨kp16,old16,f22⟩:=nw eQ old15 hF22 hM22
 clear eQ
 have kp1316:=(kp14.trans kp15).trans kp16
 have k916:=k913.trans kp1316
 have hf16:=hf.keep kp16 old16
 have b516:=qG (F:=F) (k916 _ _ h59)
 have b616:=qG (F:=F) (k916 _ _ h69)
 have b1916:=qG (F:=F) (kp1316 _ _ (kp13 _ _ f19))
 have kM2:=k12 F M16 p s' (rdM_keep hp9 k916 old16) old16 (hs9.keep k916 old16) hc hKS'.st
 clear kl1 b513 b713 b1913 hM22 hx1 hf kp14 kp15 kp16 k914 old14 old15
 simp only [go_sem,u1,u5,u6,b516,b616,b1916]
 with_reducible refine qY kM2 ?_
 rintro u F' M17 ⟨hG,kp17,old17,e2,rfl,he2,hpe2⟩
 replace hG:=hG.symm
 subst hG
 refine ⟨(fun _=>kp17.le old17),?_⟩
 have hKS2:=ks_just hc hn hKS'.st hpe2
 have ko2:=oneM F M17 7 ⟨true,0,bb,j⟩
 clear kM2
 simp only [go_sem]
 with_reducible refine qY ko2 ?_
 rintro u F' M18 ⟨hG,kp18,oo,a2,c2,hu,hx2⟩
 replace hG:=hG.symm
 subst hG
 have old18:=oo old17
 replace hu:u=abV V.zero (.slice a2 1 c2):=hu
 subst hu
 replace hx2:RdG 7 Ba.cs F M18 (.slice a2 1 c2) [⟨bb,V.just 8 j⟩]:=hx2
 refine ⟨(fun _=>kp18.le old18),?_⟩
 have k918:=(k916.trans kp17).trans kp18
 have kl2:=loadM F M18 p s' e2 kn j bb (V.just 8 j) a2 c2 hKS2 hc hn old18 (rdM_keep hp9 k918 old18) (he2.keep kp18 old18) hk ⟨by omega,by rw [hv]; simp; omega,by omega⟩ (Is1.just (by decide) (n8 (by omega))) (by omega) hx2
 rw [hrv] at kl2
 clear ko2 oo
 simp only [go_sem]
 with_reducible refine qY kl2 ?_
 rintro u F' M19 ⟨hG,kp19,old19,f2,rfl,hf2,hfl72,hfo2⟩
 replace hG:=hG.symm
 subst hG
 refine ⟨(fun _=>kp19.le old19),?_⟩
 simp only [go_sem]
 intro r25 hF25 hM25
 simp only [setH,Hp.wG,go_sem]
 generalize eQ:M19.upd r25 ⟨yJ f2.v (.slice f2.lA f2.l.length f2.lC),62,7⟩=M20 at *
 obtain ⟨kp20,old20,f25⟩:=nw eQ old19 hF25 hM25
 clear eQ
 have kp1620:=((kp17.trans kp18).trans kp19).trans kp20
 have k920:=k916.trans kp1620
 have hf20:=hf16.keep kp1620 old20
 have hf220:=hf2.keep kp20 old20
 have b2520:=qG (F:=F) f25
 have b2220:=qG (F:=F) (kp1620 _ _ f22)
 have b2020:=qG (F:=F) (kp1620 _ _ (kp1316 _ _ f20))
 have kJ:=k24 F M20 kn rv f2.v (.slice f2.lA f2.l.length f2.lC) f2.l f2.badsA f2.badsC f2.bads hf220.row hf220.bads old20 hfo2
 have kn0:=k19 F M20 0
 clear kl2 b516 b616 b1916 hM25 hx2 hf2 kp17 kp18 kp19 kp20 old16 old17 old18 old19 he2 hpe2 hKS2
 with_reducible refine qQ kn0 ?_
 simp only [go_sem]
 with_reducible refine qQ kn0 ?_
 simp only [go_sem,u1,b2520,b2020]
 with_reducible refine qQ kJ ?_
 clear kJ kn0
 rcases hfo with ⟨h0,hb0,h1⟩ | ⟨h0,hb0,h1⟩
 ·have kH:=k25 F M20 kn f.v (.slice f.lA f.l.length f.lC) f.l rv.1 hf20.row
  rw [h1.hasB] at kH
  simp only [go_sem,u1,h0,b2220,b2020]
  with_reducible refine qQ kH ?_
  simp only [go_sem,q18,et]
  refine ⟨by omega,rfl,k920,old20,?_⟩
  rw [hbb]
  simp only [go_sem]
 ·have kC:=classRd F M20 f.badsA f.badsC f.bads rv.2 hf20.bads (by rw [hb0]; simp)
  have hdm:decide (rv.2∈f.bads)=true:=by rw [hb0]; simp
  rw [hdm] at kC
  simp only [go_sem,h0]
  with_reducible refine qQ kC ?_
  simp only [go_sem,q18,et,h0]
  refine ⟨by omega,rfl,k920,old20,?_⟩
  rw [hbb]
  simp only [go_sem]
end Go.Proofs.Tryz.K
