/- Parts B9: the machine's runs of small codes, contracts of functions, plain facts. -/
import Derived.Test.YtamcbkelfgbkoaaGreatB8
set_option maxRecDepth 100000
set_option linter.unusedSimpArgs false
set_option linter.unusedVariables false
set_option maxHeartbeats 4000000
namespace Go.Proofs.Tryz.K
open Go Go.Ax Go.Proofs.Tryz.S
variable (F:Fz) (M:Hp)
theorem k87 (k:Int)(hk:isS k=true):CallsA Tryz.prog 87 [.int .i64 k] F M (Same F M (abV (if k=7 then V.zero else V.nothing (ofW k)) (.slice none 0 0))):=by
 refine qZ hm Tryz.func87 e87 (Nat.le_of_ble_eq_true rfl) ?_
 have ez:Value.agg #[.int .i64 0,.bool false,.int .i64 0,.int .i64 0,.int .i64 0,.int .i64 0,.slice none 0 0]=abV V.zero (.slice none 0 0):=rfl
 simp only [c87,go_sem]
 intro r2 hF2 hM2
 by_cases h7:k=7
 ·simp only [setH,Hp.wG,go_sem,h7]
  exact qX ((Keep.refl _).new hM2) ⟨rfl,rfl,rfl⟩
 ·have hkk:isK k=true:=by simp only [isS,isK,Bool.and_eq_true,decide_eq_true_eq] at hk ⊢; omega
  simp only [go_sem,h7]
  with_reducible refine qQ (k74 F _ k hkk) ?_
  simp only [go_sem]
  with_reducible refine qQ (k122 F _ (ofW k)) ?_
  simp only [go_sem]
  with_reducible refine qQ (k143 F _ (V.nothing (ofW k))) ?_
  simp only [setH,Hp.wG,go_sem]
  exact qX ((Keep.refl _).new hM2) ⟨rfl,rfl,rfl⟩
def BaseP (F:Fz)(M:Hp)(a:Option Addr)(c:Nat)(l:List Ba):Prop:=∀M',Old F M'→(∀r x,M r=some x→x.elem=102→M' r=some x)→RdG 7 Ba.cs F M' (.slice a l.length c) l
theorem BaseP.nil {F:Fz}{M:Hp}:BaseP F M none 0 []:=fun _ _ _=>gX
theorem BaseP.step {F:Fz}{M M':Hp}{a:Option Addr}{c:Nat}{l:List Ba}(h:BaseP F M a c l)(k:∀r x,M r=some x→x.elem=102→M' r=some x):BaseP F M' a c l:=fun M2 o k2=>h M2 o (fun r x hr he=>k2 r x (k r x hr he) he)
theorem abR.base {num:V}{l:List Ba}{u:Value}{G:Fz}{M':Hp}(h:abR 102 num l F M u G M')(hold:Old F M)(hl:l.length≤1000):G=F∧Keep M M'∧Old F M'∧∃a c,u=abV num (.slice a l.length c)∧BaseP F M' a c l:=by
 obtain ⟨hG,h⟩:=h
 rcases h with ⟨rfl,rfl,rfl⟩ | ⟨g,cap,h1,h2,rfl,h4,rfl⟩
 ·exact ⟨hG,Keep.refl _,hold,none,0,rfl,BaseP.nil⟩
 ·refine ⟨hG,(Keep.refl _).new h2,hold.upd h1,_,_,rfl,fun M2 o k=>?_⟩
  have:=k g _ (Hp.qJ _ _ _) rfl
  exact gJ (fun _=>rfl) (by omega) h4.1 (qG (F:=F) this)
def IntP (F:Fz)(M:Hp)(a:Option Addr)(c:Nat)(l:List Int):Prop:=∀M',Old F M'→(∀r x,M r=some x→x.elem=3→M' r=some x)→intR F M' a c l
theorem IntP.nil {F:Fz}{M:Hp}:IntP F M none 0 []:=fun _ _ _=>gX
theorem IntP.step {F:Fz}{M M':Hp}{a:Option Addr}{c:Nat}{l:List Int}(h:IntP F M a c l)(k:∀r x,M r=some x→x.elem=3→M' r=some x):IntP F M' a c l:=fun M2 o k2=>h M2 o (fun r x hr he=>k2 r x (k r x hr he) he)
theorem IntP.rd {F:Fz}{M:Hp}{a:Option Addr}{c:Nat}{l:List Int}(h:IntP F M a c l)(o:Old F M):intR F M a c l:=h M o (fun _ _ h _=>h)
theorem BaseP.rd {F:Fz}{M:Hp}{a:Option Addr}{c:Nat}{l:List Ba}(h:BaseP F M a c l)(o:Old F M):RdG 7 Ba.cs F M (.slice a l.length c) l:=h M o (fun _ _ h _=>h)
def foMade (k:Int)(r:Sc × Int)(F:Fz)(M:Hp)(v:Value)(F':Fz)(M':Hp):Prop:=
 F'=F∧Keep M M'∧Old F M'∧∃f:Fo,v=f.val∧BaseP F M' f.lA f.lC f.l∧IntP F M' f.badsA f.badsC f.bads∧FoundIs k r f.v f.l f.bads
def ccI2 (xs:List By)(F0:Fz)(M0:Hp)(i:Nat)(σ:Env)(F:Fz)(M:Hp):Prop:=
 F0=F∧Keep M0 M∧Old F0 M∧Ax.look σ 17=some (.int .i64 i)∧∃w,Ax.look σ 8=some w∧yY 5 By.cs 91 F0 M0 M w (xs.take i)
theorem k195 (big:Bool)(ptr k:Int)(a:Option Addr)(cap:Nat)(l:List Gu)(xs:List By)(hp:ptr=2∨ptr=4)(hk:isS k=true)(hold:Old F M)(h:RdG 14 Gu.cs F M (.slice a l.length cap) l)(hg:∀g∈l,GP F M g)
  (hl:xs.length=l.length)(hx:∀(i:Nat) (h1:i < l.length) (h2:i < xs.length),GuR l[i] xs[i])(hs:(xs.length:Int)=wX ptr k) :
  CallsA Tryz.prog 195 [.agg #[.bool big,.int .i64 ptr],.int .i64 k,.slice a l.length cap] F M fun v F' M'=>F'=F∧Keep M M'∧Old F M'∧∃f:Fo,v=.tuple #[f.val,.bool true]∧BaseP F M' f.lA f.lC f.l∧IntP F M' f.badsA f.badsC f.bads∧FoundIs k (yW big k xs) f.v f.l f.bads:=by
 refine qZ hm Tryz.func195 e195 (Nat.le_of_ble_eq_true rfl) ?_
 have hspn:=jX hp (.inr (.inr hk))
 have hok:∀x∈xs,ByteOk x:=fun x hxm=>by
  obtain ⟨i,hi,rfl⟩:=List.getElem_of_mem hxm
  exact (hx i (by omega) hi).ok
 simp only [c195,go_sem]
 intro r3 hF3 hM3
 generalize eQ:M.upd r3 ⟨[.bool big,.int .i64 ptr],23,2⟩=M1 at *
 obtain ⟨kp3,old3,f3⟩:=nw eQ hold hF3 hM3
 clear eQ
 simp only [go_sem]
 intro r6 hF6 hM6
 have kp6:Keep M1 (M1.upd r6 ⟨[.int .i64 0,.bool false,.int .i64 0,.int .i64 0,.int .i64 0,.int .i64 0,.slice none 0 0,.slice none 0 0],130,8⟩):=(Keep.refl _).new hM6
 have old6:Old F (M1.upd r6 ⟨[.int .i64 0,.bool false,.int .i64 0,.int .i64 0,.int .i64 0,.int .i64 0,.slice none 0 0,.slice none 0 0],130,8⟩):=old3.upd hF6
 have f6:(M1.upd r6 ⟨[.int .i64 0,.bool false,.int .i64 0,.int .i64 0,.int .i64 0,.int .i64 0,.slice none 0 0,.slice none 0 0],130,8⟩) r6=some ⟨[.int .i64 0,.bool false,.int .i64 0,.int .i64 0,.int .i64 0,.int .i64 0,.slice none 0 0,.slice none 0 0],130,8⟩:=Hp.qJ _ _ _
 have n6:M r6=none:=kp3.free hM6
 generalize M1.upd r6 ⟨[.int .i64 0,.bool false,.int .i64 0,.int .i64 0,.int .i64 0,.int .i64 0,.slice none 0 0,.slice none 0 0],130,8⟩=M2 at *
 have g3:=kp6 _ _ f3
 have kp:=kp3.trans kp6
 clear hM3 hM6 kp3 kp6 old3
 have h2:=h.keep kp old6
 have hg2:∀g∈l,GP F M2 g:=fun g hgm=>(hg g hgm).step (fun r x hr _=>kp _ _ hr)
 simp only [go_sem]
 refine yX l.length (ccI2 xs F M2) ⟨rfl,Keep.refl _,old6,(by simp only [go_sem, *] <;> rfl),_,(by simp only [go_sem, *] <;> rfl),yY.nil⟩ ?_
 rintro i σ F' M3 hi hst ⟨rfl,kp3,old3,q17,w,q8,mine⟩
 have q1:=hst 1 rfl
 have q3:=hst 3 rfl
 have q6:=hst 6 rfl
 have q15:=hst 15 rfl
 have q16:=hst 16 rfl
 simp only [go_sem] at q1 q3 q6 q15 q16
 clear hst
 have f63:=kp3 _ _ f6
 have b33:=qG (F:=F) (kp3 _ _ g3)
 by_cases hil:(i:Int) < l.length
 rotate_left
 ·rw [List.take_of_length_le (by omega)] at mine
  obtain ⟨aw,cw,rfl⟩:=mine.shape
  have hrb:=mine.own.rd By.len (by omega)
  simp only [go_sem,q1,q3,q8,q16,q17,hil,b33]
  have kr:=k164 F M3 big ptr k aw cw xs old3 hrb (by omega)
  with_reducible refine qQ kr ?_
  have hro:=read_ok big hp hk hs hok
  generalize yW big k xs=r at *
  simp only [go_sem]
  intro r13 hF13 hM13
  simp only [setH,Hp.wG,go_sem]
  generalize eQ:M3.upd r13 ⟨r.1.cs,50,4⟩=M4 at *
  obtain ⟨kp13,old13,f13⟩:=nw eQ old3 hF13 hM13
  clear eQ
  have kp4:=(kp.trans kp3).trans kp13
  have f64:=kp13 _ _ f63
  have b13:=qG (F:=F) f13
  by_cases h0:r.2=0
  ·simp only [go_sem,h0,q1,b13]
   have hk7:k=7∨isK k=true:=by simp only [isS,isK,Bool.and_eq_true,decide_eq_true_eq] at hk ⊢; omega
   with_reducible refine qY (k109 F M4 k r.1 hk7) ?_
   rintro u G M5 hab
   have hl1:(if k=7 then [⟨r.1.b,V.just 8 r.1.o⟩] else ([]:List Ba)).length≤1000:=by split <;> simp
   obtain ⟨hG,kp5,old5,a5,c5,rfl,hbp⟩:=abR.base F M4 hab old13 hl1
   replace hG:=hG.symm
   subst hG
   refine ⟨(fun h=>by cases h),?_⟩
   have hone:OneIs k (if k=7 then V.zero else V.just (ofW k) r.1.n) (if k=7 then [⟨r.1.b,V.just 8 r.1.o⟩] else []) r.1:=by
    obtain ⟨hr7,hrn⟩:=hro h0
    by_cases h7:k=7
    ·obtain ⟨vo,iv,ho,hb,hz,e1,e2⟩:=hr7 h7
     rw [if_pos h7,if_pos h7,h7]
     have rr:=iv.rng
     have:=OneIs.ptr hb (Is1.just (w:=8) (n:=r.1.o) (by decide) (Ax.n8 ⟨rr.1,by omega⟩)) ho hz
     have er:r.1=⟨true,0,r.1.b,r.1.o⟩:=by
      cases hr1:r.1 with
      | mk p n b o=>rw [hr1] at e1 e2; simp only at e1 e2; rw [e1,e2]
     rw [←er] at this
     exact this
    ·obtain ⟨hn,er⟩:=hrn h7
     have hkk:isK k=true:=by simp only [isS,isK,Bool.and_eq_true,decide_eq_true_eq] at hk ⊢; omega
     rw [if_neg h7,if_neg h7]
     have i1:=Is1.just (gZ k) hn
     have e:OneIs k (V.just (ofW k) r.1.n) [] ⟨false,r.1.n,0,0⟩:=OneIs.num hkk (by rw [wK_of hkk]; exact i1)
     rw [←er] at e
     exact e
   have f65:=kp5 _ _ f64
   generalize (if k=7 then V.zero else V.just (ofW k) r.1.n)=nv at *
   generalize (if k=7 then [⟨r.1.b,V.just 8 r.1.o⟩] else ([]:List Ba))=nl at *
   have eF:Value.agg (List.take 7 (yJ nv (Value.slice a5 nl.length c5)++[Value.slice none 0 0])++[Value.slice none 0 0]++List.drop 8 (yJ nv (Value.slice a5 nl.length c5)++[Value.slice none 0 0])).toArray=(Fo.mk nv a5 c5 nl none 0 []).val:=rfl
   simp only [setH,go_sem,q6,f65,eF]
   have hne:∀r x,M5 r=some x→x.elem=102→(M5.upd r6 ⟨(Fo.mk nv a5 c5 nl none 0 []).cs,130,8⟩) r=some x:=fun r x hr he=>by
    have:¬r=r6:=by rintro rfl; rw [f65] at hr; cases hr; exact absurd he (by decide)
    rw [Hp.qK this]; exact hr
   exact qW ⟨rfl,(kp4.trans kp5).new n6,old5.upd hF6,Fo.mk nv a5 c5 nl none 0 [],rfl,hbp.step hne,IntP.nil,.inl ⟨h0,rfl,hone⟩⟩
  ·simp only [go_sem,h0,q1]
   with_reducible refine qQ (k87 F M4 k hk) ?_
   simp only [go_sem]
   intro rb hFb hMb
   have hnone:=none_is hk
   generalize (if k=7 then V.zero else V.nothing (ofW k))=nv at *
   have eF:Value.agg (List.take 7 (yJ nv (Value.slice none 0 0)++[Value.slice none 0 0])++[Value.slice (some ⟨rb,0,none⟩) 1 1]++List.drop 8 (yJ nv (Value.slice none 0 0)++[Value.slice none 0 0])).toArray=(Fo.mk nv none 0 [] (some ⟨rb,0,none⟩) 1 [r.2]).val:=rfl
   have nb6:¬r6=rb:=by rintro rfl; rw [f64] at hMb; cases hMb
   have f65:(M4.upd rb ⟨[.int .i64 r.2],3,1⟩) r6=some ⟨[.int .i64 0,.bool false,.int .i64 0,.int .i64 0,.int .i64 0,.int .i64 0,.slice none 0 0,.slice none 0 0],130,8⟩:=by rw [Hp.qK nb6]; exact f64
   generalize eQ:M4.upd rb ⟨[.int .i64 r.2],3,1⟩=M5 at *
   obtain ⟨kp5,old5,fb⟩:=nw eQ old13 hFb hMb
   clear eQ
   simp only [setH,go_sem,q6,f65,eF]
   have fb2:(M5.upd r6 ⟨(Fo.mk nv none 0 [] (some ⟨rb,0,none⟩) 1 [r.2]).cs,130,8⟩) rb=some ⟨[.int .i64 r.2],3,1⟩:=by rw [Hp.qK (fun e=>nb6 e.symm)]; exact fb
   refine qW ⟨rfl,(kp4.trans kp5).new n6,old5.upd hF6,Fo.mk nv none 0 [] (some ⟨rb,0,none⟩) 1 [r.2],rfl,BaseP.nil,?_,.inr ⟨h0,rfl,hnone⟩⟩
   exact fun M2 o2 k2=>gJ wD (by simp) (by simp) (qG (F:=F) (k2 _ _ fb2 rfl))
 have hi0:(0:Int)≤i:=by omega
 have hi1:i < l.length:=by omega
 have hi2:i < xs.length:=by omega
 have ei:IntKind.i64.wrap ((i:Int)+1)=i+1:=w64 (by omega) (by omega)
 have t1:=List.take_succ_eq_append_getElem hi2
 obtain ⟨bb,o,cs,ea,hb,rows⟩:=(h2.keep kp3 old3).rows (by omega)
 obtain ⟨d1,d2⟩:=rows i hi1
 clear rows
 have hgx:=hx i hi1 hi2
 have hgi:=(hg2 _ (List.getElem_mem hi1)).step (fun r x hr _=>kp3 _ _ hr)
 generalize l[i]=g at *
 generalize xs[i]=x at *
 simp only [go_sem,q15,q16,q17,hil,hi0,ea,Int.toNat_natCast,hb,d1,d2]
 intro r10 hF10 hM10
 simp only [setH,Hp.wG,go_sem]
 generalize eQ:M3.upd r10 ⟨g.cs,185,14⟩=M4 at *
 obtain ⟨kp10,old10,f10⟩:=nw eQ old3 hF10 hM10
 clear eQ
 have b10:=qG (F:=F) f10
 have hg4:g.rd F M4:=(hgi.step (fun r x hr _=>kp10 _ _ hr)).rd old10
 try simp only [go_sem,b10]
 with_reducible refine qQ (k247 F M4 g x hg4 old10 hgx) ?_
 simp only [go_sem]
 intro r11 hF11 hM11
 simp only [setH,Hp.wG,go_sem]
 generalize eQ:M4.upd r11 ⟨x.cs,91,5⟩=M5 at *
 obtain ⟨kp11,old11,f11⟩:=nw eQ old10 hF11 hM11
 clear eQ
 have b11:=qG (F:=F) f11
 have kp5:=kp10.trans kp11
 simp only [go_sem,q8,b11]
 intro rb hFb hMb
 simp only [go_sem]
 have kpb:Keep M3 (M5.upd rb ⟨x.cs,91,5⟩):=kp5.new (kp5.free hMb)
 refine apMG_of (xs:=xs.take i) (ys:=[x]) By.len By.plain (by decide) ((mine.keep kp5).fresh hMb) (kp3.trans kpb) ⟨rfl,.inr ⟨⟨rb,0,none⟩,1,rfl,.inr ⟨rb,0,_,rfl,wY,by simp [By.take_all]⟩⟩⟩ (by simp) (by simp; omega) ?_
 rintro v' M6 _ hfr kp6' ho6 mine6
 simp only [go_sem,q17,ei]
 exact ⟨hi1,rfl,kp6',ho6 (old11.upd hFb),(by simp only [go_sem, *] <;> rfl),v',(by simp only [go_sem, *] <;> rfl),by rw [t1]; exact mine6⟩
theorem k144 (big:Bool)(ptr k:Int)(a:Option Addr)(cap:Nat)(l:List Gu)(xs:List By)(hp:ptr=2∨ptr=4)(hk:isS k=true)(hold:Old F M)(h:RdG 14 Gu.cs F M (.slice a l.length cap) l)(hg:∀g∈l,GP F M g)
  (hl:xs.length=l.length)(hx:∀(i:Nat) (h1:i < l.length) (h2:i < xs.length),GuR l[i] xs[i])(hs:(xs.length:Int)=wX ptr k) :
  CallsA Tryz.prog 144 [.agg #[.bool big,.int .i64 ptr],.int .i64 k,.slice a l.length cap] F M (foMade k (yW big k xs) F M):=by
 refine qZ hm Tryz.func144 e144 (Nat.le_of_ble_eq_true rfl) ?_
 simp only [c144,go_sem]
 intro r3 hF3 hM3
 generalize eQ:M.upd r3 ⟨[.bool big,.int .i64 ptr],23,2⟩=M1 at *
 obtain ⟨kp3,old3,f3⟩:=nw eQ hold hF3 hM3
 clear eQ
 simp only [go_sem]
 intro r6 hF6 hM6
 have kp6:Keep M1 (M1.upd r6 ⟨[.int .i64 0,.bool false,.int .i64 0,.int .i64 0,.int .i64 0,.int .i64 0,.slice none 0 0,.slice none 0 0],130,8⟩):=(Keep.refl _).new hM6
 have old6:Old F (M1.upd r6 ⟨[.int .i64 0,.bool false,.int .i64 0,.int .i64 0,.int .i64 0,.int .i64 0,.slice none 0 0,.slice none 0 0],130,8⟩):=old3.upd hF6
 have f6:(M1.upd r6 ⟨[.int .i64 0,.bool false,.int .i64 0,.int .i64 0,.int .i64 0,.int .i64 0,.slice none 0 0,.slice none 0 0],130,8⟩) r6=some ⟨[.int .i64 0,.bool false,.int .i64 0,.int .i64 0,.int .i64 0,.int .i64 0,.slice none 0 0,.slice none 0 0],130,8⟩:=Hp.qJ _ _ _
 have n6:M r6=none:=kp3.free hM6
 generalize M1.upd r6 ⟨[.int .i64 0,.bool false,.int .i64 0,.int .i64 0,.int .i64 0,.int .i64 0,.slice none 0 0,.slice none 0 0],130,8⟩=M2 at *
 have b3:=qG (F:=F) (kp6 _ _ f3)
 have kp:=kp3.trans kp6
 clear hM3 hM6 kp3 kp6 old3
 have kc:=k195 F M2 big ptr k a cap l xs hp hk old6 (h.keep kp old6) (fun g hgm=>(hg g hgm).step (fun r x hr _=>kp _ _ hr)) hl hx hs
 generalize yW big k xs=r at *
 simp only [go_sem,b3]
 with_reducible refine qY kc ?_
 rintro u G M3 ⟨hG,kp3,old3,f,rfl,hbp,hip,hfo⟩
 replace hG:=hG.symm
 subst hG
 refine ⟨(fun h=>by cases h),?_⟩
 have f63:=kp3 _ _ f6
 simp only [go_sem]
 intro r7 hF7 hM7
 simp only [setH,Hp.wG,go_sem]
 generalize eQ:M3.upd r7 ⟨f.cs,130,8⟩=M4 at *
 obtain ⟨kp7,old7,f7⟩:=nw eQ old3 hF7 hM7
 clear eQ
 have f64:=kp7 _ _ f63
 simp only [setH,go_sem,f64]
 have hne:∀t:TypeId,¬t=130→∀r x,M3 r=some x→x.elem=t→(M4.upd r6 ⟨f.cs,130,8⟩) r=some x:=fun t ht r x hr he=>by
  have:¬r=r6:=by rintro rfl; rw [f63] at hr; cases hr; exact ht he.symm
  rw [Hp.qK this]; exact kp7 _ _ hr
 exact qW ⟨rfl,((kp.trans kp3).trans kp7).new n6,old7.upd hF6,f,rfl,hbp.step (hne _ (by decide)),hip.step (hne _ (by decide)),hfo⟩
theorem cutM_len {m:List Bl}{b at_ n:Nat}(h:at_+n≤(yZ m b).l.length):(cutM m b at_ n).length=n:=by unfold cutM; rw [List.length_take,List.length_drop]; omega
theorem cutM_at {m:List Bl}{b at_ n:Nat}(h:at_+n≤(yZ m b).l.length){i:Nat}(hi:i < (cutM m b at_ n).length):(cutM m b at_ n)[i]=yQ (yZ m b).l (at_+i):=by
 have hn:i < n:=by rw [cutM_len h] at hi; exact hi
 unfold yQ
 rw [List.getElem?_eq_getElem (by omega)]
 simp [cutM]
theorem exactC_of {ptr b at_ k:Int}{c:Cl}(h:exactC ptr b at_ k c=true):c.b=b∧c.p=at_∧isS c.k=true∧(c.k=7↔k=7)∧wX ptr c.k=wX ptr k:=by
 unfold exactC at h
 simp only [Bool.and_eq_true,decide_eq_true_eq,beq_iff_eq,decide_eq_decide] at h
 obtain ⟨h1,h2,h3,h4,h5⟩:=h
 exact ⟨h1,h2,h3,h4,h5⟩
def atI (m:List Bl)(b at_:Nat)(F0:Fz)(M0:Hp)(i:Nat)(σ:Env)(F:Fz)(M:Hp):Prop:=
 F0=F∧Keep M0 M∧Old F0 M∧Ax.look σ 32=some (.int .i64 i)∧∃w l,Ax.look σ 10=some w∧yY 14 Gu.cs 185 F0 M0 M w l∧l.length=i∧(∀g∈l,GP F0 M g)∧∀j (h:j < l.length),GuR l[j] (yQ (yZ m (b:Int)).l (at_+j))
theorem k88 (s:Si)(m:List Bl)(b at_:Nat)(k:Int)(h:Look F s m)(hold:Old F M)(hk:isS k=true)(hf:at_+(wX s.p.ptr k).toNat≤(yZ m (b:Int)).l.length) :
  CallsA Tryz.prog 88 [s.val,.int .i64 b,.int .i64 at_,.int .i64 k] F M (foMade k (yW s.p.big k (cutM m b at_ (wX s.p.ptr k).toNat)) F M):=by
 refine qZ hm Tryz.func88 e88 (Nat.le_of_ble_eq_true rfl) ?_
 have hp:=(jW h.hc).1
 have hspn:=jX hp (.inr (.inr hk))
 have hj32:(yZ m (b:Int)).l.length≤32:=by
  rcases Nat.lt_or_ge b m.length with hb | hb
  ·rw [yH hb]; have:=(h.fit.bytes b hb).2.2.2; omega
  ·unfold yZ; rw [Int.toNat_natCast,List.getElem?_eq_none hb]; simp
 simp only [c88,go_sem]
 intro r4 hF4 hM4
 generalize eQ:M.upd r4 ⟨s.cs,132,10⟩=M1 at *
 obtain ⟨kp4,old4,f4⟩:=nw eQ hold hF4 hM4
 clear eQ
 simp only [go_sem]
 intro r8 hF8 hM8
 have kp8:Keep M1 (M1.upd r8 ⟨[.int .i64 0,.bool false,.int .i64 0,.int .i64 0,.int .i64 0,.int .i64 0,.slice none 0 0,.slice none 0 0],130,8⟩):=(Keep.refl _).new hM8
 have old8:Old F (M1.upd r8 ⟨[.int .i64 0,.bool false,.int .i64 0,.int .i64 0,.int .i64 0,.int .i64 0,.slice none 0 0,.slice none 0 0],130,8⟩):=old4.upd hF8
 have f8:(M1.upd r8 ⟨[.int .i64 0,.bool false,.int .i64 0,.int .i64 0,.int .i64 0,.int .i64 0,.slice none 0 0,.slice none 0 0],130,8⟩) r8=some ⟨[.int .i64 0,.bool false,.int .i64 0,.int .i64 0,.int .i64 0,.int .i64 0,.slice none 0 0,.slice none 0 0],130,8⟩:=Hp.qJ _ _ _
 have n8:M r8=none:=kp4.free hM8
 generalize M1.upd r8 ⟨[.int .i64 0,.bool false,.int .i64 0,.int .i64 0,.int .i64 0,.int .i64 0,.slice none 0 0,.slice none 0 0],130,8⟩=M2 at *
 have g4:=kp8 _ _ f4
 have kp:=kp4.trans kp8
 clear hM4 hM8 kp4 kp8 old4
 have b4:=qG (F:=F) g4
 simp only [go_sem,b4]
 with_reducible refine qY (k138 F M2 s b at_ k hk (h.row M2 old8) old8) ?_
 rintro v G M3 ⟨hG,hM3,hz⟩
 rw [hG,hM3]
 refine ⟨(fun h=>by cases h),?_⟩
 rcases hz with ⟨_,rfl⟩ | ⟨i,rfl,hi,hx⟩
 rotate_left
 ·have hi0:(0:Int)≤i:=by omega
  have hil:(i:Int) < s.e.cells.length:=by omega
  obtain ⟨bb,o,cs,ea,hb,rows⟩:=(h.row M2 old8).rows (by omega)
  obtain ⟨d1,d2⟩:=rows i hi
  have d3:List.take 7 (List.drop (o+i * 10+3) cs)=yJ s.e.cells[i].v (.slice s.e.cells[i].lA s.e.cells[i].l.length s.e.cells[i].lC):=by rw [←Cl.take7,←d2,List.drop_take,List.take_take,List.drop_drop]; rfl
  have d4:o+i * 10+3+7≤cs.length:=by omega
  clear rows
  have hci:=h.inC (List.getElem_mem hi)
  have hcr:=h.rows _ (List.getElem_mem hi)
  generalize s.e.cells[i]=c at *
  obtain ⟨e1,e2,e3,e4,e5⟩:=exactC_of hx
  have hfo:=hci.read hp hk e1 e2 e3 e4 e5
  have eF:Value.agg (yJ c.v (Value.slice c.lA c.l.length c.lC)++[Value.slice none 0 0]).toArray=(Fo.mk c.v c.lA c.lC c.l none 0 []).val:=rfl
  simp only [setH,go_sem,b4,hi0,hil,ea,hb,Int.toNat_natCast,d3,d4,eF,f8]
  exact qW ⟨rfl,kp.new n8,old8.upd hF8,Fo.mk c.v c.lA c.lC c.l none 0 [],rfl,fun M' o _=>hcr M' o,IntP.nil,hfo⟩
 have hn1:¬(0:Int)≤-1:=by decide
 simp only [go_sem,b4,hn1]
 with_reducible refine qQ (k129 F M2 s.p.big s.p.ptr k (.inr (.inr hk))) ?_
 simp only [go_sem]
 obtain ⟨n,hn⟩:∃n:Nat,wX s.p.ptr k=n:=⟨(wX s.p.ptr k).toNat,by omega⟩
 simp only [hn,Int.toNat_natCast] at hf hspn ⊢
 refine yX n (atI m b at_ F M2) ⟨rfl,Keep.refl _,old8,(by simp only [go_sem, *] <;> rfl),_,[],(by simp only [go_sem, *] <;> rfl),yY.nil,rfl,fun g hg=>by simp at hg,fun j h=>by simp at h⟩ ?_
 rintro i σ F' M3 hi hst ⟨rfl,kp3,old3,q32,w,l,q10,mine,hlen,hgp,hgx⟩
 have q1:=hst 1 rfl
 have q2:=hst 2 rfl
 have q3:=hst 3 rfl
 have q4:=hst 4 rfl
 have q8:=hst 8 rfl
 have q31:=hst 31 rfl
 simp only [go_sem] at q1 q2 q3 q4 q8 q31
 clear hst
 have b43:=qG (F:=F) (kp3 _ _ g4)
 have f83:=kp3 _ _ f8
 by_cases hil:(i:Int) < n
 rotate_left
 ·have hin:i=n:=by omega
  obtain ⟨aw,cw,rfl⟩:=mine.shape
  have hrb:=mine.own.rd Gu.len (by omega)
  have hcl:=cutM_len hf
  have kj:=k144 F M3 s.p.big s.p.ptr k aw cw l (cutM m b at_ n) hp hk old3 hrb hgp (by omega) (fun j h1 h2=>by rw [cutM_at hf h2]; exact hgx j h1) (by omega)
  simp only [go_sem,q3,q4,q10,q31,q32,hil,b43]
  with_reducible refine qY kj ?_
  rintro u G M5 ⟨hG,kp5,old5,f,rfl,hbp,hip,hfo⟩
  replace hG:=hG.symm
  subst hG
  refine ⟨(fun h=>by cases h),?_⟩
  have f85:=kp5 _ _ f83
  simp only [setH,go_sem,q8,f85]
  have hne:∀t:TypeId,¬t=130→∀r x,M5 r=some x→x.elem=t→(M5.upd r8 ⟨f.cs,130,8⟩) r=some x:=fun t ht r x hr he=>by
   have:¬r=r8:=by rintro rfl; rw [f85] at hr; cases hr; exact ht he.symm
   rw [Hp.qK this]; exact hr
  exact qW ⟨rfl,((kp.trans kp3).trans kp5).new n8,old5.upd hF8,f,rfl,hbp.step (hne _ (by decide)),hip.step (hne _ (by decide)),hfo⟩
 have hi0:(0:Int)≤i:=by omega
 have ei:IntKind.i64.wrap ((i:Int)+1)=i+1:=w64 (by omega) (by omega)
 have ea:IntKind.i64.wrap ((at_:Int)+i)=((at_+i:Nat):Int):=by rw [w64 (by omega) (by omega)]; omega
 simp only [go_sem,q1,q2,q4,q10,q31,q32,hil,b43,ea]
 with_reducible refine qY (k139 F M3 s m b (at_+i) h old3 (by omega)) ?_
 rintro u G M4 ⟨hG,kp4,old4,g,rfl,hg,hgr⟩
 replace hG:=hG.symm
 subst hG
 refine ⟨(fun h=>by cases h),?_⟩
 simp only [go_sem]
 intro rb hFb hMb
 simp only [go_sem]
 have kpb:Keep M3 (M4.upd rb ⟨g.cs,185,14⟩):=kp4.new (kp4.free hMb)
 have oldb:=old4.upd (e:=⟨g.cs,185,14⟩) hFb
 refine apMG_of (xs:=l) (ys:=[g]) Gu.len Gu.plain (by decide) ((mine.keep kp4).fresh hMb) (kp3.trans kpb) ⟨rfl,.inr ⟨⟨rb,0,none⟩,1,rfl,.inr ⟨rb,0,_,rfl,wY,by simp [Gu.take_all]⟩⟩⟩ (by simp) (by simp; omega) ?_
 rintro v' M6 _ hfr kp6' ho6 mine6
 simp only [go_sem,q32,ei]
 have hst4:∀r x,M4 r=some x→x.elem=102→M6 r=some x:=fun r x hr he=>hfr r x (by
  have:¬r=rb:=by rintro rfl; rw [hMb] at hr; cases hr
  rw [Hp.qK this]; exact hr) (by rw [he]; decide)
 refine ⟨by omega,rfl,kp6',ho6 oldb,(by simp only [go_sem, *] <;> rfl),v',l++[g],(by simp only [go_sem, *] <;> rfl),mine6,by simp [hlen],fun x hx=>?_,fun j hj=>?_⟩
 ·rcases List.mem_append.1 hx with hx | hx
  ·exact (hgp x hx).step (fun r y hr he=>hst4 r y (kp4 _ _ hr) he)
  ·rw [List.mem_singleton.1 hx]; exact hg.step hst4
 ·by_cases hjl:j < l.length
  ·rw [List.getElem_append_left hjl]; exact hgx j hjl
  ·have:j=l.length:=by simp at hj; omega
   subst this
   rw [List.getElem_append_right (by omega)]; simp only [Nat.sub_self,List.getElem_cons_zero,hlen]; exact hgr
def badP (r:Nat)(f:Fo)(n:Int)(F:Fz)(M:Hp)(_:Value)(F':Fz)(M':Hp):Prop:=
 F'=F∧Old F M'∧(∀q,¬M q=none→¬q=r→M' q=M q)∧∃a c,M' r=some ⟨(Fo.mk f.v f.lA f.lC f.l a c [n]).cs,130,8⟩∧jQ 1 intC 3 F M' (.slice a 1 c) [n]
theorem k89 (r:Nat)(f:Fo)(n:Int)(hold:Old F M)(hf:M r=some ⟨f.cs,130,8⟩)(hb:f.bads=[]∧f.badsA=none∧f.badsC=0) :
  CallsA Tryz.prog 89 [.pointer (some ⟨r,0,none⟩),.int .i64 n] F M (badP r f n F M):=by
 refine qZ hm Tryz.func89 e89 (Nat.le_of_ble_eq_true rfl) ?_
 obtain ⟨fv,flA,flC,fl,fbA,fbC,fb⟩:=f
 obtain ⟨rfl,rfl,rfl⟩:fb=[]∧fbA=none∧fbC=0:=hb
 have br:=qG (F:=F) hf
 have hFr:=hold.free hf
 have kc:=k145 F M (.slice none 0 0) [] n gX
 have e0:(decide (n∈([]:List Int)))=false:=by simp
 rw [e0] at kc
 simp only [c89,go_sem,br]
 with_reducible refine qQ kc ?_
 simp only [go_sem,br]
 intro rb hFb hMb
 have nrb:¬r=rb:=by rintro rfl; rw [hf] at hMb; cases hMb
 have f2:(M.upd rb ⟨[.int .i64 n],3,1⟩) r=some ⟨(Fo.mk fv flA flC fl none 0 []).cs,130,8⟩:=by rw [Hp.qK nrb]; exact hf
 have b2:=qG (F:=F) f2
 have kpb:Keep M (M.upd rb ⟨[.int .i64 n],3,1⟩):=(Keep.refl _).new hMb
 have bb:blk F (M.upd rb ⟨[.int .i64 n],3,1⟩) rb=some [.int .i64 n]:=wY
 have oldb:Old F (M.upd rb ⟨[.int .i64 n],3,1⟩):=hold.upd hFb
 generalize M.upd rb ⟨[.int .i64 n],3,1⟩=M1 at *
 try simp only [go_sem]
 refine apMG_of (f:=intC) (M0:=M) (xs:=[]) (ys:=[n]) wD intC_plain (by decide) yY.nil kpb ⟨rfl,.inr ⟨⟨rb,0,none⟩,1,rfl,.inr ⟨rb,0,_,rfl,bb,by simp [intC,intV]⟩⟩⟩ (by simp) (by simp) ?_
 rintro v' M6 ⟨g,c,rfl⟩ hfr kp6 ho6 mine6
 have f6:=kp6 _ _ hf
 have own6:=mine6.own
 have hog:=ho6 oldb
 have eF:Value.slice (some ⟨g,0,none⟩) (1:Nat) c=.slice (some ⟨g,0,none⟩) ([n]:List Int).length c:=rfl
 have gr:¬g=r:=by
  rintro rfl
  have:=mine6.new g _ _ rfl
  rw [hf] at this; cases this
 have eC:List.take 7 (Fo.mk fv flA flC fl none 0 []).cs++[Value.slice (some ⟨g,0,none⟩) 1 c]=(Fo.mk fv flA flC fl (some ⟨g,0,none⟩) c [n]).cs:=rfl
 simp only [setH,go_sem,f6]
 refine qW ⟨rfl,hog.upd hFr,fun q hq hqr=>?_,some ⟨g,0,none⟩,c,Hp.qJ _ _ _,?_⟩
 ·rw [Hp.qK hqr]
  cases hqv:M q with
  | none=>exact absurd hqv hq
  | some x=>exact kp6 _ _ hqv
 ·rcases own6 with ⟨h1,_⟩ | ⟨g',cap,h1,h2,h3,h4⟩
  ·cases h1
  ·cases h1
   exact .inr ⟨g,c,rfl,h2,by rw [Hp.qK gr]; exact h3,h4⟩
theorem k80 (r:Nat)(f:Fo)(hold:Old F M)(hf:M r=some ⟨f.cs,130,8⟩)(ho:jQ 1 intC 3 F M (.slice f.badsA f.bads.length f.badsC) f.bads)(hl:f.bads.length≤1) :
  CallsA Tryz.prog 80 [.pointer (some ⟨r,0,none⟩)] F M (Same F M (.tuple #[abV f.v (.slice f.lA f.l.length f.lC),.slice f.badsA f.bads.length f.badsC])):=by
 refine qZ hm Tryz.func80 e80 (Nat.le_of_ble_eq_true rfl) ?_
 simp only [c80,go_sem]
 intro r2 hF2 hM2
 have n2:¬r=r2:=by rintro rfl; rw [hf] at hM2; cases hM2
 have kp2:Keep M (M.upd r2 ⟨[.int .i64 0,.bool false,.int .i64 0,.int .i64 0,.int .i64 0,.int .i64 0,.slice none 0 0],62,7⟩):=(Keep.refl _).new hM2
 have f2:(M.upd r2 ⟨[.int .i64 0,.bool false,.int .i64 0,.int .i64 0,.int .i64 0,.int .i64 0,.slice none 0 0],62,7⟩) r2=some ⟨[.int .i64 0,.bool false,.int .i64 0,.int .i64 0,.int .i64 0,.int .i64 0,.slice none 0 0],62,7⟩:=Hp.qJ _ _ _
 generalize M.upd r2 ⟨[.int .i64 0,.bool false,.int .i64 0,.int .i64 0,.int .i64 0,.int .i64 0,.slice none 0 0],62,7⟩=M1 at *
 have br:=qG (F:=F) (kp2 _ _ hf)
 simp only [go_sem,br]
 with_reducible refine qY (k134 F M1 _ f.bads (ho.keep kp2) (by omega)) ?_
 rintro u G M' ⟨hG,hM⟩
 replace hM:M'=M1:=by
  rcases hM with ⟨_,h⟩ | ⟨g,cap,x,y,n,h,_⟩
  ·exact h
  ·rw [h] at hl; simp at hl
 rw [hG,hM]
 refine ⟨(fun h=>by cases h),?_⟩
 simp only [setH,go_sem,br,f2,n2]
 exact qX (M:=M) (kp2.new hM2) ⟨rfl,rfl,rfl⟩
def jK (n sz o:Int):Int:=if sz < o+n then 1 else if o.tmod n=0 then 0 else 3
def spotR (s:Si)(k b o:Int)(r:Nat)(f:Fo)(F:Fz)(M:Hp)(u:Value)(F':Fz)(M':Hp):Prop:=
 F'=F∧Old F M'∧(∀q,¬M q=none→¬q=r→M' q=M q)∧
 ((jK (wX s.p.ptr k) (szAt (wJ s.p) b) o=0∧M' r=M r∧∃a c,u=.slice a ([⟨b,o⟩]:List Sp).length c∧RdG 2 Sp.cs F M' (.slice a ([⟨b,o⟩]:List Sp).length c) [⟨b,o⟩])∨
  (¬jK (wX s.p.ptr k) (szAt (wJ s.p) b) o=0∧u=.slice none 0 0∧∃a c,M' r=some ⟨(Fo.mk f.v f.lA f.lC f.l a c [jK (wX s.p.ptr k) (szAt (wJ s.p) b) o]).cs,130,8⟩∧jQ 1 intC 3 F M' (.slice a 1 c) [jK (wX s.p.ptr k) (szAt (wJ s.p) b) o]))
def spI (s:Si)(k b o:Int)(r:Nat)(f:Fo)(F0:Fz)(M0 M2:Hp)(i:Nat)(σ:Env)(F:Fz)(M:Hp):Prop:=
 F0=F∧Ax.look σ 37=some (.int .i64 i)∧((i=0∧M2=M∧Ax.look σ 8=some (.slice none 0 0))∨(i=1∧∃u,Ax.look σ 8=some u∧spotR s k b o r f F0 M0 u F0 M))
theorem k79 (s:Si)(k o:Int)(b:Nat)(vo:V)(a:Option Addr)(c:Nat)(r:Nat)(f:Fo)(hold:Old F M)(hp:s.p.rd F)(hptr:s.p.ptr=2∨s.p.ptr=4)(hk:isS k=true)(hsz:∀b,0≤szAt (wJ s.p) b∧szAt (wJ s.p) b≤32)
  (hb:1≤b∧b≤s.p.vars.length∧b≤6)(ho:Is1 vo 8 o)(ho32:o≤32)(hx:RdG 7 Ba.cs F M (.slice a 1 c) [⟨b,vo⟩])(hf:M r=some ⟨f.cs,130,8⟩)(hbd:f.bads=[]∧f.badsA=none∧f.badsC=0) :
  CallsA Tryz.prog 79 [s.val,abV V.zero (.slice a 1 c),.int .i64 k,.pointer (some ⟨r,0,none⟩)] F M (spotR s k b o r f F M):=by
 refine qZ hm Tryz.func79 e79 (Nat.le_of_ble_eq_true rfl) ?_
 have hfew:=hp.few
 have hspn:=jX hptr (.inr (.inr hk))
 have hor:=ho.rng
 simp only [c79,go_sem]
 intro r4 hF4 hM4
 generalize eQ:M.upd r4 ⟨s.cs,132,10⟩=M1 at *
 obtain ⟨kp4,old4,f4⟩:=nw eQ hold hF4 hM4
 clear eQ
 simp only [go_sem]
 intro r5 hF5 hM5
 generalize eQ:M1.upd r5 ⟨yJ V.zero (.slice a 1 c),62,7⟩=M2 at *
 obtain ⟨kp5,old5,f5⟩:=nw eQ old4 hF5 hM5
 clear eQ
 have g4:=kp5 _ _ f4
 have kp:=kp4.trans kp5
 clear hM4 hM5 kp4 kp5 old4
 have b4:=qG (F:=F) g4
 have b5:=qG (F:=F) f5
 have hF4':F.f r4=none:=hF4
 simp only [go_sem,b4]
 with_reducible refine qQ (k129 F M2 s.p.big s.p.ptr k (.inr (.inr hk))) ?_
 obtain ⟨n,hn⟩:∃n:Nat,wX s.p.ptr k=n:=⟨(wX s.p.ptr k).toNat,by omega⟩
 simp only [go_sem]
 intro r20 hF20 hM20
 have kp20:Keep M2 (M2.upd r20 ⟨[.int .i64 0],3,1⟩):=(Keep.refl _).new hM20
 have old20:Old F (M2.upd r20 ⟨[.int .i64 0],3,1⟩):=old5.upd hF20
 have b20:blk F (M2.upd r20 ⟨[.int .i64 0],3,1⟩) r20=some [.int .i64 0]:=wY
 have f20:(M2.upd r20 ⟨[.int .i64 0],3,1⟩) r20=some ⟨[.int .i64 0],3,1⟩:=Hp.qJ _ _ _
 generalize M2.upd r20 ⟨[.int .i64 0],3,1⟩=M3 at *
 have b43:=qG (F:=F) (kp20 _ _ g4)
 simp only [go_sem,b43]
 intro r27 hF27 hM27
 have kp27:Keep M3 (M3.upd r27 ⟨[.slice (some ⟨r20,0,none⟩) 1 1,.slice s.p.vA s.p.vars.length s.p.vC,.slice s.p.nA s.p.news.length s.p.nC],24,3⟩):=(Keep.refl _).new hM27
 have old27:Old F (M3.upd r27 ⟨[.slice (some ⟨r20,0,none⟩) 1 1,.slice s.p.vA s.p.vars.length s.p.vC,.slice s.p.nA s.p.news.length s.p.nC],24,3⟩):=old20.upd hF27
 have b27:blk F (M3.upd r27 ⟨[.slice (some ⟨r20,0,none⟩) 1 1,.slice s.p.vA s.p.vars.length s.p.vC,.slice s.p.nA s.p.news.length s.p.nC],24,3⟩) r27=some [.slice (some ⟨r20,0,none⟩) 1 1,.slice s.p.vA s.p.vars.length s.p.vC,.slice s.p.nA s.p.news.length s.p.nC]:=wY
 generalize M3.upd r27 ⟨[.slice (some ⟨r20,0,none⟩) 1 1,.slice s.p.vA s.p.vars.length s.p.vC,.slice s.p.nA s.p.news.length s.p.nC],24,3⟩=M4 at *
 have b204:=qG (F:=F) (kp27 _ _ f20)
 have g44:=kp27 _ _ (kp20 _ _ g4)
 have g54:=kp27 _ _ (kp20 _ _ f5)
 have kp4:=(kp.trans kp20).trans kp27
 simp only [go_sem]
 refine qY (k130 F _ (some ⟨r27,0,none⟩) 3 [(some ⟨r20,0,none⟩,1,[0]),(s.p.vA,s.p.vC,s.p.vars),(s.p.nA,s.p.nC,s.p.news)] old27 (gJ slC_len (by simp) (by simp) (by rw [b27]; simp [slC])) ?_ (by simp)) ?_
 ·intro y hy
  simp only [List.mem_cons,List.not_mem_nil,or_false] at hy
  rcases hy with rfl | rfl | rfl
  ·exact ⟨gJ wD (by simp) (by simp) (by rw [b204]; rfl),by simp,by simp⟩
  ·exact ⟨hp.vars _ old27,by simp only []; omega,hp.zero.1⟩
  ·exact ⟨hp.news _ old27,by simp only []; omega,hp.zero.2.1⟩
 rintro u G M5 hq
 have e2:([(some ⟨r20,0,none⟩,1,[0]),(s.p.vA,s.p.vC,s.p.vars),(s.p.nA,s.p.nC,s.p.news)]:List Lz).flatMap (·.2.2)=wJ s.p:=by simp [wJ]
 rw [e2] at hq
 have hlen:(wJ s.p).length=1+s.p.vars.length+s.p.news.length:=sizes_len s.p
 obtain ⟨hG,_,kp5,ho5,aq,cq,rfl,rdq⟩:=hq.le wD (by omega)
 have old5':=ho5 old27
 replace hG:=hG.symm
 subst hG
 refine ⟨(fun h=>by cases h),?_⟩
 have b55:=qG (F:=F) (kp5 _ _ g54)
 have hx5:=hx.keep (kp4.trans kp5) old5'
 simp only [go_sem,b55]
 with_reducible refine qY (k131 F M5 _ [⟨b,vo⟩] 231 (by decide) (by simp) old5' hx5 (fun x h=>by rw [List.mem_singleton.1 h]; exact ho.ok)) ?_
 rintro u2 G2 M6 hq2
 unfold memsR at hq2
 rw [show memB [(⟨b,vo⟩:Ba)]=[⟨true,0,b,o⟩] from sole_mem ho ho32] at hq2
 rcases hq2 with ⟨_,w,rfl,hq2⟩ | ⟨h,_⟩
 rotate_left
 ·simp at h
 obtain ⟨hG,_,kp6,ho6,am,cm,rfl,rdm⟩:=hq2.le (sz:=4) (fun _=>rfl) (by simp)
 have old6:=ho6 old5'
 replace hG:=hG.symm
 subst hG
 refine ⟨(fun h=>by cases h),?_⟩
 have rdq6:=rdq.keep kp6 old6
 have kp6':=((kp4.trans kp5).trans kp6)
 have g46:=kp6 _ _ (kp5 _ _ g44)
 clear hq hq2 rdq kp27 kp20 hx hx5 b55 g54 g44 b204 b43 b20 f20 old27 old20 b27
 have l1:([⟨true,0,b,o⟩]:List Sc).length=1:=rfl
 simp only [go_sem]
 refine yX 1 (spI s k b o r f F M M6) ⟨rfl,(by simp only [go_sem, *] <;> rfl),.inl ⟨rfl,rfl,(by simp only [go_sem, *] <;> rfl)⟩⟩ ?_
 rintro i σ F' M7 hi hst ⟨rfl,q37,hcase⟩
 have q3:=hst 3 rfl
 have q4:=hst 4 rfl
 have q9:=hst 9 rfl
 have q10:=hst 10 rfl
 have q35:=hst 35 rfl
 have q36:=hst 36 rfl
 simp only [go_sem] at q3 q4 q9 q10 q35 q36
 clear hst
 rcases hcase with ⟨rfl,rfl,q8⟩ | ⟨rfl,u,q8,hres⟩
 rotate_left
 ·simp only [go_sem,q8,q36,q37]
  exact qW hres
 obtain ⟨bb,ob,cs,rfl,hbb,rows⟩:=rdm.rows (by simp)
 obtain ⟨d1,d2⟩:=rows 0 (by simp)
 clear rows
 replace d2:List.take 4 (List.drop (ob+0 * 4) cs)=(⟨true,0,b,o⟩:Sc).cs:=d2
 have b46:=qG (F:=F) g46
 have d1':ob+4≤cs.length:=d1
 have d2':List.take 4 (List.drop ob cs)=(⟨true,0,b,o⟩:Sc).cs:=by simpa using d2
 have z1:((0:Nat):Int) < 1:=by decide
 have ei:IntKind.i64.wrap ((0:Nat):Int)=0:=rfl
 have ei:IntKind.i64.wrap (((0:Nat):Int)+1)=1:=rfl
 simp only [go_sem,q35,q36,q37,hbb,d1',d2',Int.toNat_zero,Nat.zero_mul,Nat.add_zero]
 intro r14 hF14 hM14
 simp only [setH,Hp.wG,go_sem]
 generalize eQ:M6.upd r14 ⟨(⟨true,0,b,o⟩:Sc).cs,50,4⟩=M7 at *
 obtain ⟨kp14,old14,f14⟩:=nw eQ old6 hF14 hM14
 clear eQ
 have b14:=qG (F:=F) f14
 have b47:=qG (F:=F) (kp14 _ _ g46)
 have kp7:=kp6'.trans kp14
 simp only [go_sem,q4,b14,b47]
 with_reducible refine qQ (k132 F M7 s b ⟨by omega,by omega⟩ hfew.1) ?_
 simp only [go_sem,q4,b14,b47]
 with_reducible refine qQ (k133 F M7 s b ⟨by omega,by omega⟩ hfew.1) ?_
 have hil:b < (wJ s.p).length:=by omega
 have hil':(b:Int) < (wJ s.p).length:=by omega
 have hb0:(0:Int)≤b:=by omega
 obtain ⟨bs,os,css,rfl,hbs,ds⟩:=Ax.gH (rdq6.keep kp14 old14) hil
 have es:=szAt_get hil
 have ew:IntKind.i64.wrap (o+(n:Int))=o+n:=w64 (by omega) (by omega)
 have hz:=hsz b
 rw [es] at hz
 have hf7:=kp7 _ _ hf
 have e8:jK (wX s.p.ptr k) (szAt (wJ s.p) b) o=jK n (wJ s.p)[b] o:=by rw [hn,es]
 have e9:∀u M',Old F M'→(∀q,¬M q=none→¬q=r→M' q=M q)→((jK n (wJ s.p)[b] o=0∧M' r=M r∧∃a c,u=.slice a ([⟨b,o⟩]:List Sp).length c∧RdG 2 Sp.cs F M' (.slice a ([⟨b,o⟩]:List Sp).length c) [⟨b,o⟩])∨
   (¬jK n (wJ s.p)[b] o=0∧u=.slice none 0 0∧∃a c,M' r=some ⟨(Fo.mk f.v f.lA f.lC f.l a c [jK n (wJ s.p)[b] o]).cs,130,8⟩∧jQ 1 intC 3 F M' (.slice a 1 c) [jK n (wJ s.p)[b] o]))→spotR s k b o r f F M u F M':=fun u M' h1 h2 h3=>by
  unfold spotR; rw [e8]; exact ⟨rfl,h1,h2,h3⟩
 have hkeep:∀M':Hp,(∀q,¬M7 q=none→¬q=r→M' q=M7 q)→∀q,¬M q=none→¬q=r→M' q=M q:=fun M' h q hq hqr=>by
  cases hqv:M q with
  | none=>exact absurd hqv hq
  | some x=>
   have:=kp7 _ _ hqv
   rw [h q (by rw [this]; simp) hqr,this]
 clear hsz es e8
 generalize (wJ s.p)[b]=z at *
 have hn0:¬(n:Int)=0:=by omega
 by_cases c1:z < o+n
 ·have ec:jK n z o=1:=by unfold jK; rw [if_pos c1]
  simp only [go_sem,q3,q9,q10,hn,b14,hil',hb0,hbs,ds,Int.toNat_natCast,ew,c1]
  with_reducible refine qY (k89 F M7 r f 1 old14 hf7 hbd) ?_
  rintro u G M8 ⟨hG,old8,hk8,a8,c8,h8,own8⟩
  replace hG:=hG.symm
  subst hG
  refine ⟨(fun h=>by cases h),?_⟩
  simp only [go_sem,q37]
  exact ⟨by decide,rfl,(by simp only [go_sem, *] <;> rfl),.inr ⟨rfl,_,(by simp only [go_sem, *] <;> rfl),e9 _ _ old8 (hkeep _ hk8) (.inr ⟨by rw [ec]; decide,rfl,a8,c8,by rw [ec]; exact h8,by rw [ec]; exact own8⟩)⟩⟩
 by_cases c2:o.tmod n=0
 rotate_left
 ·have ec:jK n z o=3:=by unfold jK; rw [if_neg c1,if_neg c2]
  simp only [go_sem,q3,q9,q10,hn,b14,hil',hb0,hbs,ds,Int.toNat_natCast,ew,c1,hn0,c2]
  with_reducible refine qY (k89 F M7 r f 3 old14 hf7 hbd) ?_
  rintro u G M8 ⟨hG,old8,hk8,a8,c8,h8,own8⟩
  replace hG:=hG.symm
  subst hG
  refine ⟨(fun h=>by cases h),?_⟩
  simp only [go_sem,q37]
  exact ⟨by decide,rfl,(by simp only [go_sem, *] <;> rfl),.inr ⟨rfl,_,(by simp only [go_sem, *] <;> rfl),e9 _ _ old8 (hkeep _ hk8) (.inr ⟨by rw [ec]; decide,rfl,a8,c8,by rw [ec]; exact h8,by rw [ec]; exact own8⟩)⟩⟩
 have ec:jK n z o=0:=by unfold jK; rw [if_neg c1,if_pos c2]
 have eS:Value.agg #[Value.int .i64 b,Value.int .i64 o]=Sp.val ⟨b,o⟩:=rfl
 simp only [go_sem,q8,q9,q10,hn,b14,hil',hb0,hbs,ds,Int.toNat_natCast,ew,c1,hn0,c2]
 intro rb hFb hMb
 simp only [go_sem]
 refine apMG_of (f:=Sp.cs) (M0:=M7) (xs:=[]) (ys:=[⟨b,o⟩]) Sp.len Sp.plain (by decide) yY.nil ((Keep.refl _).new hMb) ⟨rfl,.inr ⟨⟨rb,0,none⟩,1,rfl,.inr ⟨rb,0,_,rfl,wY,by simp [Sp.cs]⟩⟩⟩ (by simp) (by simp) ?_
 rintro v' M8 ⟨g,c8,rfl⟩ hfr kp8 ho8 mine8
 have old8:=ho8 (old14.upd hFb)
 simp only [go_sem,q37]
 refine ⟨by decide,rfl,(by simp only [go_sem, *] <;> rfl),.inr ⟨rfl,_,(by simp only [go_sem, *] <;> rfl),e9 _ _ old8 (hkeep _ fun q hq _=>?_) (.inl ⟨ec,?_,_,_,rfl,mine8.own.rd Sp.len (by simp)⟩)⟩⟩
 ·cases hqv:M7 q with
  | none=>exact absurd hqv hq
  | some x=>exact kp8 _ _ hqv
 ·rw [kp8 _ _ hf7,hf]
theorem k38 (p:Pg)(a:Option Addr)(c:Nat)(b o:Int)(vo:V)(hf:p.vars.length≤2500∧p.news.length≤2500)(hb:1≤b∧b≤p.vars.length∧b≤6)(ho:Is1 vo 8 o)(ho32:o≤32)(hx:RdG 7 Ba.cs F M (.slice a 1 c) [⟨b,vo⟩])(hold:Old F M) :
  CallsA Tryz.prog 38 [p.val,abV V.zero (.slice a 1 c)] F M (Same F M (.bool true)):=by
 refine qZ hm Tryz.func38 e38 (Nat.le_of_ble_eq_true rfl) ?_
 have hone:=OneIs.ptr (v:=vo) (b:=b) (o:=o) ⟨by omega,hb.2.2⟩ ho ho32 (by omega)
 simp only [c38,go_sem]
 intro r2 hF2 hM2
 generalize eQ:M.upd r2 ⟨p.cs,28,7⟩=M1 at *
 obtain ⟨kp2,old2,f2⟩:=nw eQ hold hF2 hM2
 clear eQ
 simp only [go_sem]
 intro r3 hF3 hM3
 generalize eQ:M1.upd r3 ⟨yJ V.zero (.slice a 1 c),62,7⟩=M2 at *
 obtain ⟨kp3,old3,f3⟩:=nw eQ old2 hF3 hM3
 clear eQ
 have b2:=qG (F:=F) (kp3 _ _ f2)
 have b3:=qG (F:=F) f3
 have kp:=kp2.trans kp3
 have hx2:=hx.keep kp old3
 simp only [go_sem,b3]
 have km:=k40 F M2 7 V.zero (.slice a 1 c) [⟨b,vo⟩] hx2
 rw [hone.may] at km
 with_reducible refine qQ km ?_
 have ew:IntKind.i64.wrap ((p.vars.length:Int)+(p.news.length:Int))=p.vars.length+p.news.length:=w64 (by omega) (by omega)
 have kk:=k41 F M2 a c [⟨b,vo⟩] ((p.vars.length:Int)+(p.news.length:Int)) hx2
 have ek:knownB [(⟨b,vo⟩:Ba)] ((p.vars.length:Int)+(p.news.length:Int))=true:=by
  unfold knownB
  simp
  omega
 rw [ek] at kk
 simp only [go_sem,b2,b3,ew]
 with_reducible refine qQ kk ?_
 simp only [go_sem]
 exact qX kp ⟨rfl,rfl,rfl⟩
def takeV (p:Pg)(m:List Bl)(k:Int)(b:Nat)(o:Int):Sc × Int:=
 if jK (wX p.ptr k) (szAt (wJ p) b) o=0 then yW p.big k (cutM m b o.toNat (wX p.ptr k).toNat) else (⟨false,0,0,0⟩,jK (wX p.ptr k) (szAt (wJ p) b) o)
def takeR (k:Int)(r:Sc × Int)(F:Fz)(M:Hp)(u:Value)(F':Fz)(M':Hp):Prop:=
 F'=F∧Keep M M'∧Old F M'∧∃f:Fo,u=.tuple #[abV f.v (.slice f.lA f.l.length f.lC),.slice f.badsA f.bads.length f.badsC]∧(jQ 7 Ba.cs 102 F M' (.slice f.lA f.l.length f.lC) f.l∧jQ 1 intC 3 F M' (.slice f.badsA f.bads.length f.badsC) f.bads)∧f.l.length≤7∧FoundIs k r f.v f.l f.bads
theorem stay_but {M M':Hp}{r:Nat}{x0:Ent}(hr:M r=some x0)(h:∀q,¬M q=none→¬q=r→M' q=M q){t:TypeId}(ht:¬x0.elem=t):∀q x,M q=some x→x.elem=t→M' q=some x:=fun q x hq he=>by
 have:¬q=r:=by rintro rfl; rw [hr] at hq; cases hq; exact ht he
 rw [h q (by rw [hq]; simp) this,hq]
def nilI (F0:Fz)(M2:Hp)(i:Nat)(σ:Env)(F:Fz)(M:Hp):Prop:=F0=F∧Ax.look σ 36=some (.int .i64 i)∧M2=M
def tkJ (k:Int)(r:Sc × Int)(r10:Nat)(F0:Fz)(M2:Hp)(i:Nat)(σ:Env)(F:Fz)(M:Hp):Prop:=
 F0=F∧Ax.look σ 36=some (.int .i64 i)∧((i=0∧M2=M)∨(i=1∧(∀q,¬M2 q=none→¬q=r10→M q=M2 q)∧Old F0 M∧∃f:Fo,M r10=some ⟨f.cs,130,8⟩∧jQ 7 Ba.cs 102 F0 M (.slice f.lA f.l.length f.lC) f.l∧f.l.length≤7∧jQ 1 intC 3 F0 M (.slice f.badsA f.bads.length f.badsC) f.bads∧FoundIs k r f.v f.l f.bads))
def tinI (nv:V)(l:List Int)(r10:Nat)(F0:Fz)(M2:Hp)(i:Nat)(σ:Env)(F:Fz)(M:Hp):Prop:=
 F0=F∧Ax.look σ 50=some (.int .i64 i)∧(∀q,¬M2 q=none→¬q=r10→M q=M2 q)∧Old F0 M∧∃a c,(i=0→a=none∧c=0)∧M r10=some ⟨(Fo.mk nv none 0 [] a c (l.take i)).cs,130,8⟩∧jQ 1 intC 3 F0 M (.slice a (l.take i).length c) (l.take i)
theorem FitM.size_at {p:Pg}{m:List Bl}(h:FitM p m){b:Nat}(hb:1≤b∧b≤p.vars.length):((yZ m b).l.length:Int)=szAt (wJ p) b:=by
 have hl:b < m.length:=by rw [h.len]; omega
 rw [yH hl]
 exact h.size b hl (h.live b hl hb.1 hb.2)
theorem FoundIs.few {k:Int}{r:Sc × Int}{v:V}{l:List Ba}{bads:List Int}(h:FoundIs k r v l bads):bads.length≤1:=by
 rcases h with ⟨_,h,_⟩ | ⟨_,h,_⟩ <;> rw [h] <;> simp
theorem FoundIs.may {k:Int}{r:Sc × Int}{v:V}{l:List Ba}{bads:List Int}(h:FoundIs k r v l bads):absB k v l=true:=by
 rcases h with ⟨_,_,h⟩ | ⟨_,_,h⟩
 ·exact h.may
 ·exact h.may
theorem FoundIs.both {k:Int}{r:Sc × Int}{v0 v v':V}{l l':List Ba}{bads:List Int}(h:FoundIs k r v l bads)(hn:NoneIs k v0 [])(hb:BothA k v0 [] v l v' l'):FoundIs k r v' l' bads:=by
 rcases h with ⟨h1,h2,h3⟩ | ⟨h1,h2,h3⟩
 ·exact .inl ⟨h1,h2,.both hn h3 hb⟩
 ·exact .inr ⟨h1,h2,.both hn h3 hb⟩
theorem k49 (p:Pg)(e:En)(m:List Bl)(k o:Int)(b:Nat)(vo:V)(a:Option Addr)(c:Nat)(hL:Look F ⟨p,e⟩ m)(hold:Old F M)(hp:p.rd F)(hk:isS k=true)
  (hb:1≤b∧b≤p.vars.length∧b≤6)(ho:Is1 vo 8 o)(ho32:o≤32)(hx:RdG 7 Ba.cs F M (.slice a 1 c) [⟨b,vo⟩]) :
  CallsA Tryz.prog 49 [p.val,e.val,abV V.zero (.slice a 1 c),.int .i64 k] F M (takeR k (takeV p m k b o) F M):=by
 refine qZ hm Tryz.func49 e49 (Nat.le_of_ble_eq_true rfl) ?_
 have hptr:p.ptr=2∨p.ptr=4:=(jW hL.hc).1
 have hspn:=jX hptr (.inr (.inr hk))
 have hor:=ho.rng
 obtain ⟨on,rfl⟩:=Int.eq_ofNat_of_zero_le hor.1
 have hszb:∀b,0≤szAt (wJ p) b∧szAt (wJ p) b≤32:=sizes_in hL.hc
 simp only [c49,go_sem]
 intro r4 hF4 hM4
 generalize eQ:M.upd r4 ⟨p.cs,28,7⟩=M1 at *
 obtain ⟨kp4,old4,f4⟩:=nw eQ hold hF4 hM4
 clear eQ
 simp only [go_sem]
 intro r5 hF5 hM5
 generalize eQ:M1.upd r5 ⟨e.cs,46,3⟩=M2 at *
 obtain ⟨kp5,old5,f5⟩:=nw eQ old4 hF5 hM5
 clear eQ
 simp only [go_sem]
 intro r6 hF6 hM6
 generalize eQ:M2.upd r6 ⟨yJ V.zero (.slice a 1 c),62,7⟩=M3 at *
 obtain ⟨kp6,old6,f6⟩:=nw eQ old5 hF6 hM6
 clear eQ
 simp only [go_sem]
 intro r8 hF8 hM8
 generalize eQ:M3.upd r8 ⟨[.int .i64 0,.bool false,.int .i64 0,.int .i64 0,.int .i64 0,.int .i64 0,.slice none 0 0],62,7⟩=M4 at *
 obtain ⟨kp8,old8,f8⟩:=nw eQ old6 hF8 hM8
 clear eQ
 have kp:=((kp4.trans kp5).trans kp6).trans kp8
 have g6:=kp8 _ _ f6
 have g5:=kp8 _ _ (kp6 _ _ f5)
 have g4:=kp8 _ _ (kp6 _ _ (kp5 _ _ f4))
 have n8:M r8=none:=((kp4.trans kp5).trans kp6).free hM8
 clear hM4 hM5 hM6 hM8 kp4 kp5 kp6 kp8 old4 old5 old6 f4 f5 f6
 simp only [go_sem]
 with_reducible refine qQ (k87 F M4 k hk) ?_
 have hnone:=none_is hk
 generalize (if k=7 then V.zero else V.nothing (ofW k))=nv at *
 have eF:Value.agg (yJ nv (.slice none 0 0)++[Value.slice none 0 0]).toArray=(Fo.mk nv none 0 [] none 0 []).val:=rfl
 simp only [go_sem,eF]
 intro r10 hF10 hM10
 generalize eQ:M4.upd r10 ⟨(Fo.mk nv none 0 [] none 0 []).cs,130,8⟩=M5 at *
 obtain ⟨kp10,old10,f10⟩:=nw eQ old8 hF10 hM10
 clear eQ
 have n10:M r10=none:=kp.free hM10
 have b4:=qG (F:=F) (kp10 _ _ g4)
 have b5:=qG (F:=F) (kp10 _ _ g5)
 have hno:e.no=false:=hL.no
 have eS:List.take 7 (p.cs++[Value.bool false,Value.slice none 0 0,Value.slice none 0 0])++e.cs++List.drop 10 (p.cs++[Value.bool false,Value.slice none 0 0,Value.slice none 0 0])=(Si.mk p e).cs:=rfl
 try simp only [go_sem,b4,b5,hno,eS]
 intro r11 hF11 hM11
 simp only [setH,Hp.wG,go_sem]
 generalize eQ:M5.upd r11 ⟨(Si.mk p e).cs,132,10⟩=M6 at *
 obtain ⟨kp11,old11,f11⟩:=nw eQ old10 hF11 hM11
 clear eQ
 have g10:=kp11 _ _ f10
 have n11:¬r11=r10:=by rintro rfl; rw [f10] at hM11; cases hM11
 have n810:¬r8=r10:=by rintro rfl; rw [f8] at hM10; cases hM10
 have kp6:=(kp.trans kp10).trans kp11
 have g66:=kp11 _ _ (kp10 _ _ g6)
 have g86:=kp11 _ _ (kp10 _ _ f8)
 have b66:=qG (F:=F) g66
 have b11:=qG (F:=F) f11
 have hx6:=hx.keep kp6 old11
 clear b4 b5 f8 f10 kp10 kp11 old8 old10 hM10 hM11 g4 g5 g6 eF
 simp only [go_sem,b66]
 have ks:=k79 F M6 ⟨p,e⟩ k on b vo a c r10 (Fo.mk nv none 0 [] none 0 []) old11 hp hptr hk hszb hb ho ho32 hx6 g10 ⟨rfl,rfl,rfl⟩
 with_reducible refine qY ks ?_
 rintro u G M7 ⟨hG,old7,hk7,hcase⟩
 dsimp only at hcase
 replace hG:=hG.symm
 subst hG
 refine ⟨(fun h=>by cases h),?_⟩
 have hlt:∀M':Hp,(∀q,¬M6 q=none→¬q=r10→M' q=M6 q)→Keep M M':=fun M' h q x hq=>by
  have:=kp6 q x hq
  rw [h q (by rw [this]; simp) (by rintro rfl; rw [n10] at hq; cases hq),this]
 rcases hcase with ⟨hc,h7,a7,c7,rfl,rd7⟩ | ⟨hc,rfl,a7,c7,h7,own7⟩
 rotate_left
 ·simp only [go_sem]
  refine yX 0 (nilI F M7) ⟨rfl,(by simp only [go_sem, *] <;> rfl),rfl⟩ ?_
  rintro i σ F' M8 hi hst ⟨rfl,q36,rfl⟩
  obtain rfl:i=0:=by omega
  have q8:=hst 8 rfl
  have q10:=hst 10 rfl
  have q35:=hst 35 rfl
  simp only [go_sem] at q8 q10 q35
  clear hst
  have g87:M7 r8=_:=(hk7 r8 (by rw [g86]; simp) n810).trans g86
  simp only [go_sem,q10,q35,q36]
  have kt:=k80 F M7 r10 (Fo.mk nv none 0 [] a7 c7 [jK (wX p.ptr k) (szAt (wJ p) b) on]) old7 h7 own7 (by simp)
  with_reducible refine qQ kt ?_
  simp only [setH,go_sem,q8,g87]
  refine qW ⟨rfl,(hlt M7 hk7).new n8,old7.upd hF8,Fo.mk nv none 0 [] a7 c7 [jK (wX p.ptr k) (szAt (wJ p) b) on],rfl,⟨.inl ⟨rfl,rfl⟩,?_⟩,by simp,?_⟩
  ·exact jQ.stay own7 (fun q x hq he=>by
    have:¬q=r8:=by rintro rfl; rw [g87] at hq; cases hq; exact absurd he (by decide)
    rw [Hp.qK this]; exact hq)
  ·unfold takeV
   rw [if_neg hc]
   exact .inr ⟨hc,rfl,hnone⟩
 have hfit:((yZ m (b:Int)).l.length:Int)=szAt (wJ p) b:=FitM.size_at hL.fit ⟨hb.1,hb.2.1⟩
 have hfl:on+(wX p.ptr k).toNat≤(yZ m (b:Int)).l.length:=by
  have h2:¬szAt (wJ p) b < on+wX p.ptr k:=fun h=>by
   unfold jK at hc; rw [if_pos h] at hc; cases hc
  omega
 have htv:takeV p m k b on=yW p.big k (cutM m b on (wX p.ptr k).toNat):=by unfold takeV; rw [if_pos hc]; rfl
 rw [htv]
 have g87:M7 r8=_:=(hk7 r8 (by rw [g86]; simp) n810).trans g86
 have g117:M7 r11=_:=(hk7 r11 (by rw [f11]; simp) n11).trans f11
 have g107:M7 r10=_:=h7.trans g10
 clear htv ks kp6 b66 b11 f11 g86 h7
 simp only [go_sem]
 refine yX 1 (tkJ k (yW p.big k (cutM m b on (wX p.ptr k).toNat)) r10 F M7) ⟨rfl,(by simp only [go_sem, *] <;> rfl),.inl ⟨rfl,rfl⟩⟩ ?_
 rintro i σ F' M8 hi hst ⟨rfl,q36,hcase⟩
 have q3:=hst 3 rfl
 have q8:=hst 8 rfl
 have q10:=hst 10 rfl
 have q11:=hst 11 rfl
 have q34:=hst 34 rfl
 have q35:=hst 35 rfl
 simp only [go_sem] at q3 q8 q10 q11 q34 q35
 clear hst
 rcases hcase with ⟨rfl,rfl⟩ | ⟨rfl,hkq,oldq,f,hfq,howq,hl7,hbo,hfo⟩
 rotate_left
 ·have g88:M8 r8=_:=(hkq r8 (by rw [g87]; simp) n810).trans g87
  have kt:=k80 F M8 r10 f oldq hfq hbo (FoundIs.few hfo)
  have z1:¬((1:Nat):Int) < 1:=by decide
  simp only [go_sem,q10,q35,q36]
  with_reducible refine qQ kt ?_
  simp only [setH,go_sem,q8,g88]
  have hst8:∀t:TypeId,¬62=t→∀q x,M8 q=some x→x.elem=t→(M8.upd r8 ⟨yJ f.v (.slice f.lA f.l.length f.lC),62,7⟩) q=some x:=fun t ht q x hq he=>by
   have:¬q=r8:=by rintro rfl; rw [g88] at hq; cases hq; exact ht he
   rw [Hp.qK this]; exact hq
  refine qW ⟨rfl,(hlt M8 (fun q hq hqr=>(hkq q (by rw [hk7 q hq hqr]; exact hq) hqr).trans (hk7 q hq hqr))).new n8,oldq.upd hF8,f,rfl,⟨jQ.stay howq (hst8 _ (by decide)),jQ.stay hbo (hst8 _ (by decide))⟩,hl7,hfo⟩
 have b117:=qG (F:=F) g117
 have z1:((0:Nat):Int) < 1:=by decide
 obtain ⟨bb,ob,cs,rfl,hbb,rows⟩:=rd7.rows (by simp)
 obtain ⟨d1,d2⟩:=rows 0 (by simp)
 clear rows
 replace d2:List.take 2 (List.drop (ob+0 * 2) cs)=(⟨b,on⟩:Sp).cs:=d2
 have d1':ob+2≤cs.length:=d1
 have d2':List.take 2 (List.drop ob cs)=(⟨b,on⟩:Sp).cs:=by simpa using d2
 have ei:IntKind.i64.wrap (((0:Nat):Int)+1)=1:=rfl
 simp only [go_sem,q34,q35,q36,hbb,d1',d2',Int.toNat_zero,Nat.zero_mul,Nat.add_zero]
 intro r13 hF13 hM13
 simp only [setH,Hp.wG,go_sem]
 generalize eQ:M7.upd r13 ⟨(⟨b,on⟩:Sp).cs,138,2⟩=M8 at *
 obtain ⟨kp13,old13,f13⟩:=nw eQ old7 hF13 hM13
 clear eQ
 have b13:=qG (F:=F) f13
 have b118:=qG (F:=F) (kp13 _ _ g117)
 simp only [go_sem,q3,q11,b13,b118]
 have ka:=k88 F M8 ⟨p,e⟩ m b on k hL old13 hk hfl
 with_reducible refine qY ka ?_
 generalize yW p.big k (cutM m b on (wX p.ptr k).toNat)=rr at *
 rintro u G M9 ⟨hG,kp9,old9,f,rfl,hbp,hip,hfo⟩
 replace hG:=hG.symm
 subst hG
 refine ⟨(fun h=>by cases h),?_⟩
 simp only [go_sem]
 intro r14 hF14 hM14
 simp only [setH,Hp.wG,go_sem]
 generalize eQ:M9.upd r14 ⟨f.cs,130,8⟩=M10 at *
 obtain ⟨kp14,old14,f14⟩:=nw eQ old9 hF14 hM14
 clear eQ
 have g1010:M10 r10=_:=kp14 _ _ (kp9 _ _ (kp13 _ _ g107))
 have b14:=qG (F:=F) f14
 have hip10:=hip.step (fun r x hr _=>kp14 r x hr)
 have hbp10:=hbp.step (fun r x hr _=>kp14 r x hr)
 have kp710:=(kp13.trans kp9).trans kp14
 have hf1:=FoundIs.few hfo
 have nof:∀t:TypeId,¬t=130→∀M':Hp,(∀q,¬M10 q=none→¬q=r10→M' q=M10 q)→∀q x,M10 q=some x→x.elem=t→M' q=some x:=fun t ht M' h=>stay_but g1010 h (t:=t) (fun h'=>ht h'.symm)
 have n1410:¬r14=r10:=by rintro rfl; rw [kp9 _ _ (kp13 _ _ g107)] at hM14; cases hM14
 clear kp13 kp9 kp14 hbp hip f13 b13 b118 b117 old13 old9 hM13 hM14 g117 g107 hk7 rd7 hbb d1 d2 d1' d2' ka
 refine yX f.bads.length (tinI nv f.bads r10 F M10) ⟨rfl,(by simp only [go_sem, *] <;> rfl),fun q _ _=>rfl,old14,none,0,fun _=>⟨rfl,rfl⟩,g1010,.inl ⟨rfl,rfl⟩⟩ ?_
 rintro j σ' F' M11 hj hst' ⟨rfl,q50,hk11,old11',a11,c11,h0,f11,own11⟩
 have t3:=hst' 3 rfl
 have t10:=hst' 10 rfl
 have t14:=hst' 14 rfl
 have t36:=hst' 36 rfl
 have t48:=hst' 48 rfl
 have t49:=hst' 49 rfl
 simp only [go_sem,q3,q10,q36] at t3 t10 t14 t36 t48 t49
 clear hst'
 by_cases hjl:(j:Int) < f.bads.length
 ·have hj0:j=0:=by omega
  subst hj0
  obtain ⟨rfl,rfl⟩:=h0 rfl
  have hjl':0 < f.bads.length:=by omega
  have hjl2:(0:Int) < f.bads.length:=by omega
  have ez:((0:Nat):Int)=0:=rfl
  obtain ⟨b1,o1,cs1,e1,hb1,dd1⟩:=Ax.gH ((hip10.step (nof _ (by decide) M11 hk11)).rd old11') hjl'
  have kb:=k89 F M11 r10 (Fo.mk nv none 0 [] none 0 []) f.bads[0] old11' f11 ⟨rfl,rfl,rfl⟩
  have eb:f.bads.take 1=[f.bads[0]]:=by
   obtain ⟨x,y,hxy⟩:=List.exists_cons_of_length_pos hjl'
   simp [hxy]
  simp only [Nat.zero_mul,Nat.add_zero] at dd1
  simp only [go_sem,t10,t48,t49,q50,ez,hjl2,e1,hb1,dd1,Int.toNat_zero,Nat.zero_mul,Nat.add_zero]
  with_reducible refine qY kb ?_
  rintro u G M12 ⟨hG,old12,hk12,a12,c12,h12,own12⟩
  replace hG:=hG.symm
  subst hG
  refine ⟨(fun h=>by cases h),?_⟩
  simp only [go_sem,q50]
  refine ⟨by omega,rfl,(by simp only [go_sem, *] <;> rfl),fun q hq hqr=>(hk12 q (by rw [hk11 q hq hqr]; exact hq) hqr).trans (hk11 q hq hqr),old12,a12,c12,fun h=>by omega,?_,?_⟩
  ·rw [eb]; exact h12
  ·rw [eb]; exact own12
 ·have hje:j=f.bads.length:=by omega
  subst hje
  rw [List.take_length] at f11 own11
  clear h0 hj
  have b1411:blk F M11 r14=some f.cs:=by
   have:=qG (F:=F) ((hk11 r14 (by rw [f14]; simp) n1410).trans f14)
   exact this
  have b1011:=qG (F:=F) f11
  have hrow:=(hbp10.step (nof _ (by decide) M11 hk11)).rd old11'
  have kbo:=k90 F M11 k nv f.v (.slice none 0 0) (.slice f.lA f.l.length f.lC) [] f.l gX hrow old11' hnone.may (FoundIs.may hfo)
  simp only [go_sem,t3,t10,t14,t49,q50,hjl,b1411,b1011]
  with_reducible refine qY kbo ?_
  rintro u G M12 ⟨v,l,hBA,hl7,w,rfl,hw⟩
  have how:=hw.own
  obtain ⟨hG,_,kp12,ho12,aw,cw,rfl,rdw⟩:=hw.le (sz:=7) (fun _=>rfl) (by omega)
  have old12:=ho12 old11'
  replace hG:=hG.symm
  subst hG
  refine ⟨(fun h=>by cases h),?_⟩
  have f12:=kp12 _ _ f11
  have own12:=own11.keep kp12
  have eC:yJ v (Value.slice aw l.length cw)++List.drop 7 (Fo.mk nv none 0 [] a11 c11 f.bads).cs=(Fo.mk v aw cw l a11 c11 f.bads).cs:=rfl
  have hFr10:=old12.free f12
  have hst12:∀t:TypeId,¬130=t→∀q x,M12 q=some x→x.elem=t→(M12.upd r10 ⟨(Fo.mk v aw cw l a11 c11 f.bads).cs,130,8⟩) q=some x:=fun t ht q x hq he=>by
   have:¬q=r10:=by rintro rfl; rw [f12] at hq; cases hq; exact ht he
   rw [Hp.qK this]; exact hq
  have hk712:∀q,¬M7 q=none→¬q=r10→(M12.upd r10 ⟨(Fo.mk v aw cw l a11 c11 f.bads).cs,130,8⟩) q=M7 q:=fun q hq hqr=>by
   rw [Hp.qK hqr]
   cases hqv:M7 q with
   | none=>exact absurd hqv hq
   | some x=>
    have h1:=kp710 _ _ hqv
    have h2:=(hk11 q (by rw [h1]; simp) hqr).trans h1
    exact kp12 _ _ h2
  simp only [setH,go_sem,f12,eC,t36]
  exact ⟨by decide,rfl,(by simp only [go_sem, *] <;> rfl),.inr ⟨rfl,hk712,old12.upd hFr10,Fo.mk v aw cw l a11 c11 f.bads,Hp.qJ _ _ _,jQ.stay how (hst12 _ (by decide)),hl7,jQ.stay own12 (hst12 _ (by decide)),FoundIs.both hfo hnone hBA⟩⟩
theorem can_scalar {b o k:Int}{v:V}{l:List Ba}(h:CanC ⟨b,o,k,v,l⟩)(hk:isS k=true):emptyB k v l=false∧absB k v l=true:=by
 have hc:=h.content
 have hk0:¬k=0:=by rintro rfl; exact absurd hk (by decide)
 have hk11:¬k=11:=by rintro rfl; exact absurd hk (by decide)
 have habs:absB k v l=true:=by
  unfold yD at hc
  simp only [hk0,hk11,if_false,Bool.and_eq_true] at hc
  exact hc.2
 refine ⟨?_,habs⟩
 rcases h with ⟨h1,_⟩ | ⟨h1,_⟩ | ⟨h1,b',o',vo,h2,h3,h4,h5,h6⟩ | ⟨h1,n,h2,h3⟩
 ·exact absurd h1 hk0
 ·exact absurd h1 hk11
 ·simp only at h1 h2 h3
  unfold emptyB
  rw [if_pos h1,h3]
  have:=h4.rng
  simp [h4.at_,this.1,h6]
 ·simp only at h1 h2 h3
  have h7:¬k=7:=by rintro rfl; exact absurd h1 (by decide)
  unfold emptyB
  rw [if_neg h7,h2.at_]
  have:=h2.rng
  simp [this.1]
def LayIs (p:Pg)(m':List Bl)(news:List Int)(cls:Int)(y:Pe)(bads:List Int):Prop:=
 (cls=0∧bads=[]∧y.no=false∧Mir p y.cells m'∧y.news=news)∨(¬cls=0∧bads=[cls]∧y=⟨true,[],[]⟩)
def layR (p:Pg)(m':List Bl)(news:List Int)(cls:Int)(F:Fz)(M:Hp)(u:Value)(F':Fz)(M':Hp):Prop:=
 F'=F∧Keep M M'∧Old F M'∧∃(y:En) (ba:Option Addr) (bc:Nat) (bads:List Int),u=.tuple #[y.val,.slice ba bads.length bc]∧
  jQ 10 Cl.cs 84 F M' (.slice y.cellsA y.cells.length y.cellsC) y.cells∧(∀x∈y.cells,CP F M' x)∧jQ 1 intC 3 F M' (.slice y.newsA y.news.length y.newsC) y.news∧jQ 1 intC 3 F M' (.slice ba bads.length bc) bads∧LayIs p m' news cls y.pe bads
theorem k42 (p:Pg)(e:En)(m m':List Bl)(k:Int)(b on:Nat)(vo:V)(a:Option Addr)(c:Nat)(v:V)(lA:Option Addr)(lC:Nat)(l:List Ba)(hL:Look F ⟨p,e⟩ m)(hold:Old F M)(hp:p.rd F)(hk:isS k=true)(hnw:∀M',Old F M'→intR F M' e.newsA e.newsC e.news)(hnl:e.news.length≤100000)
  (hb:1≤b∧b≤p.vars.length∧b≤6)(ho:Is1 vo 8 on)(ho32:on≤32)(hx:RdG 7 Ba.cs F M (.slice a 1 c) [⟨b,vo⟩])(hv:∀M',Old F M'→RdG 7 Ba.cs F M' (.slice lA l.length lC) l)(h0:CanC ⟨b,on,k,v,l⟩)(hkn:knownB l ((m.length:Int) - 1)=true)(hne:¬e.cells=[])
  (hm':jK (wX p.ptr k) (szAt (wJ p) b) on=0→MemSet m b on (jZ p.big p.ptr ⟨b,on,k,v,l⟩) m'∧FitM p m') :
  CallsA Tryz.prog 42 [p.val,e.val,abV V.zero (.slice a 1 c),.int .i64 k,abV v (.slice lA l.length lC)] F M (layR p m' e.news (jK (wX p.ptr k) (szAt (wJ p) b) on) F M):=by
 refine qZ hm Tryz.func42 e42 (Nat.le_of_ble_eq_true rfl) ?_
 have hptr:p.ptr=2∨p.ptr=4:=(jW hL.hc).1
 have hspn:=jX hptr (.inr (.inr hk))
 have hor:=ho.rng
 have hszb:∀b,0≤szAt (wJ p) b∧szAt (wJ p) b≤32:=sizes_in hL.hc
 obtain ⟨hvoid,habs⟩:=can_scalar h0 hk
 simp only [c42,go_sem]
 intro r5 hF5 hM5
 generalize eQ:M.upd r5 ⟨p.cs,28,7⟩=M1 at *
 obtain ⟨kp5,old5,f5⟩:=nw eQ hold hF5 hM5
 clear eQ
 simp only [go_sem]
 intro r6 hF6 hM6
 generalize eQ:M1.upd r6 ⟨e.cs,46,3⟩=M2 at *
 obtain ⟨kp6,old6,f6⟩:=nw eQ old5 hF6 hM6
 clear eQ
 simp only [go_sem]
 intro r7 hF7 hM7
 generalize eQ:M2.upd r7 ⟨yJ V.zero (.slice a 1 c),62,7⟩=M3 at *
 obtain ⟨kp7,old7,f7⟩:=nw eQ old6 hF7 hM7
 clear eQ
 simp only [go_sem]
 intro r9 hF9 hM9
 generalize eQ:M3.upd r9 ⟨yJ v (.slice lA l.length lC),62,7⟩=M4 at *
 obtain ⟨kp9,old9,f9⟩:=nw eQ old7 hF9 hM9
 clear eQ
 simp only [go_sem]
 intro r10 hF10 hM10
 have kp10:Keep M4 (M4.upd r10 ⟨[.bool false,.slice none 0 0,.slice none 0 0],46,3⟩):=(Keep.refl _).new hM10
 have old10:Old F (M4.upd r10 ⟨[.bool false,.slice none 0 0,.slice none 0 0],46,3⟩):=old9.upd hF10
 have f10:(M4.upd r10 ⟨[.bool false,.slice none 0 0,.slice none 0 0],46,3⟩) r10=some ⟨[.bool false,.slice none 0 0,.slice none 0 0],46,3⟩:=Hp.qJ _ _ _
 have z10:M r10=none:=(((kp5.trans kp6).trans kp7).trans kp9).free hM10
 generalize M4.upd r10 ⟨[.bool false,.slice none 0 0,.slice none 0 0],46,3⟩=M5 at *
 have eF:Value.agg #[Value.int .i64 0,.bool false,.int .i64 0,.int .i64 0,.int .i64 0,.int .i64 0,.slice none 0 0,.slice none 0 0]=(Fo.mk V.zero none 0 [] none 0 []).val:=rfl
 simp only [go_sem,eF]
 intro r12 hF12 hM12
 generalize eQ:M5.upd r12 ⟨(Fo.mk V.zero none 0 [] none 0 []).cs,130,8⟩=M6 at *
 obtain ⟨kp12,old12,f12⟩:=nw eQ old10 hF12 hM12
 clear eQ
 have b5:=qG (F:=F) (kp12 _ _ (kp10 _ _ (kp9 _ _ (kp7 _ _ (kp6 _ _ f5)))))
 have b6:=qG (F:=F) (kp12 _ _ (kp10 _ _ (kp9 _ _ (kp7 _ _ f6))))
 have g7:=kp12 _ _ (kp10 _ _ (kp9 _ _ f7))
 have g9:=kp12 _ _ (kp10 _ _ f9)
 have g10:=kp12 _ _ f10
 have g6:=kp12 _ _ (kp10 _ _ (kp9 _ _ (kp7 _ _ f6)))
 have kp:=((((kp5.trans kp6).trans kp7).trans kp9).trans kp10).trans kp12
 have z12:M r12=none:=((((kp5.trans kp6).trans kp7).trans kp9).trans kp10).free hM12
 have eS:List.take 7 (p.cs++[Value.bool false,Value.slice none 0 0,Value.slice none 0 0])++e.cs++List.drop 10 (p.cs++[Value.bool false,Value.slice none 0 0,Value.slice none 0 0])=(Si.mk p e).cs:=rfl
 clear hM5 hM6 hM7 hM9 hM10 hM12 kp5 kp6 kp7 kp9 kp10 kp12 old5 old6 old7 old9 old10 f5 f6 f7 f9 f10
 simp only [go_sem,b5,b6,eS]
 intro r13 hF13 hM13
 simp only [setH,Hp.wG,go_sem]
 generalize eQ:M6.upd r13 ⟨(Si.mk p e).cs,132,10⟩=M7 at *
 obtain ⟨kp13,old13,f13⟩:=nw eQ old12 hF13 hM13
 clear eQ
 have b67:=qG (F:=F) (kp13 _ _ g6)
 have b77:=qG (F:=F) (kp13 _ _ g7)
 have b97:=qG (F:=F) (kp13 _ _ g9)
 have b137:=qG (F:=F) f13
 have hno:e.no=false:=hL.no
 have kv:=k78 F M7 k v (.slice lA l.length lC) l (hv M7 old13)
 have kv':=kv habs
 rw [hvoid] at kv'
 simp only [go_sem,b67,hno,b97]
 with_reducible refine qQ kv' ?_
 have g127:=kp13 _ _ f12
 have kp7:=kp.trans kp13
 have n137:¬r13=r12:=by rintro rfl; rw [f13] at g127; simp at g127
 have n97:¬r9=r12:=by rintro rfl; rw [kp13 _ _ g9] at g127; simp at g127
 have n107:¬r10=r12:=by rintro rfl; rw [kp13 _ _ g10] at g127; simp at g127
 have ks:=k79 F M7 ⟨p,e⟩ k on b vo a c r12 (Fo.mk V.zero none 0 [] none 0 []) old13 hp hptr hk hszb hb ho (by omega) (hx.keep kp7 old13) g127 ⟨rfl,rfl,rfl⟩
 simp only [go_sem,b77,b137]
 with_reducible refine qY ks ?_
 rintro u G M8 ⟨hG,old8,hk8,hcase⟩
 dsimp only at hcase
 replace hG:=hG.symm
 subst hG
 refine ⟨(fun h=>by cases h),?_⟩
 have hlt:∀M':Hp,(∀q,¬M7 q=none→¬q=r12→M' q=M7 q)→Keep M M':=fun M' h q x hq=>by
  have:=kp7 q x hq
  rw [h q (by rw [this]; simp) (by rintro rfl; rw [z12] at hq; cases hq),this]
 have kp8:=hlt M8 hk8
 have g108:M8 r10=_:=(hk8 r10 (by rw [kp13 _ _ g10]; simp) n107).trans (kp13 _ _ g10)
 have g138:M8 r13=_:=(hk8 r13 (by rw [f13]; simp) n137).trans f13
 have g98:M8 r9=_:=(hk8 r9 (by rw [kp13 _ _ g9]; simp) n97).trans (kp13 _ _ g9)
 clear b5 b6 b67 b77 b97 b137 g6 g7 g9 g10 hlt kv kv' ks kp13 f12 f13 n137 n97 hk8 eF eS old12 old13
 rcases hcase with ⟨hc,h8,a8,c8,rfl,rd8⟩ | ⟨hc,rfl,a8,c8,h8,own8⟩
 rotate_left
 ·have kt:=k80 F M8 r12 (Fo.mk V.zero none 0 [] a8 c8 [jK (wX p.ptr k) (szAt (wJ p) b) on]) old8 h8 own8 (by simp)
  simp only [go_sem]
  with_reducible refine qQ kt ?_
  simp only [go_sem]
  intro r15 hF15 hM15
  simp only [setH,Hp.wG,go_sem]
  have kp15:Keep M8 (M8.upd r15 ⟨yJ V.zero (.slice none 0 0),62,7⟩):=(Keep.refl _).new hM15
  have old15:Old F (M8.upd r15 ⟨yJ V.zero (.slice none 0 0),62,7⟩):=old8.upd hF15
  have g1015:=kp15 _ _ g108
  have own15:=own8.keep kp15
  generalize M8.upd r15 ⟨yJ V.zero (.slice none 0 0),62,7⟩=M9 at *
  have eE:[Value.bool true,Value.slice none 0 0,Value.slice none 0 0]=(En.mk true none 0 [] none 0 []).cs:=rfl
  simp only [setH,go_sem,g1015,eE]
  refine qW ⟨rfl,(kp8.trans kp15).new z10,old15.upd hF10,En.mk true none 0 [] none 0 [],a8,c8,[jK (wX p.ptr k) (szAt (wJ p) b) on],rfl,.inl ⟨rfl,rfl⟩,(fun x hx=>by cases hx),.inl ⟨rfl,rfl⟩,?_,.inr ⟨hc,rfl,rfl⟩⟩
  exact jQ.stay own15 fun q x hq he=>by
   have:¬q=r10:=by rintro rfl; rw [g1015] at hq; cases hq; exact absurd he (by decide)
   rw [Hp.qK this]; exact hq
 obtain ⟨hs',hfit'⟩:=hm' hc
 have hfit:((yZ m (b:Int)).l.length:Int)=szAt (wJ p) b:=FitM.size_at hL.fit ⟨hb.1,hb.2.1⟩
 have hcl:¬szAt (wJ p) b < on+wX p.ptr k:=fun h=>by
  unfold jK at hc; rw [if_pos h] at hc; cases hc
 have hal:(on:Int).tmod (wX p.ptr k)=0:=by
  unfold jK at hc
  rw [if_neg hcl] at hc
  by_cases h:(on:Int).tmod (wX p.ptr k)=0
  ·exact h
  ·rw [if_neg h] at hc; cases hc
 have hfl:on+(wX p.ptr k).toNat≤(yZ m (b:Int)).l.length:=by omega
 have hlay:∀F' u M',layR p m' e.news 0 F M u F' M'→layR p m' e.news (jK (wX p.ptr k) (szAt (wJ p) b) on) F M u F' M':=fun F' u M' h=>by rw [hc]; exact h
 have h12:M8 r12=_:=h8.trans g127
 have kt:=k80 F M8 r12 (Fo.mk V.zero none 0 [] none 0 []) old8 h12 (.inl ⟨rfl,rfl⟩) (by simp)
 rw [hc]
 simp only [go_sem]
 with_reducible refine qQ kt ?_
 simp only [go_sem]
 intro r15 hF15 hM15
 simp only [setH,Hp.wG,go_sem]
 have kp15:Keep M8 (M8.upd r15 ⟨yJ V.zero (.slice none 0 0),62,7⟩):=(Keep.refl _).new hM15
 have old15:Old F (M8.upd r15 ⟨yJ V.zero (.slice none 0 0),62,7⟩):=old8.upd hF15
 have g1015:=kp15 _ _ g108
 have g1315:=kp15 _ _ g138
 have g915:=kp15 _ _ g98
 have rd15:=rd8.keep kp15 old15
 generalize M8.upd r15 ⟨yJ V.zero (.slice none 0 0),62,7⟩=M9 at *
 have b13:=qG (F:=F) g1315
 have b9:=qG (F:=F) g915
 obtain ⟨bb,ob,cs,rfl,hbb,rows⟩:=rd15.rows (by simp)
 obtain ⟨d1,d2⟩:=rows 0 (by simp)
 clear rows
 replace d2:List.take 2 (List.drop (ob+0 * 2) cs)=(⟨b,on⟩:Sp).cs:=d2
 have d1':ob+2≤cs.length:=d1
 have d2':List.take 2 (List.drop ob cs)=(⟨b,on⟩:Sp).cs:=by simpa using d2
 have d3':=(Sp.row d2').1
 have kst:=k81 F M9 ⟨p,e⟩ m m' b on k v lA lC l hL old15 hk hb.1 hfl h0 hal hkn hs' hfit' hv hne
 simp only [go_sem,b13,b9,hbb,d1',d2',d3',Nat.add_zero,Nat.zero_mul]
 with_reducible refine qY kst ?_
 rintro u G M10 ⟨hG,kp10,old10,g,cg,L,rfl,ownL,hLr,hmir⟩
 replace hG:=hG.symm
 subst hG
 refine ⟨(fun _=>kp10.le old10),?_⟩
 have kli:=k82 F M10 ⟨p,e⟩ b old10 (hnw M10 old10) hnl ⟨by omega,by show (b:Int)≤p.vars.length; omega⟩ hp.few.1
 simp only [go_sem]
 with_reducible refine qY kli ?_
 rintro u G M11 ⟨hG,kp11,old11,nA,nC,rfl,ownN⟩
 replace hG:=hG.symm
 subst hG
 refine ⟨(fun _=>kp11.le old11),?_⟩
 have g1011:=kp11 _ _ (kp10 _ _ g1015)
 have eE:[Value.bool false,Value.slice (some ⟨g,0,none⟩) L.length cg,Value.slice nA e.news.length nC]=(En.mk false (some ⟨g,0,none⟩) cg L nA nC e.news).cs:=rfl
 simp only [setH,go_sem,g1011,eE]
 have ev:∀t:TypeId,¬t=46→∀q x,M11 q=some x→x.elem=t→(M11.upd r10 ⟨(En.mk false (some ⟨g,0,none⟩) cg L nA nC e.news).cs,46,3⟩) q=some x:=fun t ht q x hq he=>by
  have:¬q=r10:=by rintro rfl; rw [g1011] at hq; cases hq; exact ht he.symm
  rw [Hp.qK this]; exact hq
 exact qW ⟨rfl,(((kp8.trans kp15).trans kp10).trans kp11).new z10,old11.upd hF10,En.mk false (some ⟨g,0,none⟩) cg L nA nC e.news,none,0,[],rfl,jQ.stay (ownL.keep kp11) (ev _ (by decide)),(fun x hx=>(hLr x hx).step fun q y hq he=>ev _ (by decide) q y (kp11 _ _ hq) he),jQ.stay ownN (ev _ (by decide)),.inl ⟨rfl,rfl⟩,.inl ⟨rfl,rfl,rfl,hmir,rfl⟩⟩
def loadR (k:Int)(r:Sc × Int)(F:Fz)(M:Hp)(u:Value)(F':Fz)(M':Hp):Prop:=
 F'=F∧Keep M M'∧Old F M'∧∃f:Fo,u=.tuple #[abV f.v (.slice f.lA f.l.length f.lC),.slice f.badsA f.bads.length f.badsC,.int .i64 0]∧f.rd F M'∧f.l.length≤7∧FoundIs k r f.v f.l f.bads
theorem k23 (p:Pg)(e:En)(m:List Bl)(k o:Int)(b:Nat)(vo:V)(a:Option Addr)(c:Nat)(hL:Look F ⟨p,e⟩ m)(hold:Old F M)(hp:p.rd F)(he:∀M',Old F M'→e.rd F M')(henv:envB p e.pe=true)(hfe:e.cells.length≤100000∧e.news.length≤100000)(hk:isS k=true)
  (hb:1≤b∧b≤p.vars.length∧b≤6)(ho:Is1 vo 8 o)(ho32:o≤32)(hx:RdG 7 Ba.cs F M (.slice a 1 c) [⟨b,vo⟩]) :
  CallsA Tryz.prog 23 [p.val,e.val,abV V.zero (.slice a 1 c),.int .i64 k] F M (loadR k (takeV p m k b o) F M):=by
 refine qZ hm Tryz.func23 e23 (Nat.le_of_ble_eq_true rfl) ?_
 have hc:yK p=true:=hL.hc
 have hfew:=hp.few
 simp only [c23,go_sem]
 intro r4 hF4 hM4
 generalize eQ:M.upd r4 ⟨p.cs,28,7⟩=M1 at *
 obtain ⟨kp4,old4,f4⟩:=nw eQ hold hF4 hM4
 clear eQ
 simp only [go_sem]
 intro r5 hF5 hM5
 generalize eQ:M1.upd r5 ⟨e.cs,46,3⟩=M2 at *
 obtain ⟨kp5,old5,f5⟩:=nw eQ old4 hF5 hM5
 clear eQ
 simp only [go_sem]
 intro r6 hF6 hM6
 generalize eQ:M2.upd r6 ⟨yJ V.zero (.slice a 1 c),62,7⟩=M3 at *
 obtain ⟨kp6,old6,f6⟩:=nw eQ old5 hF6 hM6
 clear eQ
 simp only [go_sem]
 intro r8 hF8 hM8
 generalize eQ:M3.upd r8 ⟨[.int .i64 0,.bool false,.int .i64 0,.int .i64 0,.int .i64 0,.int .i64 0,.slice none 0 0],62,7⟩=M4 at *
 obtain ⟨kp8,old8,f8⟩:=nw eQ old6 hF8 hM8
 clear eQ
 have kp:=((kp4.trans kp5).trans kp6).trans kp8
 have g6:=kp8 _ _ f6
 have g5:=kp8 _ _ (kp6 _ _ f5)
 have g4:=kp8 _ _ (kp6 _ _ (kp5 _ _ f4))
 have n8:M r8=none:=((kp4.trans kp5).trans kp6).free hM8
 have b4:=qG (F:=F) g4
 have b5:=qG (F:=F) g5
 have b6:=qG (F:=F) g6
 clear hM4 hM5 hM6 hM8 kp4 kp5 kp6 kp8 old4 old5 old6 f4 f5 f6
 simp only [go_sem,b4,b5]
 intro r13 hF13 hM13
 generalize eQ:M4.upd r13 ⟨e.cs,46,3⟩=M5 at *
 obtain ⟨kp13,old13,f13⟩:=nw eQ old8 hF13 hM13
 clear eQ
 have b45:=qG (F:=F) (kp13 _ _ g4)
 have b55:=qG (F:=F) (kp13 _ _ g5)
 have b65:=qG (F:=F) (kp13 _ _ g6)
 have g85:=kp13 _ _ f8
 have kp5:=kp.trans kp13
 have hx5:=hx.keep kp5 old13
 have hrow:RdG 3 En.cs F M5 (.slice (some ⟨r13,0,none⟩) ([e]:List En).length 1) [e]:=gJ (fun _=>rfl) (by simp) (by simp) (by rw [qG (F:=F) f13]; simp)
 have kas:=k37 F M5 p (some ⟨r13,0,none⟩) 1 [e] hp old13 hrow (fun x hx=>by rw [List.mem_singleton.1 hx]; exact he M5 old13) (fun x hx=>by rw [List.mem_singleton.1 hx]; exact hfe)
 have eas:(yK p && ([e]:List En).all fun e=>envB p e.pe)=true:=by simp [hc,henv]
 rw [eas] at kas
 clear b4 b5 b6 kp13 old8 hM13
 simp only [go_sem]
 with_reducible refine qQ kas ?_
 have kpt:=k38 F M5 p a c b o vo ⟨hfew.1,hfew.2.1⟩ ⟨by omega,by omega,by omega⟩ ho ho32 hx5 old13
 simp only [go_sem,b45,b65]
 with_reducible refine qQ kpt ?_
 simp only [go_sem]
 have kis:=k39 F M5 k
 rw [hk] at kis
 with_reducible refine qQ kis ?_
 have ktk:=k49 F M5 p e m k o b vo a c hL old13 hp hk hb ho ho32 hx5
 simp only [go_sem,b45,b55,b65]
 with_reducible refine qY ktk ?_
 rintro u G M6 ⟨hG,kp6,old6,f,rfl,hfr,hf7,hfo⟩
 replace hG:=hG.symm
 subst hG
 refine ⟨(fun h=>by cases h),?_⟩
 have g86:=kp6 _ _ g85
 simp only [setH,go_sem,g86]
 have g87:(M6.upd r8 ⟨yJ f.v (.slice f.lA f.l.length f.lC),62,7⟩) r8=some ⟨yJ f.v (.slice f.lA f.l.length f.lC),62,7⟩:=Hp.qJ _ _ _
 have hst8:∀t:TypeId,¬62=t→∀q x,M6 q=some x→x.elem=t→(M6.upd r8 ⟨yJ f.v (.slice f.lA f.l.length f.lC),62,7⟩) q=some x:=fun t ht q x hq he=>by
  have:¬q=r8:=by rintro rfl; rw [g86] at hq; cases hq; exact ht he
  rw [Hp.qK this]; exact hq
 have hor:=jQ.stay hfr.1 (hst8 _ (by decide))
 have hob:=jQ.stay hfr.2 (hst8 _ (by decide))
 have old7:Old F (M6.upd r8 ⟨yJ f.v (.slice f.lA f.l.length f.lC),62,7⟩):=old6.upd hF8
 have kp7:Keep M (M6.upd r8 ⟨yJ f.v (.slice f.lA f.l.length f.lC),62,7⟩):=(kp5.trans kp6).new n8
 generalize M6.upd r8 ⟨yJ f.v (.slice f.lA f.l.length f.lC),62,7⟩=M7 at *
 have b87:=qG (F:=F) g87
 have kow:=k50 F M7 f.v (.slice f.lA f.l.length f.lC) f.l (hor.rd (fun _=>rfl) (by omega)) old7 (by omega)
 with_reducible refine qY kow ?_
 rintro u G M8 ⟨w,rfl,hw⟩
 obtain ⟨hG,_,kp8,ho8,aw,cw,rfl,rdw⟩:=hw.le (sz:=7) (fun _=>rfl) (by omega)
 have old8:=ho8 old7
 have how:=hw.own
 replace hG:=hG.symm
 subst hG
 refine ⟨(fun h=>by cases h),?_⟩
 have g88:=kp8 _ _ g87
 have hst9:∀t:TypeId,¬62=t→∀q x,M8 q=some x→x.elem=t→(M8.upd r8 ⟨yJ f.v (.slice aw f.l.length cw),62,7⟩) q=some x:=fun t ht q x hq he=>by
  have:¬q=r8:=by rintro rfl; rw [g88] at hq; cases hq; exact ht he
  rw [Hp.qK this]; exact hq
 simp only [setH,go_sem,g88]
 have hbl:=FoundIs.few hfo
 exact qW ⟨rfl,(kp7.trans kp8).new n8,old8.upd hF8,⟨f.v,aw,cw,f.l,f.badsA,f.badsC,f.bads⟩,rfl,⟨(jQ.stay how (hst9 _ (by decide))).rd (fun _=>rfl) (by show f.l.length≤_; omega),(jQ.stay (hob.keep kp8) (hst9 _ (by decide))).rd wD (by show f.bads.length≤_; omega)⟩,hf7,hfo⟩
theorem CanC.short {c:Pc}(h:CanC c):c.l.length≤1:=by
 rcases h with ⟨_,_,h⟩ | ⟨_,b,o,i,vo,_,h,_⟩ | ⟨_,b,o,vo,_,h,_⟩ | ⟨_,n,_,h⟩ <;> rw [h] <;> simp
def storeR (p:Pg)(m':List Bl)(news:List Int)(cls:Int)(F:Fz)(M:Hp)(u:Value)(F':Fz)(M':Hp):Prop:=
 F'=F∧Keep M M'∧Old F M'∧∃(y:En) (ba:Option Addr) (bc:Nat) (bads:List Int),u=.tuple #[y.val,.slice ba bads.length bc,.int .i64 0]∧y.rd F M'∧intR F M' ba bc bads∧LayIs p m' news cls y.pe bads
theorem k17 (p:Pg)(e:En)(m m':List Bl)(k:Int)(b on:Nat)(vo:V)(a:Option Addr)(c:Nat)(v:V)(lA:Option Addr)(lC:Nat)(l:List Ba)(hL:Look F ⟨p,e⟩ m)(hold:Old F M)(hp:p.rd F)(he:∀M',Old F M'→e.rd F M')(henv:envB p e.pe=true)(hfe:e.cells.length≤10000∧e.news.length≤10000)(hk:isS k=true)
  (hb:1≤b∧b≤p.vars.length∧b≤6)(ho:Is1 vo 8 on)(ho32:on≤32)(hx:RdG 7 Ba.cs F M (.slice a 1 c) [⟨b,vo⟩])(hv:∀M',Old F M'→RdG 7 Ba.cs F M' (.slice lA l.length lC) l)(h0:CanC ⟨b,on,k,v,l⟩)(hkn:knownB l ((m.length:Int) - 1)=true)(hne:¬e.cells=[])
  (hm':jK (wX p.ptr k) (szAt (wJ p) b) on=0→MemSet m b on (jZ p.big p.ptr ⟨b,on,k,v,l⟩) m'∧FitM p m') :
  CallsA Tryz.prog 17 [p.val,e.val,abV V.zero (.slice a 1 c),.int .i64 k,abV v (.slice lA l.length lC)] F M (storeR p m' e.news (jK (wX p.ptr k) (szAt (wJ p) b) on) F M):=by
 refine qZ hm Tryz.func17 e17 (Nat.le_of_ble_eq_true rfl) ?_
 have hc:yK p=true:=hL.hc
 have hfew:=hp.few
 obtain ⟨hvoid,habs⟩:=can_scalar h0 hk
 simp only [c17,go_sem]
 intro r5 hF5 hM5
 generalize eQ:M.upd r5 ⟨p.cs,28,7⟩=M1 at *
 obtain ⟨kp5,old5,f5⟩:=nw eQ hold hF5 hM5
 clear eQ
 simp only [go_sem]
 intro r6 hF6 hM6
 generalize eQ:M1.upd r6 ⟨e.cs,46,3⟩=M2 at *
 obtain ⟨kp6,old6,f6⟩:=nw eQ old5 hF6 hM6
 clear eQ
 simp only [go_sem]
 intro r7 hF7 hM7
 generalize eQ:M2.upd r7 ⟨yJ V.zero (.slice a 1 c),62,7⟩=M3 at *
 obtain ⟨kp7,old7,f7⟩:=nw eQ old6 hF7 hM7
 clear eQ
 simp only [go_sem]
 intro r9 hF9 hM9
 generalize eQ:M3.upd r9 ⟨yJ v (.slice lA l.length lC),62,7⟩=M4 at *
 obtain ⟨kp9,old9,f9⟩:=nw eQ old7 hF9 hM9
 clear eQ
 simp only [go_sem]
 intro r10 hF10 hM10
 have kp10:Keep M4 (M4.upd r10 ⟨(En.mk false none 0 [] none 0 []).cs,46,3⟩):=(Keep.refl _).new hM10
 have old10:Old F (M4.upd r10 ⟨(En.mk false none 0 [] none 0 []).cs,46,3⟩):=old9.upd hF10
 have f10:(M4.upd r10 ⟨(En.mk false none 0 [] none 0 []).cs,46,3⟩) r10=some ⟨(En.mk false none 0 [] none 0 []).cs,46,3⟩:=Hp.qJ _ _ _
 have z10:M r10=none:=(((kp5.trans kp6).trans kp7).trans kp9).free hM10
 have e10:M4.upd r10 ⟨[.bool false,.slice none 0 0,.slice none 0 0],46,3⟩=M4.upd r10 ⟨(En.mk false none 0 [] none 0 []).cs,46,3⟩:=rfl
 rw [e10]
 generalize M4.upd r10 ⟨(En.mk false none 0 [] none 0 []).cs,46,3⟩=M5 at *
 have g9:=kp10 _ _ f9
 have g7:=kp10 _ _ (kp9 _ _ f7)
 have g6:=kp10 _ _ (kp9 _ _ (kp7 _ _ f6))
 have g5:=kp10 _ _ (kp9 _ _ (kp7 _ _ (kp6 _ _ f5)))
 have kp:=(((kp5.trans kp6).trans kp7).trans kp9).trans kp10
 have b5:=qG (F:=F) g5
 have b6:=qG (F:=F) g6
 clear hM5 hM6 hM7 hM9 hM10 kp5 kp6 kp7 kp9 kp10 old5 old6 old7 old9 f5 f6 f7 f9 e10
 simp only [go_sem,b5,b6]
 intro r15 hF15 hM15
 generalize eQ:M5.upd r15 ⟨e.cs,46,3⟩=M6 at *
 obtain ⟨kp15,old15,f15⟩:=nw eQ old10 hF15 hM15
 clear eQ
 have b56:=qG (F:=F) (kp15 _ _ g5)
 have b66:=qG (F:=F) (kp15 _ _ g6)
 have b76:=qG (F:=F) (kp15 _ _ g7)
 have b96:=qG (F:=F) (kp15 _ _ g9)
 have g106:=kp15 _ _ f10
 have kp6:=kp.trans kp15
 have hx6:=hx.keep kp6 old15
 have hv6:=hv M6 old15
 have hrow:RdG 3 En.cs F M6 (.slice (some ⟨r15,0,none⟩) ([e]:List En).length 1) [e]:=gJ (fun _=>rfl) (by simp) (by simp) (by rw [qG (F:=F) f15]; simp)
 have kas:=k37 F M6 p (some ⟨r15,0,none⟩) 1 [e] hp old15 hrow (fun x hx=>by rw [List.mem_singleton.1 hx]; exact he M6 old15) (fun x hx=>by rw [List.mem_singleton.1 hx]; omega)
 have eas:(yK p && ([e]:List En).all fun e=>envB p e.pe)=true:=by simp [hc,henv]
 rw [eas] at kas
 clear b5 b6 kp15 old10 hM15
 simp only [go_sem]
 with_reducible refine qQ kas ?_
 have kpt:=k38 F M6 p a c b on vo ⟨hfew.1,hfew.2.1⟩ ⟨by omega,by omega,by omega⟩ ho (by omega) hx6 old15
 simp only [go_sem,b56,b76]
 with_reducible refine qQ kpt ?_
 have kis:=k39 F M6 k
 rw [hk] at kis
 simp only [go_sem]
 with_reducible refine qQ kis ?_
 have kmy:=k40 F M6 k v (.slice lA l.length lC) l hv6
 rw [habs] at kmy
 simp only [go_sem,b96]
 with_reducible refine qQ kmy ?_
 have ew:IntKind.i64.wrap ((p.vars.length:Int)+(p.news.length:Int))=p.vars.length+p.news.length:=w64 (by omega) (by omega)
 have kkn:=k41 F M6 lA lC l ((p.vars.length:Int)+(p.news.length:Int)) hv6
 have ekn:knownB l ((p.vars.length:Int)+(p.news.length:Int))=true:=by
  have hl:m.length=1+p.vars.length+p.news.length:=hL.fit.len
  rw [hl] at hkn
  have e3:(((1+p.vars.length+p.news.length:Nat):Int) - 1)=p.vars.length+p.news.length:=by omega
  rw [e3] at hkn
  exact hkn
 rw [ekn] at kkn
 simp only [go_sem,b56,b96,ew]
 with_reducible refine qQ kkn ?_
 have kly:=k42 F M6 p e m m' k b on vo a c v lA lC l hL old15 hp hk (fun M' o=>(he M' o).news) (by omega) hb ho ho32 hx6 hv h0 hkn hne hm'
 simp only [go_sem,b56,b66,b76,b96]
 with_reducible refine qY kly ?_
 rintro u G M7 ⟨hG,kp7,old7,y,ba,bc,bads,rfl,hyc,hyr,hyn,hbo,hly⟩
 replace hG:=hG.symm
 subst hG
 refine ⟨(fun h=>by cases h),?_⟩
 have g107:=kp7 _ _ g106
 simp only [setH,go_sem,g107]
 have hyl:y.cells.length≤192∧(∀x∈y.cells,x.l.length≤1)∧y.news.length≤10000∧bads.length≤1:=by
  have e1:y.pe.cells=y.cells.map Cl.pc:=rfl
  have e2:y.pe.news=y.news:=rfl
  rcases hly with ⟨h1,h2,h3,h4,h5⟩ | ⟨h1,h2,h3⟩
  ·have hf:=h4.few (hm' h1).2 hc
   rw [e1,List.length_map] at hf
   rw [e2] at h5
   exact ⟨hf,fun x hx=>CanC.short (h4.cells _ (by rw [e1]; exact List.mem_map_of_mem hx)).can,by rw [h5]; omega,by rw [h2]; simp⟩
  ·have h4:y.cells=[]:=by
    have:y.cells.map Cl.pc=[]:=by rw [←e1,h3]
    exact List.map_eq_nil_iff.1 this
   have h5:y.news=[]:=by rw [←e2,h3]
   exact ⟨by rw [h4]; simp,(fun x hx=>by rw [h4] at hx; cases hx),by rw [h5]; simp,by rw [h2]; simp⟩
 have g108:(M7.upd r10 ⟨y.cs,46,3⟩) r10=some ⟨y.cs,46,3⟩:=Hp.qJ _ _ _
 have ev:∀t:TypeId,¬t=46→∀q x,M7 q=some x→x.elem=t→(M7.upd r10 ⟨y.cs,46,3⟩) q=some x:=fun t ht q x hq he=>by
  have:¬q=r10:=by rintro rfl; rw [g107] at hq; cases hq; exact ht he.symm
  rw [Hp.qK this]; exact hq
 have old8:Old F (M7.upd r10 ⟨y.cs,46,3⟩):=old7.upd hF10
 have kp8:Keep M (M7.upd r10 ⟨y.cs,46,3⟩):=(kp6.trans kp7).new z10
 have hyc8:=(jQ.stay hyc (ev _ (by decide))).rd Cl.len (by omega)
 have hyr8:∀x∈y.cells,CP F (M7.upd r10 ⟨y.cs,46,3⟩) x:=fun x hx=>(hyr x hx).step fun q z hq he=>ev _ (by decide) q z hq he
 have hyn8:=(jQ.stay hyn (ev _ (by decide))).rd wD (by omega)
 have hbo8:=jQ.stay hbo (ev _ (by decide))
 generalize M7.upd r10 ⟨y.cs,46,3⟩=M8 at *
 have kow:=k43 F M8 y old8 hyc8 hyr8 hyn8 ⟨by omega,by omega⟩ (fun x hx=>by have:=hyl.2.1 x hx; omega)
 with_reducible refine qY kow ?_
 rintro u G M9 ⟨hG,kp9,old9,z,rfl,hzp,hzr⟩
 replace hG:=hG.symm
 subst hG
 refine ⟨(fun h=>by cases h),?_⟩
 have g109:=kp9 _ _ g108
 simp only [setH,go_sem,g109]
 have old10:Old F (M9.upd r10 ⟨z.cs,46,3⟩):=old9.upd hF10
 have ev9:∀q x,M9 q=some x→¬x.elem=46→(M9.upd r10 ⟨z.cs,46,3⟩) q=some x:=fun q x hq hne=>by
  have:¬q=r10:=by rintro rfl; rw [g109] at hq; cases hq; exact hne rfl
  rw [Hp.qK this]; exact hq
 refine qW ⟨rfl,(kp8.trans kp9).new z10,old10,z,ba,bc,bads,rfl,hzr _ old10 ev9,?_,?_⟩
 ·exact (jQ.stay (hbo8.keep kp9) (fun q x hq he=>ev9 q x hq (by rw [he]; decide))).rd wD (by have:=hyl.2.2.2; omega)
 ·rw [hzp]; exact hly
theorem say0 {big:Bool}{c:Pc}{l:List By}(h:c.k=0):sayV big c l=decide ((yQ l 0).st=0):=by unfold sayV; rw [if_pos h]
theorem say11 {big:Bool}{c:Pc}{l:List By}(h:c.k=11):sayV big c l=(decide ((yQ l 0).st=2) && (c.v.has (yQ l 0).i && pointsB c.l (yQ l 0).b (yQ l 0).o)):=by unfold sayV; rw [if_neg (by omega),if_pos h]
theorem sayS {big:Bool}{c:Pc}{l:List By}(h0:¬c.k=0)(h:¬c.k=11):sayV big c l=(decide ((yW big c.k l).2=0) && hasB c.k c.v c.l (yW big c.k l).1):=by unfold sayV; rw [if_neg h0,if_neg h]
theorem k151 (big:Bool)(ptr:Int)(c:Cl)(a:Option Addr)(cap:Nat)(l:List By)(hold:Old F M)(h:c.rd F M)(hl:RdG 5 By.cs F M (.slice a l.length cap) l)(hpos:0 < l.length)(hb:∀x∈l,byteB x=true) :
  CallsA Tryz.prog 151 [.agg #[.bool big,.int .i64 ptr],c.val,.slice a l.length cap] F M (Same F M (.bool (sayV big c.pc l))):=by
 refine qZ hm Tryz.func151 e151 (Nat.le_of_ble_eq_true rfl) ?_
 simp only [c151,go_sem]
 intro r3 hF3 hM3
 simp only [go_sem]
 intro r4 hF4 hM4
 simp only [wW] at hM4
 have kp4:Keep M ((M.upd r3 ⟨[.bool big,.int .i64 ptr],23,2⟩).upd r4 ⟨c.cs,84,10⟩):=(by repeat' first | exact Keep.refl _ | (refine Keep.new ?_ (by simp only [*])))
 have old4:Old F ((M.upd r3 ⟨[.bool big,.int .i64 ptr],23,2⟩).upd r4 ⟨c.cs,84,10⟩):=(by repeat' first | assumption | (refine Old.upd ?_ (by assumption)))
 have f3:((M.upd r3 ⟨[.bool big,.int .i64 ptr],23,2⟩).upd r4 ⟨c.cs,84,10⟩) r3=some ⟨[.bool big,.int .i64 ptr],23,2⟩:=by rw [Hp.qK hM4.1.2]; exact Hp.qJ _ _ _
 have f4:((M.upd r3 ⟨[.bool big,.int .i64 ptr],23,2⟩).upd r4 ⟨c.cs,84,10⟩) r4=some ⟨c.cs,84,10⟩:=Hp.qJ _ _ _
 generalize (M.upd r3 ⟨[.bool big,.int .i64 ptr],23,2⟩).upd r4 ⟨c.cs,84,10⟩=M1 at *
 have h1:c.rd F M1:=RdG.keep h kp4 old4
 have hl1:=hl.keep kp4 old4
 have b3:=qG (F:=F) f3
 have b4:=qG (F:=F) f4
 clear h hl f3 f4 hF3 hM3 hF4 hM4
 obtain ⟨b,o,cs,rfl,hbk,rows⟩:=hl1.rows hpos
 obtain ⟨g1,g2⟩:=rows 0 hpos
 have hx0:yQ l 0=l[0]:=by unfold yQ; rw [List.getElem?_eq_getElem hpos]; rfl
 have ho:=byteB_o (hb _ (byAt_mem hpos))
 obtain ⟨g2,_,g3,g4,g5⟩:=Go.Ax.By.row g2
 rw [Nat.zero_mul,Nat.add_zero] at g1 g2 g3 g4 g5
 rw [←hx0] at g2 g3 g4 g5
 have hro:=read_o (big:=big) (k:=c.k) hb hpos
 have hz0:(0:Int) < l.length:=by omega
 have fin:∀v:Bool,sayV big c.pc l=v→∀M3,Keep M1 M3→endK F M3 (Same F M (.bool (sayV big c.pc l))) (.bool v):=fun v e M3 kp=>qX (kp4.trans kp) ⟨by rw [e],rfl,rfl⟩
 clear rows hx0
 by_cases h0:c.k=0
 ·have hv:=say0 (big:=big) (c:=c.pc) (l:=l) h0
  simp only [go_sem,b4,h0,hz0,Int.toNat_zero,Nat.zero_mul,Nat.add_zero,hbk,g2]
  exact fin _ hv _ (Keep.refl _)
 by_cases h11:c.k=11
 ·have hv:=say11 (big:=big) (c:=c.pc) (l:=l) h11
  by_cases x2:(yQ l 0).st=2
  rotate_left
  ·simp only [go_sem,b4,h11,hz0,Int.toNat_zero,Nat.zero_mul,Nat.add_zero,hbk,g2,x2]
   exact fin _ (by rw [hv,decide_eq_false x2]; rfl) _ (Keep.refl _)
  simp only [go_sem,b4,h11,hz0,Int.toNat_zero,Nat.zero_mul,Nat.add_zero,hbk,g2,g5,x2]
  with_reducible refine qQ (k206 F M1 c.v (yQ l 0).i) ?_
  cases e1:c.v.has (yQ l 0).i
  ·simp only [go_sem]
   exact fin _ (by rw [hv]; show (_ && (c.v.has (yQ l 0).i && _))=false; rw [e1]; simp) _ (Keep.refl _)
  simp only [go_sem,b4,hz0,Int.toNat_zero,Nat.zero_mul,Nat.add_zero,hbk,g3,g4]
  with_reducible refine qQ (k188 F M1 (.slice c.lA c.l.length c.lC) c.l (yQ l 0).b (yQ l 0).o (by unfold Cl.rd at h1; exact h1)) ?_
  simp only [go_sem]
  exact fin _ (by rw [hv,decide_eq_true x2,decide_eq_true ho]; show (_ && (c.v.has (yQ l 0).i && _))=_; rw [e1]; rfl) _ (Keep.refl _)
 have hv:sayV big c.pc l=(decide ((yW big c.k l).2=0) && hasB c.k c.v c.l (yW big c.k l).1):=sayS (big:=big) (c:=c.pc) (l:=l) h0 h11
 simp only [go_sem,b3,b4,h0,h11]
 with_reducible refine qQ (k164 F M1 big ptr c.k _ _ l old4 hl1 hpos) ?_
 generalize yW big c.k l=rv at *
 obtain ⟨s,bad⟩:=rv
 simp only [go_sem]
 intro r7 hF7 hM7
 have m4:=blk_upd_ne (F:=F) (M:=M1) (e:=⟨[.bool false,.int .i64 0,.int .i64 0,.int .i64 0],50,4⟩) (ne_of_blk b4 hF7 hM7)
 have h7:c.rd F (M1.upd r7 ⟨s.cs,50,4⟩):=RdG.new h1 hF7 hM7
 have n4:=ne_of_blk b4 hF7 hM7
 by_cases hbad:bad=0
 rotate_left
 ·simp only [setH,Hp.wG,go_sem,hbad]
  exact fin _ (by rw [hv]; show (decide (bad=0) && _)=false; rw [decide_eq_false hbad]; rfl) _ (by repeat' first | exact Keep.refl _ | (refine Keep.new ?_ (by simp only [*])))
 simp only [setH,Hp.wG,go_sem,b4,n4,hbad,blk_upd_ne]
 with_reducible refine qQ (k207 F _ c.k c.v (.slice c.lA c.l.length c.lC) c.l s (by unfold Cl.rd at h7; exact h7)) ?_
 simp only [go_sem]
 refine fin _ ?_ _ (by repeat' first | exact Keep.refl _ | (refine Keep.new ?_ (by simp only [*])))
 rw [hv]
 show (decide (bad=0) && hasB c.k c.v c.l s)=holdsB c.k c.v c.l s
 rw [decide_eq_true hbad]
 unfold hasB holdsB
 split
 ·rw [decide_eq_true hro]
 ·rfl
theorem byAt_cut {l:List By}{q n:Nat}(h:q < l.length)(hn:0 < n):yQ ((l.drop q).take n) 0=l[q]:=by
 unfold yQ
 rw [List.getElem?_take_of_lt hn,List.getElem?_drop,Nat.add_zero,List.getElem?_eq_getElem h]; rfl
theorem k46 (p:Pg)(ma:Option Addr)(mc:Nat)(m:List Bl)(c:Cl)(hold:Old F M)(hp:p.ptr=2∨p.ptr=4)(h:c.rd F M)(hmem:RdG 2 Bl.cs F M (.slice ma m.length mc) m)(hbl:∀x∈m,x.rd F M)
  (hbi:0≤c.b∧c.b < m.length)(hin:(yZ m c.b).st=1→0≤c.p∧c.p+wX p.ptr c.k≤(yZ m c.b).l.length)(hby:∀x∈(yZ m c.b).l,byteB x=true)(hk:c.k=0∨c.k=11∨isS c.k=true) :
  CallsA Tryz.prog 46 [p.val,.slice ma m.length mc,c.val] F M (Same F M (.bool (saysB p m c.pc))):=by
 refine qZ hm Tryz.func46 e46 (Nat.le_of_ble_eq_true rfl) ?_
 simp only [c46,go_sem]
 intro r3 hF3 hM3
 simp only [go_sem]
 intro r5 hF5 hM5
 simp only [wW] at hM5
 have kp5:Keep M ((M.upd r3 ⟨p.cs,28,7⟩).upd r5 ⟨c.cs,84,10⟩):=(by repeat' first | exact Keep.refl _ | (refine Keep.new ?_ (by simp only [*])))
 have old5:Old F ((M.upd r3 ⟨p.cs,28,7⟩).upd r5 ⟨c.cs,84,10⟩):=(by repeat' first | assumption | (refine Old.upd ?_ (by assumption)))
 have f3:((M.upd r3 ⟨p.cs,28,7⟩).upd r5 ⟨c.cs,84,10⟩) r3=some ⟨p.cs,28,7⟩:=by rw [Hp.qK hM5.1.2]; exact Hp.qJ _ _ _
 have f5:((M.upd r3 ⟨p.cs,28,7⟩).upd r5 ⟨c.cs,84,10⟩) r5=some ⟨c.cs,84,10⟩:=Hp.qJ _ _ _
 generalize (M.upd r3 ⟨p.cs,28,7⟩).upd r5 ⟨c.cs,84,10⟩=M1 at *
 have h1:c.rd F M1:=RdG.keep h kp5 old5
 have hm1:=hmem.keep kp5 old5
 have b3:=qG (F:=F) f3
 have b5:=qG (F:=F) f5
 have fin:∀v:Bool,saysB p m c.pc=v→∀M3,Keep M1 M3→endK F M3 (Same F M (.bool (saysB p m c.pc))) (.bool v):=fun v e M3 kp=>qX (kp5.trans kp) ⟨by rw [e],rfl,rfl⟩
 obtain ⟨i,hi⟩:=Int.eq_ofNat_of_zero_le hbi.1
 have hil:i < m.length:=by omega
 have hi0:(0:Int)≤i:=by omega
 have hil':(i:Int) < m.length:=by omega
 obtain ⟨b,o,cs,rfl,hb,rows⟩:=hm1.rows (by omega)
 obtain ⟨d1,d2⟩:=rows i hil
 obtain ⟨d2,d3⟩:=Go.Ax.Bl.row d2
 have hat:yZ m c.b=m[i]:=by unfold yZ; rw [hi,Int.toNat_natCast,List.getElem?_eq_getElem hil]; rfl
 have hx1:m[i].rd F M1:=RdG.keep (hbl _ (List.getElem_mem hil)) kp5 old5
 have hR:saysB p m c.pc=(!decide ((m[i]).st=1) || sayV p.big c.pc (((m[i]).l.drop c.p.toNat).take (wX p.ptr c.k).toNat)):=by
  rw [←hat]; rfl
 rw [hat] at hin hby
 clear hat rows hbl hmem hm1 h hold f3 f5 hM3 hF3 hF5 hM5 hbi
 generalize saysB p m c.pc=R at *
 generalize m[i]=x at *
 by_cases hst:x.st=1
 rotate_left
 ·simp only [go_sem,b5,hi,hi0,hil',Int.toNat_natCast,Nat.add_zero,hb,d2,hst]
  exact fin _ (by rw [hR,decide_eq_false hst]; rfl) _ (Keep.refl _)
 obtain ⟨n1,n4⟩:=jX hp hk
 have hs7:c.k=7→(sizeK p.ptr c.k).toNat=(wX p.ptr c.k).toNat:=fun h7=>by
  unfold sizeK wX; rw [h7]; rfl
 obtain ⟨n,hn⟩:=Int.eq_ofNat_of_zero_le (by omega:0≤wX p.ptr c.k)
 obtain ⟨hp0,hpl⟩:=hin hst
 obtain ⟨q,hq⟩:=Int.eq_ofNat_of_zero_le hp0
 rw [hn] at hpl n1 n4
 rw [hq] at hpl
 have hn1:0 < n:=by omega
 have hql:q < x.l.length:=by omega
 have hq0:(0:Int)≤q:=by omega
 have hql':(q:Int) < x.l.length:=by omega
 have hxl:=hx1.1
 rw [hst,hq,hn,Int.toNat_natCast,Int.toNat_natCast] at hR
 have hcl:=cut_len (l:=x.l) (lo:=q) (n:=n) (by omega)
 have hcut:=RdG.cut hx1 (lo:=q) (n:=n) (by omega)
 have hb0:=byAt_cut (n:=n) hql hn1
 obtain ⟨b',o',cs',ea,hb',rows⟩:=hx1.rows (by omega)
 obtain ⟨g1,g2⟩:=rows q hql
 generalize x.l[q]=y at *
 simp only [go_sem,b5,hi,hi0,hil',Int.toNat_natCast,Nat.add_zero,hb,d2,d3,hst,hq,hq0,hql',ea,hb',g1,g2]
 intro r7 hF7 hM7
 have n3:=ne_of_blk b3 hF7 hM7
 have n5:=ne_of_blk b5 hF7 hM7
 have nb:=ne_of_blk hb hF7 hM7
 have nb':=ne_of_blk hb' hF7 hM7
 have old7:∀e,Old F (M1.upd r7 e):=fun e=>old5.upd hF7
 have kp7:∀e,Keep M1 (M1.upd r7 e):=fun e=>(Keep.refl M1).new hM7
 have hc7:∀e,c.rd F (M1.upd r7 e):=fun e=>RdG.new h1 hF7 hM7
 by_cases h0:c.k=0
 ·have hv:=say0 (big:=p.big) (c:=c.pc) (l:=(x.l.drop q).take n) h0
  rw [hb0] at hv
  simp only [setH,Hp.wG,go_sem,b5,n5,h0]
  exact fin _ (by rw [hR,hv]; rfl) _ (kp7 _)
 by_cases h11:c.k=11
 ·have hv:=say11 (big:=p.big) (c:=c.pc) (l:=(x.l.drop q).take n) h11
  rw [hb0] at hv
  by_cases x2:y.st=2
  rotate_left
  ·simp only [setH,Hp.wG,go_sem,b5,n5,h11,x2]
   exact fin _ (by rw [hR,hv,decide_eq_false x2]; rfl) _ (kp7 _)
  simp only [setH,Hp.wG,go_sem,b5,n5,h11,x2]
  with_reducible refine qQ (k53 F _ c.v y.i) ?_
  cases e1:c.v.has y.i
  ·simp only [go_sem]
   exact fin _ (by rw [hR,hv]; show (_ || (_ && (c.v.has y.i && _)))=false; rw [e1]; simp) _ (kp7 _)
  simp only [go_sem,b5,n5]
  have hcc:=hc7 ⟨y.cs,91,5⟩
  with_reducible refine qQ (k54 F _ (.slice c.lA c.l.length c.lC) c.l y.b y.o (by unfold Cl.rd at hcc; exact hcc)) ?_
  simp only [go_sem]
  exact fin _ (by rw [hR,hv,decide_eq_true x2]; show (_ || (_ && (c.v.has y.i && _)))=_; rw [e1]; rfl) _ (kp7 _)
 have hv:sayV p.big c.pc ((x.l.drop q).take n)=(decide ((yW p.big c.k ((x.l.drop q).take n)).2=0) && hasB c.k c.v c.l (yW p.big c.k ((x.l.drop q).take n)).1):=sayS (big:=p.big) (c:=c.pc) (l:=(x.l.drop q).take n) h0 h11
 have hks:isS c.k=true:=by
  rcases hk with h | h | h
  ·exact absurd h h0
  ·exact absurd h h11
  ·exact h
 have hle:=hx1.1
 have ew:IntKind.i64.wrap ((q:Int)+n)=((q+n:Nat):Int):=by rw [w64 (by omega) (by omega)]; omega
 have e1:(0:Int)≤((q+n:Nat):Int):=by omega
 have e2:(q:Int)≤((q+n:Nat):Int):=by omega
 have e3:((q+n:Nat):Int)≤x.l.length:=by omega
 have e4:x.l.length≤x.lC:=by
  obtain ⟨_,ad,cap,hc,e,_⟩:=hx1
  cases e; exact hc
 have e4':(x.l.length:Int)≤x.lC:=by omega
 have e5:q+n - q=n:=by omega
 simp only [setH,Hp.wG,go_sem,b3,n3,b5,n5,nb,h0,h11,hi,hi0,hil',Int.toNat_natCast,hb,d3,hq]
 with_reducible refine qQ (k62 F _ p c.k) ?_
 simp only [go_sem,hn,ew,e2,e3,e4,e5,Int.toNat_natCast,hq0]
 have hby':∀z∈(x.l.drop q).take n,byteB z=true:=fun z hz=>hby z (List.mem_of_mem_drop (List.mem_of_mem_take hz))
 have hc7':=RdG.new (e:=⟨y.cs,91,5⟩) hcut hF7 hM7
 have kG:=k47 F _ p.big p.ptr c.k _ _ ((x.l.drop q).take n) hp (old7 _) hc7' (by rw [hcl]; exact hn1) hby' (fun h=>by rw [hcl,hs7 h,hn]; rfl)
 rw [hcl] at kG
 with_reducible refine qQ kG ?_
 have hro:=read_o (big:=p.big) (k:=c.k) hby' (by rw [hcl]; exact hn1)
 clear kG hc7' hcut hby' hby
 generalize yW p.big c.k ((x.l.drop q).take n)=rv at *
 obtain ⟨s,bad⟩:=rv
 have b5':=blk_upd_ne (F:=F) (M:=M1) (e:=⟨y.cs,91,5⟩) n5
 rw [b5] at b5'
 have hc7:=hc7 ⟨y.cs,91,5⟩
 have kp7:=kp7 ⟨y.cs,91,5⟩
 have old7:=old7 ⟨y.cs,91,5⟩
 generalize M1.upd r7 ⟨y.cs,91,5⟩=M2 at *
 simp only [go_sem]
 intro r8 hF8 hM8
 have n5:=ne_of_blk b5' hF8 hM8
 have hc8:c.rd F (M2.upd r8 ⟨s.cs,50,4⟩):=RdG.new hc7 hF8 hM8
 by_cases hbad:bad=0
 rotate_left
 ·simp only [setH,Hp.wG,go_sem,hbad]
  exact fin _ (by rw [hR,hv]; show (_ || (decide (bad=0) && _))=false; rw [decide_eq_false hbad]; rfl) _ (kp7.trans (by repeat' first | exact Keep.refl _ | (refine Keep.new ?_ (by simp only [*]))))
 simp only [setH,Hp.wG,go_sem,hbad,b5',n5]
 with_reducible refine qQ (k25 F _ c.k c.v (.slice c.lA c.l.length c.lC) c.l s (by unfold Cl.rd at hc8; exact hc8)) ?_
 simp only [go_sem]
 refine fin _ ?_ _ (kp7.trans (by repeat' first | exact Keep.refl _ | (refine Keep.new ?_ (by simp only [*]))))
 rw [hR,hv]
 show (_ || (decide (bad=0) && hasB c.k c.v c.l s))=hasB c.k c.v c.l s
 rw [decide_eq_true hbad]; rfl
end Go.Proofs.Tryz.K
