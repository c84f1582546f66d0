/- Parts B7: the machine's runs of small codes, contracts of functions, plain facts. -/
import Derived.Test.YtamcbkelfgbkoaaGreatB6
set_option maxRecDepth 100000
set_option linter.unusedSimpArgs false
set_option linter.unusedVariables false
set_option maxHeartbeats 4000000
namespace Go.Proofs.Tryz.K
open Go Go.Ax Go.Proofs.Tryz.S
variable (F:Fz) (M:Hp)
theorem k258 (x:By)(n:Int)(r3:Nat)(e3:Ent)(h3:M r3=some e3)(c3:e3.cells=[.int .i64 n]):CallsA Tryz.prog 258 [x.val,.pointer (some ⟨r3,0,none⟩)] F M (Same F M (.bool (decide (x.st=n)))):=by
 refine qZ hm Tryz.func258 e258 (Nat.le_of_ble_eq_true rfl) ?_
 have b3:=qG (F:=F) h3
 rw [c3] at b3
 simp only [c258,go_sem]
 repeat' first
  | simp only [go_sem,yG,Option.isSome_some,Nat.add_zero, *]
  | (with_reducible first | apply cD | apply cN | apply cB | apply cO | apply tD | apply fD | apply tN | apply fN | apply tB | apply fB | apply tO | apply fO) <;> intro hc
  | (intro rx hFx hMx; (try simp only [wW] at hMx))
 all_goals (refine qX (M:=M) (by repeat' first | exact Keep.refl _ | (refine Keep.new ?_ (by simp only [*]))) ⟨?_,rfl,rfl⟩)
 all_goals rfl
theorem k215 (a:Option Addr)(c:Nat)(l:List By)(n:Int)(h:RdG 5 By.cs F M (.slice a l.length c) l):CallsA Tryz.prog 215 [.slice a l.length c,.int .i64 n] F M (Same F M (.bool (stIs n l))):=by
 refine qZ hm Tryz.func215 e215 (Nat.le_of_ble_eq_true rfl) ?_
 simp only [c215,go_sem]
 intro r3 hF3 hM3
 have h3:RdG 5 By.cs F (M.upd r3 ⟨[.int .i64 n],3,1⟩) (.slice a l.length c) l:=RdG.new h hF3 hM3
 have kc:=k213 F _ a c l _ [.pointer (some ⟨r3,0,none⟩)] (fun x=>decide (x.st=n)) h3 (fun v _=>k258 F _ v n r3 _ (Hp.qJ _ _ _) rfl)
 clear h3 h
 repeat' first
  | simp only [go_sem, *]
  | (with_reducible first | apply cD | apply cN | apply cB | apply cO | apply tD | apply fD | apply tN | apply fN | apply tB | apply fB | apply tO | apply fO) <;> intro hc
  | (intro rx hFx hMx; (try simp only [wW] at hMx))
  | with_reducible refine qQ kc ?_
 all_goals (refine qX (M:=M) (by repeat' first | exact Keep.refl _ | (refine Keep.new ?_ (by simp only [*]))) ⟨?_,rfl,rfl⟩)
 rfl
def ptrI (l:List By)(r2 r4:Nat)(F0:Fz)(M0:Hp)(i:Nat)(σ:Env)(F:Fz)(M:Hp):Prop:=
 F0=F∧Keep M0 M∧Old F0 M∧M0 r2=none∧M r2=some ⟨(Sc.mk false 0 0 0).cs,50,4⟩∧M r4=some ⟨(Sc.mk true 0 (yQ l 0).b (yQ l 0).o).cs,50,4⟩∧Ax.look σ 19=some (.int .i64 i)∧l.take i=(ptrL (yQ l 0).b (yQ l 0).o l.length).take i
theorem k216 (a:Option Addr)(c:Nat)(l:List By)(hold:Old F M)(h:RdG 5 By.cs F M (.slice a l.length c) l)(hl:0 < l.length) :
  CallsA Tryz.prog 216 [.slice a l.length c] F M (Same F M (.tuple #[(jJ l).1.val,.int .i64 (jJ l).2])):=by
 refine qZ hm Tryz.func216 e216 (Nat.le_of_ble_eq_true rfl) ?_
 have hle:=h.1
 obtain ⟨b,o,cs,rfl,hb,rows⟩:=h.rows hl
 obtain ⟨d1,d2⟩:=rows 0 hl
 have d3:=Go.Ax.By.row d2
 rw [Nat.zero_mul,Nat.add_zero] at d3
 obtain ⟨_,_,d4,d5,_⟩:=d3
 have e0:yQ l 0=l[0]:=by unfold yQ; rw [List.getElem?_eq_getElem hl]; rfl
 rw [←e0] at d4 d5
 have hl0:(0:Int) < l.length:=by omega
 have t0:Int.toNat 0=0:=rfl
 simp only [c216,go_sem]
 intro r2 hF2 hM2
 have nb2:=ne_of_blk hb hF2 hM2
 simp only [go_sem,nb2,hb,hl0,t0,d4,d5,Nat.zero_mul,Nat.add_zero]
 intro r4 hF4 hM4
 simp only [wW] at hM4
 simp only [setH,Hp.wG,go_sem]
 refine yX l.length (ptrI l r2 r4 F M) ⟨rfl,(by repeat' first | exact Keep.refl _ | (refine Keep.new ?_ (by simp only [*]))),(by repeat' first | assumption | (refine Old.upd ?_ (by assumption))),hM2,by rw [Hp.qK hM4.1.2]; exact Hp.qJ _ _ _,Hp.qJ _ _ _,(by simp only [go_sem, *] <;> rfl),rfl⟩ ?_
 clear nb2 hF2 hM2 hF4 hM4
 rintro i σ F' M1 hi hs ⟨rfl,kp,old,hM2,f2,f4,q19,he⟩
 have q2:=hs 2 rfl
 have q4:=hs 4 rfl
 have q17:=hs 17 rfl
 have q18:=hs 18 rfl
 simp only [go_sem] at q2 q4 q17 q18
 clear hs
 have b2:=qG (F:=F) f2
 have b4:=qG (F:=F) f4
 have fin:∀M3,Keep M1 M3→∀x,endK F (M3.upd r2 x) (Same F M (.tuple #[(jJ l).1.val,.int .i64 (jJ l).2])) (.tuple #[(jJ l).1.val,.int .i64 (jJ l).2]):=fun M3 k x=>qX ((kp.trans k).new hM2) ⟨rfl,rfl,rfl⟩
 by_cases hil:(i:Int) < l.length
 rotate_left
 ·have hlp:l=ptrL (yQ l 0).b (yQ l 0).o l.length:=by
   rw [List.take_of_length_le (by omega),List.take_of_length_le (by rw [ptrL_len]; omega)] at he
   exact he
  have hv:jJ l=(⟨true,0,(yQ l 0).b,(yQ l 0).o⟩,0):=by unfold jJ; rw [if_pos hlp]
  have ff:=fin M1 (Keep.refl _)
  rw [hv] at ff ⊢
  simp only [setH,go_sem,q2,q4,q18,q19,hil,b4,f2]
  exact ff _
 have hi0:(0:Int)≤i:=by omega
 have hi1:i < l.length:=by omega
 have ei:IntKind.i64.wrap ((i:Int)+1)=i+1:=w64 (by omega) (by omega)
 have hb1:=blk_keep hb kp old
 obtain ⟨g1,g2⟩:=rows i hi1
 have t1:=List.take_succ_eq_append_getElem hi1
 have t2:(ptrL (yQ l 0).b (yQ l 0).o l.length).take (i+1)=(ptrL (yQ l 0).b (yQ l 0).o l.length).take i++[wantB (yQ l 0).b (yQ l 0).o i]:=by
  rw [List.take_add_one,ptrL_get hi1]; rfl
 have hne:¬l[i]=wantB (yQ l 0).b (yQ l 0).o i→jJ l=(⟨false,0,0,0⟩,8):=fun h=>by
  unfold jJ
  rw [if_neg]
  intro e
  have:=congrArg (fun m=>m[i]?) e
  simp only [ptrL_get hi1,List.getElem?_eq_getElem hi1,Option.some.injEq] at this
  exact h this
 clear rows
 generalize l[i]=x at *
 simp only [go_sem,q17,q18,q19,hil,hi0,Int.toNat_natCast,hb1,g1,g2]
 intro r6 hF6 hM6
 have m2:=qH hM6 f2
 have m4:=qH hM6 f4
 simp only [setH,Hp.wG,go_sem]
 intro r7 hF7 hM7
 simp only [wW] at hM7
 have p2:=qH hM7.2 f2
 have p4:=qH hM7.2 f4
 have kp7:∀e e',Keep M1 ((M1.upd r6 e).upd r7 e'):=fun e e'=>(by repeat' first | exact Keep.refl _ | (refine Keep.new ?_ (by simp only [*])))
 have old7:∀e e',Old F ((M1.upd r6 e).upd r7 e'):=fun e e'=>(by repeat' first | assumption | (refine Old.upd ?_ (by assumption)))
 have next:x=wantB (yQ l 0).b (yQ l 0).o i→∀e e' σ',Ax.look σ' 19=some (.int .i64 ((i+1:Nat):Int))→Nxt (ptrI l r2 r4 F M) l.length i σ' F ((M1.upd r6 e).upd r7 e'):=fun hx e e' σ' h=>
  ⟨hi1,rfl,kp.trans (kp7 _ _),old7 _ _,hM2,kp7 _ _ _ _ f2,kp7 _ _ _ _ f4,h,by rw [t1,t2,he,hx]⟩
 have stop:¬x=wantB (yQ l 0).b (yQ l 0).o i→∀e e',endK F (((M1.upd r6 e).upd r7 e').upd r2 ⟨(Sc.mk false 0 0 0).cs,50,4⟩) (Same F M (.tuple #[(jJ l).1.val,.int .i64 (jJ l).2])) (.tuple #[(Sc.mk false 0 0 0).val,.int .i64 8]):=fun hx e e'=>by
  have ff:=fin _ (kp7 e e') ⟨(Sc.mk false 0 0 0).cs,50,4⟩
  rw [hne hx] at ff ⊢
  exact ff
 clear fin hne t1 t2 he
 by_cases hbp:0 < (yQ l 0).b
 ·have ew:wantB (yQ l 0).b (yQ l 0).o i=⟨2,0,(yQ l 0).b,(yQ l 0).o,i⟩:=by unfold wantB; rw [if_pos hbp]
  rw [ew] at next stop
  by_cases hx:x=⟨2,0,(yQ l 0).b,(yQ l 0).o,i⟩
  ·simp only [setH,Hp.wG,go_sem,q4,q19,m4,p4,hM7,b4,hbp,By.fold,hx,ei]
   exact next hx _ _ _ (by simp only [go_sem, *] <;> rfl)
  ·simp only [setH,Hp.wG,go_sem,q2,q4,m2,m4,p2,p4,hM7,b4,f2,hbp,By.fold,hx]
   exact stop hx _ _
 ·have ew:wantB (yQ l 0).b (yQ l 0).o i=⟨1,0,0,0,0⟩:=by unfold wantB; rw [if_neg hbp]
  rw [ew] at next stop
  by_cases hx:x=⟨1,0,0,0,0⟩
  ·simp only [setH,Hp.wG,go_sem,q4,q19,m4,p4,hM7,b4,hbp,By.fold,hx,ei]
   exact next hx _ _ _ (by simp only [go_sem, *] <;> rfl)
  ·simp only [setH,Hp.wG,go_sem,q2,q4,m2,m4,p2,p4,hM7,b4,f2,hbp,By.fold,hx]
   exact stop hx _ _
theorem ordL_len (big:Bool)(l:List By):(ordL big l).length=l.length:=by unfold ordL; split <;> simp
theorem numL_succ {l:List By}{i:Nat}(h:i < l.length):numL (l.take (i+1))=bor .i64 (shlv .i64 (numL (l.take i)) 8) (l[i]).n:=by
 rw [List.take_succ_eq_append_getElem h]
 unfold numL
 rw [List.foldl_append]; rfl
def readI (big:Bool)(l:List By)(r6:Nat)(F0:Fz)(M0:Hp)(i:Nat)(σ:Env)(F:Fz)(M:Hp):Prop:=
 F0=F∧Keep M0 M∧Old F0 M∧Ax.look σ 28=some (.int .i64 i)∧Ax.look σ 8=some (.int .i64 (numL ((ordL big l).take i)))
theorem k164 (big:Bool)(ptr k:Int)(a:Option Addr)(c:Nat)(l:List By)(hold:Old F M)(h:RdG 5 By.cs F M (.slice a l.length c) l)(hl:0 < l.length) :
  CallsA Tryz.prog 164 [.agg #[.bool big,.int .i64 ptr],.int .i64 k,.slice a l.length c] F M (Same F M (.tuple #[(yW big k l).1.val,.int .i64 (yW big k l).2])):=by
 refine qZ hm Tryz.func164 e164 (Nat.le_of_ble_eq_true rfl) ?_
 have hle:=h.1
 simp only [c164,go_sem]
 intro r3 hF3 hM3
 simp only [go_sem]
 intro r6 hF6 hM6
 simp only [wW] at hM6
 have kp6:Keep M ((M.upd r3 ⟨[.bool big,.int .i64 ptr],23,2⟩).upd r6 ⟨[.bool false,.int .i64 0,.int .i64 0,.int .i64 0],50,4⟩):=(by repeat' first | exact Keep.refl _ | (refine Keep.new ?_ (by simp only [*])))
 have old6:Old F ((M.upd r3 ⟨[.bool big,.int .i64 ptr],23,2⟩).upd r6 ⟨[.bool false,.int .i64 0,.int .i64 0,.int .i64 0],50,4⟩):=(by repeat' first | assumption | (refine Old.upd ?_ (by assumption)))
 have f3:((M.upd r3 ⟨[.bool big,.int .i64 ptr],23,2⟩).upd r6 ⟨[.bool false,.int .i64 0,.int .i64 0,.int .i64 0],50,4⟩) r3=some ⟨[.bool big,.int .i64 ptr],23,2⟩:=by rw [Hp.qK hM6.1.2]; exact Hp.qJ _ _ _
 have f6:((M.upd r3 ⟨[.bool big,.int .i64 ptr],23,2⟩).upd r6 ⟨[.bool false,.int .i64 0,.int .i64 0,.int .i64 0],50,4⟩) r6=some ⟨[.bool false,.int .i64 0,.int .i64 0,.int .i64 0],50,4⟩:=Hp.qJ _ _ _
 have n6:M r6=none:=hM6.2
 generalize (M.upd r3 ⟨[.bool big,.int .i64 ptr],23,2⟩).upd r6 ⟨[.bool false,.int .i64 0,.int .i64 0,.int .i64 0],50,4⟩=M1 at *
 have h1:=h.keep kp6 old6
 have b3:=qG (F:=F) f3
 have b6:=qG (F:=F) f6
 clear hF3 hM3 hF6 hM6
 have fin:∀s bad,yW big k l=(s,bad)→∀M3,Keep M1 M3→∀x,endK F (M3.upd r6 x) (Same F M (.tuple #[(yW big k l).1.val,.int .i64 (yW big k l).2])) (.tuple #[s.val,.int .i64 bad]):=fun s bad e M3 k x=>qX ((kp6.trans k).new n6) ⟨by rw [e],rfl,rfl⟩
 simp only [go_sem]
 refine qQ (k215 F M1 a c l 0 h1) ?_
 cases s0:stIs 0 l
 rotate_left
 ·have hv:yW big k l=(⟨false,0,0,0⟩,7):=by unfold yW; rw [if_pos s0]
  simp only [setH,go_sem,f6]
  exact fin _ _ hv M1 (Keep.refl _) _
 by_cases h7:k=7
 ·have hv:yW big k l=((jJ l).1,(jJ l).2):=by unfold yW; rw [if_neg (by simp [s0]),if_pos h7]
  simp only [go_sem,h7]
  refine qQ (k216 F M1 a c l old6 h1 hl) ?_
  simp only [setH,go_sem,f6]
  rw [h7] at hv fin
  exact fin _ _ hv M1 (Keep.refl _) _
 simp only [go_sem,h7]
 refine qQ (k215 F M1 a c l 2 h1) ?_
 cases s2:stIs 2 l
 rotate_left
 ·have hv:yW big k l=(⟨false,0,0,0⟩,8):=by unfold yW; rw [if_neg (by simp [s0]),if_neg h7,if_pos s2]
  simp only [setH,go_sem,f6]
  exact fin _ _ hv M1 (Keep.refl _) _
 have hv:yW big k l=(⟨false,numL (ordL big l),0,0⟩,0):=by unfold yW; rw [if_neg (by simp [s0]),if_neg h7,if_neg (by simp [s2])]
 simp only [go_sem]
 refine yX l.length (readI big l r6 F M1) ⟨rfl,Keep.refl _,old6,(by simp only [go_sem, *] <;> rfl),by simp only [go_sem]; rfl⟩ ?_
 rintro i σ F' M2 hi hs ⟨rfl,kp,old,q28,q8⟩
 have q2:=hs 2 rfl
 have q3:=hs 3 rfl
 have q6:=hs 6 rfl
 have q27:=hs 27 rfl
 simp only [go_sem] at q2 q3 q6 q27
 clear hs
 have b3':=qG (F:=F) (kp _ _ f3)
 have g6:=kp _ _ f6
 have b6':=qG (F:=F) g6
 by_cases hil:(i:Int) < l.length
 rotate_left
 ·have hx:i=l.length:=by omega
  rw [List.take_of_length_le (by rw [ordL_len]; omega)] at q8
  simp only [setH,go_sem,q6,q27,q28,q8,hil,g6,Sc.fold]
  exact fin _ _ hv M2 kp _
 have hi0:(0:Int)≤i:=by omega
 have hi1:i < l.length:=by omega
 have ei:IntKind.i64.wrap ((i:Int)+1)=i+1:=w64 (by omega) (by omega)
 have ew1:IntKind.i64.wrap ((l.length:Int) - 1)=l.length - 1:=w64 (by omega) (by omega)
 have ew2:IntKind.i64.wrap ((l.length:Int) - 1 - i)=((l.length - 1 - i:Nat):Int):=by rw [w64 (by omega) (by omega)]; omega
 have hj:l.length - 1 - i < l.length:=by omega
 have hj0:(0:Int)≤((l.length - 1 - i:Nat):Int):=by omega
 have hjl:((l.length - 1 - i:Nat):Int) < l.length:=by omega
 obtain ⟨b,o,cs,rfl,hb,rows⟩:=(h1.keep kp old).rows hl
 obtain ⟨d1,d2⟩:=rows i hi1
 obtain ⟨d3,d4⟩:=rows (l.length - 1 - i) hj
 have hsucc:=numL_succ (l:=ordL big l) (i:=i) (by rw [ordL_len]; exact hi1)
 have hsel:((ordL big l)[i]'(by rw [ordL_len]; exact hi1))=if big=true then l[i] else l[l.length - 1 - i]:=by
  cases big
  ·simp [ordL,List.getElem_reverse]
  ·simp [ordL]
 rw [hsel] at hsucc
 clear hsel rows
 generalize l[i]=x at *
 generalize l[l.length - 1 - i]=y at *
 simp only [go_sem,q2,q27,q28,hil,ew1,ew2,hj0,hjl,Int.toNat_natCast,hb,d3,d4]
 intro r10 hF10 hM10
 have m3:=qH hM10 (kp _ _ f3)
 have m6:=qH hM10 g6
 have mb:=ne_of_blk hb hF10 hM10
 have kp10:∀e,Keep M2 (M2.upd r10 e):=fun e=>(Keep.refl M2).new hM10
 cases big
 ·simp only [setH,Hp.wG,go_sem,q3,q28,q8,m3,b3',ei]
  exact ⟨hi1,rfl,kp.trans (kp10 _),old.upd hF10,(by simp only [go_sem, *] <;> rfl),by simp only [go_sem]; rw [hsucc]; rfl⟩
 ·simp only [setH,Hp.wG,go_sem,q2,q3,q28,q8,m3,mb,b3',hi0,hil,Int.toNat_natCast,hb,d1,d2,ei]
  exact ⟨hi1,rfl,kp.trans (kp10 _),old.upd hF10,(by simp only [go_sem, *] <;> rfl),by simp only [go_sem]; rw [hsucc]; rfl⟩
theorem k86 (a1 a2:Option Addr)(c1 c2:Nat)(l1 l2:List By)(h1:RdG 5 By.cs F M (.slice a1 l1.length c1) l1)(h2:RdG 5 By.cs F M (.slice a2 l2.length c2) l2) :
  CallsA Tryz.prog 86 [.slice a1 l1.length c1,.slice a2 l2.length c2] F M (Same F M (.bool (decide (l1=l2)))):=by
 refine qZ hm Tryz.func86 e86 (Nat.le_of_ble_eq_true rfl) ?_
 have hm1:=h1.1
 by_cases hlen:(l1.length:Int)=l2.length
 rotate_left
 ·simp only [c86,go_sem,hlen]
  exact qW ⟨by rw [decide_eq_false (by rintro rfl; exact hlen rfl)],rfl,rfl⟩
 simp only [c86,go_sem,hlen]
 refine yX l1.length (fun i σ F' M'=>F=F'∧M=M'∧Ax.look σ 5=some (.int .i64 i)∧l1.take i=l2.take i) ⟨rfl,rfl,(by simp only [go_sem, *] <;> rfl),by simp⟩ ?_
 rintro i σ F' M' hi hs ⟨rfl,rfl,h5,he⟩
 have s0:=hs 0 rfl
 have s1:=hs 1 rfl
 simp only [go_sem] at s0 s1
 clear hs
 by_cases hil:(i:Int) < l2.length
 rotate_left
 ·have:l1=l2:=by
   rw [List.take_of_length_le (by omega),List.take_of_length_le (by omega)] at he
   exact he
  simp only [go_sem,s0,h5,hil,hlen]
  exact qW ⟨by simp [this],rfl,rfl⟩
 have hi0:(0:Int)≤i:=by omega
 have hi1:i < l1.length:=by omega
 have hi2:i < l2.length:=by omega
 have ei:IntKind.i64.wrap ((i:Int)+1)=i+1:=w64 (by omega) (by omega)
 obtain ⟨b,o,cs,rfl,hb,d1,d2⟩:=RdG.at h1 hi1
 obtain ⟨b',o',cs',rfl,hb',d3,d4⟩:=RdG.at h2 hi2
 have t1:=List.take_succ_eq_append_getElem hi1
 have t2:=List.take_succ_eq_append_getElem hi2
 have hne:¬l1[i]=l2[i]→¬l1=l2:=by
  rintro h rfl; exact h rfl
 generalize l1[i]=x at *
 generalize l2[i]=y at *
 by_cases hxy:x=y
 ·simp only [go_sem,s0,s1,h5,hlen,hil,hi0,Int.toNat_natCast,hb,hb',d1,d2,d3,d4,hxy,ei]
  exact ⟨hi1,rfl,rfl,(by simp only [go_sem, *] <;> rfl),by rw [t1,t2,he,hxy]⟩
 ·simp only [go_sem,s0,s1,h5,hlen,hil,hi0,Int.toNat_natCast,hb,hb',d1,d2,d3,d4,hxy]
  exact qW ⟨by rw [decide_eq_false (hne hxy)],rfl,rfl⟩
def putI (big:Bool)(n:Nat)(s:Sc)(r3 r5 r15:Nat)(ptr:Int)(F0:Fz)(M0:Hp)(i:Nat)(σ:Env)(F:Fz)(M:Hp):Prop:=
 F0=F∧M=((M0.upd r3 ⟨[.bool big,.int .i64 ptr],23,2⟩).upd r5 ⟨s.cs,50,4⟩).upd r15 ⟨((putL big n s).take i++List.replicate (n - i) (⟨0,0,0,0,0⟩:By)).flatMap By.cs,91,n * 5⟩∧Ax.look σ 9=some (.int .i64 i)
theorem put_set {big:Bool}{n i:Nat}{s:Sc}(h:i < n)(x y:By):(((putL big n s).take i++List.replicate (n - i) x).set i y)=(putL big n s).take i++y :: List.replicate (n - (i+1)) x:=by
 have e:n - i=(n - (i+1))+1:=by omega
 have hl:((putL big n s).take i).length=i:=by rw [List.length_take,gV]; omega
 rw [List.set_append,if_neg (by omega),hl,Nat.sub_self,e,List.replicate_succ]
 rfl
theorem put_set2 {big:Bool}{n i:Nat}{s:Sc}(h:i < n)(x y z:By):(((putL big n s).take i++y :: List.replicate (n - (i+1)) x).set i z)=(putL big n s).take i++z :: List.replicate (n - (i+1)) x:=by
 have hl:((putL big n s).take i).length=i:=by rw [List.length_take,gV]; omega
 rw [List.set_append,if_neg (by omega),hl,Nat.sub_self]
 rfl
theorem put_next {big:Bool}{n i:Nat}{s:Sc}(h:i < n)(x:By):(putL big n s).take i++putB big n s i :: List.replicate (n - (i+1)) x=(putL big n s).take (i+1)++List.replicate (n - (i+1)) x:=by
 have:(putL big n s)[i]? = some (putB big n s i):=by simp [putL,h]
 rw [List.take_add_one,this]
 simp
theorem k36 (big:Bool)(ptr k:Int)(s:Sc)(hp:ptr=2∨ptr=4)(hold:Old F M) :
  CallsA Tryz.prog 36 [.agg #[.bool big,.int .i64 ptr],.int .i64 k,s.val] F M (rowR 5 By.cs 91 (putL big (sizeK ptr k).toNat s) F M):=by
 refine qZ hm Tryz.func36 e36 (Nat.le_of_ble_eq_true rfl) ?_
 have hn:0≤sizeK ptr k∧sizeK ptr k≤4:=by
  unfold sizeK
  split
  ·omega
  ·have hw:=wK_le k
   unfold wK ofW
   split
   ·split
    ·decide
    split <;> decide
   ·decide
 obtain ⟨n,hz⟩:=Int.eq_ofNat_of_zero_le hn.1
 have hn4:n≤4:=by omega
 rw [hz,Int.toNat_natCast]
 simp only [c36,go_sem]
 intro r3 hF3 hM3
 simp only [go_sem]
 intro r5 hF5 hM5
 simp only [wW] at hM5
 simp only [go_sem,hM5]
 refine qQ (k48 _ _ big ptr k) ?_
 rw [hz]
 simp only [go_sem]
 refine msK_of (Nat.le_refl _) (by simp only [maxLen]; omega) (by omega) ?_
 intro r15 hF15 hM15
 simp only [wW] at hM15
 have hrep:(List.replicate n [Value.int .i64 0,.int .i64 0,.int .i64 0,.int .i64 0,.int .i64 0]).flatten=((putL big n s).take 0++List.replicate (n - 0) (⟨0,0,0,0,0⟩:By)).flatMap By.cs:=by
  rw [List.take_zero,List.nil_append,Nat.sub_zero]
  exact flatG_rep (f:=By.cs) ⟨0,0,0,0,0⟩ n
 rw [hrep]
 simp only [go_sem]
 refine yX n (putI big n s r3 r5 r15 ptr F M) ⟨rfl,rfl,(by simp only [go_sem, *] <;> rfl)⟩ ?_
 clear hrep
 rintro i σ F' M' hi hst ⟨rfl,rfl,h9⟩
 have q3:=hst 3 rfl
 have q5:=hst 5 rfl
 have q7:=hst 7 rfl
 have q8:=hst 8 rfl
 simp only [go_sem] at q3 q5 q7 q8
 clear hst
 by_cases hil:(i:Int) < n
 rotate_left
 ·have hin:i=n:=by omega
  have e0:(putL big n s).take i++List.replicate (n - i) (⟨0,0,0,0,0⟩:By)=putL big n s:=by
   rw [hin,Nat.sub_self,List.take_of_length_le (by rw [gV]; omega)]; simp
  rw [e0]
  simp only [go_sem,q7,q8,h9,hil]
  refine qX (M:=M.upd r15 ⟨(putL big n s).flatMap By.cs,91,n * 5⟩) ?_ ⟨rfl,?_⟩
  ·exact Keep.both (by repeat' first | exact Keep.refl _ | (refine Keep.new ?_ (by simp only [*])))
  ·exact .inr ⟨r15,n,hF15,hM15.2.2,by rw [gV],⟨by rw [gV]; omega,by simp only [maxLen]; omega⟩,rfl⟩
 have hi0:(0:Int)≤i:=by omega
 have hi1:i < n:=by omega
 have ei:IntKind.i64.wrap ((i:Int)+1)=i+1:=w64 (by omega) (by omega)
 have ew1:IntKind.i64.wrap ((n:Int) - 1)=n - 1:=w64 (by omega) (by omega)
 have ew2:IntKind.i64.wrap ((n:Int) - 1 - i)=((n - 1 - i:Nat):Int):=by rw [w64 (by omega) (by omega)]; omega
 have ew3:IntKind.i64.wrap (8 * (i:Int))=8 * (i:Int):=w64 (by omega) (by omega)
 have ew4:IntKind.i64.wrap (8 * ((n - 1 - i:Nat):Int))=8 * ((n - 1 - i:Nat):Int):=w64 (by omega) (by omega)
 have en3:¬(8 * (i:Int)) < 0:=by omega
 have en4:¬(8 * ((n - 1 - i:Nat):Int)) < 0:=by omega
 have hlen:((putL big n s).take i++List.replicate (n - i) (⟨0,0,0,0,0⟩:By)).length=n:=by
  rw [List.length_append,List.length_take,gV,List.length_replicate]; omega
 have hlc:i * 5+5≤(((putL big n s).take i++List.replicate (n - i) (⟨0,0,0,0,0⟩:By)).flatMap By.cs).length:=by
  rw [gW By.len,hlen]; omega
 have fs:∀y:By,(((putL big n s).take i++List.replicate (n - i) (⟨0,0,0,0,0⟩:By)).flatMap By.cs).take (i * 5)++y.cs++(((putL big n s).take i++List.replicate (n - i) (⟨0,0,0,0,0⟩:By)).flatMap By.cs).drop (i * 5+5)=((putL big n s).take i++y :: List.replicate (n - (i+1)) (⟨0,0,0,0,0⟩:By)).flatMap By.cs:=fun y=>by
  rw [flatG_set By.len y _ i (by rw [hlen]; exact hi1),put_set hi1]
 have hlen2:∀y,((putL big n s).take i++y :: List.replicate (n - (i+1)) (⟨0,0,0,0,0⟩:By)).length=n:=fun y=>by
  rw [List.length_append,List.length_take,gV,List.length_cons,List.length_replicate]; omega
 have hlc2:∀y,i * 5+5≤(((putL big n s).take i++y :: List.replicate (n - (i+1)) (⟨0,0,0,0,0⟩:By)).flatMap By.cs).length:=fun y=>by
  rw [gW By.len,hlen2]; omega
 have fs2:∀x y:By,(((putL big n s).take i++x :: List.replicate (n - (i+1)) (⟨0,0,0,0,0⟩:By)).flatMap By.cs).take (i * 5)++y.cs++(((putL big n s).take i++x :: List.replicate (n - (i+1)) (⟨0,0,0,0,0⟩:By)).flatMap By.cs).drop (i * 5+5)=((putL big n s).take i++y :: List.replicate (n - (i+1)) (⟨0,0,0,0,0⟩:By)).flatMap By.cs:=fun x y=>by
  rw [flatG_set By.len y _ i (by rw [hlen2]; exact hi1),put_set2 hi1]
 have fin:∀(y:By) σ',y=putB big n s i→Ax.look σ' 9=some (.int .i64 ((i+1:Nat):Int))→Nxt (putI big n s r3 r5 r15 ptr F M) n i σ' F (((M.upd r3 ⟨[.bool big,.int .i64 ptr],23,2⟩).upd r5 ⟨s.cs,50,4⟩).upd r15 ⟨((putL big n s).take i++y :: List.replicate (n - (i+1)) ⟨0,0,0,0,0⟩).flatMap By.cs,91,n * 5⟩):=fun y σ' hy h=>
  ⟨hi1,rfl,by rw [hy,put_next hi1],h⟩
 have fs':=fun a b c d e=>fs ⟨a,b,c,d,e⟩
 have fs2':=fun x a b c d e=>fs2 x ⟨a,b,c,d,e⟩
 simp only [Go.Ax.By.cs] at fs' fs2'
 clear fs fs2
 rcases Bool.eq_false_or_eq_true big with rfl | rfl
 ·rcases Bool.eq_false_or_eq_true s.p with hsp | hsp
  ·by_cases hsb:0 < s.b
   ·have ep:putB true n s i=⟨2,0,s.b,s.o,i⟩:=by unfold putB wantB; rw [if_pos hsp,if_pos hsb]
    simp only [setH,Hp.wG,go_sem,q3,q5,q7,q8,h9,hil,hi0,hM15,hM5,Int.toNat_natCast,ew1,ew2,ew4,en4,fs',fs2',hlc,hlc2,hsp,hsb,ei]
    exact fin _ _ ep.symm (by simp only [go_sem, *] <;> rfl)
   ·have ep:putB true n s i=⟨1,0,0,0,0⟩:=by unfold putB wantB; rw [if_pos hsp,if_neg hsb]
    simp only [setH,Hp.wG,go_sem,q3,q5,q7,q8,h9,hil,hi0,hM15,hM5,Int.toNat_natCast,ew1,ew2,ew4,en4,fs',fs2',hlc,hlc2,hsp,hsb,ei]
    exact fin _ _ ep.symm (by simp only [go_sem, *] <;> rfl)
  ·have ep:putB true n s i=⟨1,band .i64 (shrv .i64 s.n (8 * ((n - 1 - i:Nat):Int))) 255,0,0,0⟩:=by unfold putB; rw [if_neg (by rw [hsp]; exact Bool.false_ne_true),if_pos rfl]
   simp only [setH,Hp.wG,go_sem,q3,q5,q7,q8,h9,hil,hi0,hM15,hM5,Int.toNat_natCast,ew1,ew2,ew4,en4,fs',hlc,hsp,ei]
   exact fin _ _ ep.symm (by simp only [go_sem, *] <;> rfl)
 ·rcases Bool.eq_false_or_eq_true s.p with hsp | hsp
  ·by_cases hsb:0 < s.b
   ·have ep:putB false n s i=⟨2,0,s.b,s.o,i⟩:=by unfold putB wantB; rw [if_pos hsp,if_pos hsb]
    simp only [setH,Hp.wG,go_sem,q3,q5,q7,q8,h9,hil,hi0,hM15,hM5,Int.toNat_natCast,ew3,en3,fs',fs2',hlc,hlc2,hsp,hsb,ei]
    exact fin _ _ ep.symm (by simp only [go_sem, *] <;> rfl)
   ·have ep:putB false n s i=⟨1,0,0,0,0⟩:=by unfold putB wantB; rw [if_pos hsp,if_neg hsb]
    simp only [setH,Hp.wG,go_sem,q3,q5,q7,q8,h9,hil,hi0,hM15,hM5,Int.toNat_natCast,ew3,en3,fs',fs2',hlc,hlc2,hsp,hsb,ei]
    exact fin _ _ ep.symm (by simp only [go_sem, *] <;> rfl)
  ·have ep:putB false n s i=⟨1,band .i64 (shrv .i64 s.n (8 * (i:Int))) 255,0,0,0⟩:=by unfold putB; rw [if_neg (by rw [hsp]; exact Bool.false_ne_true),if_neg Bool.false_ne_true]
   simp only [setH,Hp.wG,go_sem,q3,q5,q7,q8,h9,hil,hi0,hM15,hM5,Int.toNat_natCast,ew3,en3,fs',hlc,hsp,ei]
   exact fin _ _ ep.symm (by simp only [go_sem, *] <;> rfl)
theorem stIs_succ {n:Int}{l:List By}{i:Nat}(h:i < l.length):stIs n (l.take (i+1))=(stIs n (l.take i) || decide ((l[i]).st=n)):=by
 rw [List.take_succ_eq_append_getElem h]
 unfold stIs
 rw [List.any_append]; simp
theorem stIs_at {n:Int}{l:List By}{i:Nat}(h:i < l.length)(e:(l[i]).st=n):stIs n l=true:=by
 unfold stIs
 rw [List.any_eq_true]
 exact ⟨l[i],List.getElem_mem h,by simp [e]⟩
def getI (l:List By)(F0:Fz)(M0:Hp)(i:Nat)(σ:Env)(F:Fz)(M:Hp):Prop:=
 F0=F∧M0=M∧Ax.look σ 9=some (.int .i64 i)∧∃c:Nat,c≤i∧Ax.look σ 8=some (.int .i64 c)∧decide (0 < c)=stIs 2 (l.take i)∧stIs 0 (l.take i)=false
def getI2 (l:List By)(F0:Fz)(M0:Hp)(i:Nat)(σ:Env)(F:Fz)(M:Hp):Prop:=
 F0=F∧M0=M∧Ax.look σ 10=some (.int .i64 i)∧(l.take i).all (fun x=>decide (x.n=0))=true
def getI3 (big:Bool)(l:List By)(F0:Fz)(M0:Hp)(i:Nat)(σ:Env)(F:Fz)(M:Hp):Prop:=
 F0=F∧M0=M∧Ax.look σ 13=some (.int .i64 i)∧Ax.look σ 12=some (.int .i64 (numL ((ordL big l).take i)))
theorem k47 (big:Bool)(ptr k:Int)(a:Option Addr)(c:Nat)(l:List By)(hp:ptr=2∨ptr=4)(hold:Old F M)(h:RdG 5 By.cs F M (.slice a l.length c) l)(hl:0 < l.length)(hb:∀x∈l,byteB x=true)(hk:k=7→(sizeK ptr k).toNat=l.length) :
  CallsA Tryz.prog 47 [.agg #[.bool big,.int .i64 ptr],.int .i64 k,.slice a l.length c] F M (Same F M (.tuple #[(yW big k l).1.val,.int .i64 (yW big k l).2])):=by
 refine qZ hm Tryz.func47 e47 (Nat.le_of_ble_eq_true rfl) ?_
 have hle:=h.1
 simp only [c47,go_sem]
 intro r3 hF3 hM3
 simp only [go_sem]
 intro r6 hF6 hM6
 simp only [wW] at hM6
 have kp6:Keep M ((M.upd r3 ⟨[.bool big,.int .i64 ptr],23,2⟩).upd r6 ⟨[.bool false,.int .i64 0,.int .i64 0,.int .i64 0],50,4⟩):=(by repeat' first | exact Keep.refl _ | (refine Keep.new ?_ (by simp only [*])))
 have old6:Old F ((M.upd r3 ⟨[.bool big,.int .i64 ptr],23,2⟩).upd r6 ⟨[.bool false,.int .i64 0,.int .i64 0,.int .i64 0],50,4⟩):=(by repeat' first | assumption | (refine Old.upd ?_ (by assumption)))
 have f3:((M.upd r3 ⟨[.bool big,.int .i64 ptr],23,2⟩).upd r6 ⟨[.bool false,.int .i64 0,.int .i64 0,.int .i64 0],50,4⟩) r3=some ⟨[.bool big,.int .i64 ptr],23,2⟩:=by rw [Hp.qK hM6.1.2]; exact Hp.qJ _ _ _
 have f6:((M.upd r3 ⟨[.bool big,.int .i64 ptr],23,2⟩).upd r6 ⟨[.bool false,.int .i64 0,.int .i64 0,.int .i64 0],50,4⟩) r6=some ⟨[.bool false,.int .i64 0,.int .i64 0,.int .i64 0],50,4⟩:=Hp.qJ _ _ _
 have n6:M r6=none:=hM6.2
 generalize (M.upd r3 ⟨[.bool big,.int .i64 ptr],23,2⟩).upd r6 ⟨[.bool false,.int .i64 0,.int .i64 0,.int .i64 0],50,4⟩=M1 at *
 have h1:=h.keep kp6 old6
 have b3:=qG (F:=F) f3
 have b6:=qG (F:=F) f6
 clear hF3 hM3 hF6 hM6 h
 obtain ⟨b,o,cs,rfl,hbk,rows⟩:=h1.rows hl
 have fin:∀s bad,yW big k l=(s,bad)→∀M3,Keep M1 M3→∀x,endK F (M3.upd r6 x) (Same F M (.tuple #[(yW big k l).1.val,.int .i64 (yW big k l).2])) (.tuple #[s.val,.int .i64 bad]):=fun s bad e M3 kp x=>qX ((kp6.trans kp).new n6) ⟨by rw [e],rfl,rfl⟩
 simp only [go_sem]
 refine yX l.length (getI l F M1) ⟨rfl,rfl,(by simp only [go_sem, *] <;> rfl),0,Nat.le_refl _,(by simp only [go_sem, *] <;> rfl),by simp [stIs],by simp [stIs]⟩ ?_
 rintro i σ F' M' hi hst ⟨rfl,rfl,q9,n,hn,q8,e2,e0⟩
 have q1:=hst 1 rfl
 have q2:=hst 2 rfl
 have q3:=hst 3 rfl
 have q6:=hst 6 rfl
 simp only [go_sem] at q1 q2 q3 q6
 clear hst
 by_cases hil:(i:Int) < l.length
 ·have hi0:(0:Int)≤i:=by omega
  have hi1:i < l.length:=by omega
  have ei:IntKind.i64.wrap ((i:Int)+1)=i+1:=w64 (by omega) (by omega)
  have en:IntKind.i64.wrap ((n:Int)+1)=n+1:=w64 (by omega) (by omega)
  obtain ⟨g1,g2⟩:=rows i hi1
  have t2:=stIs_succ (n:=2) hi1
  have t0:=stIs_succ (n:=0) hi1
  have s0:=stIs_at (n:=0) hi1
  clear rows
  generalize l[i]=x at *
  obtain ⟨g2,_⟩:=Go.Ax.By.row g2
  by_cases x0:x.st=0
  ·have hv:yW big k l=(⟨false,0,0,0⟩,7):=by unfold yW; rw [if_pos (s0 x0)]
   simp only [setH,go_sem,q2,q6,q9,hil,hi0,Int.toNat_natCast,Nat.add_zero,hbk,g2,x0,f6]
   exact fin _ _ hv M1 (Keep.refl _) _
  by_cases x2:x.st=2
  ·simp only [go_sem,q2,q8,q9,hil,hi0,Int.toNat_natCast,Nat.add_zero,hbk,g2,x2,ei,en]
   exact ⟨hi1,rfl,rfl,(by simp only [go_sem, *] <;> rfl),n+1,by omega,(by simp only [go_sem, *] <;> rfl),by rw [t2]; simp [x2],by rw [t0,e0]; simp [x0]⟩
  ·simp only [go_sem,q2,q9,hil,hi0,Int.toNat_natCast,Nat.add_zero,hbk,g2,x0,x2,ei]
   exact ⟨hi1,rfl,rfl,(by simp only [go_sem, *] <;> rfl),n,by omega,(by simp only [go_sem, *] <;> rfl),by rw [t2,e2]; simp [x2],by rw [t0,e0]; simp [x0]⟩
 rw [List.take_of_length_le (by omega)] at e2 e0
 by_cases h7:k=7
 ·have hv:yW big k l=((jJ l).1,(jJ l).2):=by unfold yW; rw [if_neg (by simp [e0]),if_pos h7]
  by_cases hn0:n=0
  ·have e2':stIs 2 l=false:=by rw [←e2]; simp [hn0]
   have hn0':(n:Int)=0:=by omega
   rw [ptr_none hb e0 e2' hl] at hv
   simp only [go_sem,q1,q2,q8,q9,hil,h7,hn0']
   clear q9 q8 e2 e0 hil
   refine yX l.length (getI2 l F M1) ⟨rfl,rfl,(by simp only [go_sem, *] <;> rfl),rfl⟩ ?_
   rintro i σ F' M' hi hst ⟨rfl,rfl,q10,ha⟩
   have p1:=hst 1 rfl
   have p2:=hst 2 rfl
   have p3:=hst 3 rfl
   have p6:=hst 6 rfl
   simp only [go_sem,q1,q2,q3,q6] at p1 p2 p3 p6
   clear hst
   by_cases hil:(i:Int) < l.length
   ·have hi0:(0:Int)≤i:=by omega
    have hi1:i < l.length:=by omega
    have ei:IntKind.i64.wrap ((i:Int)+1)=i+1:=w64 (by omega) (by omega)
    obtain ⟨g1,g2⟩:=rows i hi1
    have t1:=List.take_succ_eq_append_getElem hi1
    have hall:¬(l[i]).n=0→l.all (fun x=>decide (x.n=0))=false:=fun h=>by
     rw [List.all_eq_false]
     exact ⟨l[i],List.getElem_mem hi1,by simp [h]⟩
    clear rows
    generalize l[i]=x at *
    obtain ⟨_,g2,_⟩:=Go.Ax.By.row g2
    by_cases x0:x.n=0
    ·simp only [go_sem,p2,q10,hil,hi0,Int.toNat_natCast,hbk,g2,x0,ei]
     exact ⟨hi1,rfl,rfl,(by simp only [go_sem, *] <;> rfl),by rw [t1,List.all_append,ha]; simp [x0]⟩
    ·rw [hall x0,if_neg Bool.false_ne_true] at hv
     simp only [setH,go_sem,p2,p6,q10,hil,hi0,Int.toNat_natCast,hbk,g2,x0,f6]
     rw [h7] at hv fin
     exact fin _ _ hv M1 (Keep.refl _) _
   ·rw [List.take_of_length_le (by omega)] at ha
    rw [ha,if_pos rfl] at hv
    simp only [setH,go_sem,p2,p6,q10,hil,f6]
    rw [h7] at hv fin
    exact fin _ _ hv M1 (Keep.refl _) _
  ·have e2':stIs 2 l=true:=by rw [←e2]; simp; omega
   have hn0':¬(n:Int)=0:=by omega
   rw [ptr_some hb e2' hl] at hv
   obtain ⟨g1,g2⟩:=rows 0 hl
   have hx0:yQ l 0=l[0]:=by unfold yQ; rw [List.getElem?_eq_getElem hl]; rfl
   rw [hx0] at hv
   have hz0:(0:Int) < l.length:=by omega
   generalize l[0]=x at *
   obtain ⟨g2,_,g3,g4,_⟩:=Go.Ax.By.row g2
   rw [Nat.zero_mul,Nat.add_zero] at g1 g2 g3 g4
   simp only [go_sem,q1,q2,q8,q9,hil,h7,hn0',hz0,Int.toNat_zero,Nat.zero_mul,Nat.add_zero,hbk,g3,g4]
   intro r11 hF11 hM11
   have m3:=qH hM11 f3
   have m6:=qH hM11 f6
   have hb11:=ne_of_blk hbk hF11 hM11
   have kp11:∀e,Keep M1 (M1.upd r11 e):=fun e=>(Keep.refl M1).new hM11
   have old11:∀e,Old F (M1.upd r11 e):=fun e=>old6.upd hF11
   by_cases x2:x.st=2
   ·simp only [setH,Hp.wG,go_sem,q1,q2,q3,m3,hb11,hz0,Int.toNat_zero,Nat.zero_mul,Nat.add_zero,hbk,g2,x2,b3]
    have ko:=k36 F (M1.upd r11 ⟨(Sc.mk true 0 x.b x.o).cs,50,4⟩) big ptr k ⟨true,0,x.b,x.o⟩ hp (old11 _)
    rw [hk h7,putL_ptr] at ko
    with_reducible refine qY ko ?_
    intro u F' M3 hu
    obtain ⟨rfl,le3,keep3,o3,a3,c3,rfl,hk3⟩:=hu.le By.len (by rw [ptrL_len]; exact hle)
    have hk3':=hk3
    rw [ptrL_len] at hk3'
    refine ⟨fun _=>le3,?_⟩
    have h3':=h1.keep ((kp11 _).trans keep3) (o3 (old11 _))
    have heq:=k86 F' M3 a3 (some ⟨b,o,none⟩) c3 c (ptrL x.b x.o l.length) l hk3 h3'
    have f11:=keep3 _ _ (Hp.qJ M1 r11 ⟨(Sc.mk true 0 x.b x.o).cs,50,4⟩)
    have f6':=keep3 _ _ ((kp11 ⟨(Sc.mk true 0 x.b x.o).cs,50,4⟩) _ _ f6)
    have b6':=qG (F:=F') f6'
    have b11:=qG (F:=F') f11
    simp only [go_sem,q2]
    with_reducible refine qQ heq ?_
    by_cases he:ptrL x.b x.o l.length=l
    ·rw [if_pos ⟨x2,he⟩] at hv
     rw [h7] at hv fin
     simp only [setH,go_sem,q6,he,f6',b11]
     exact fin _ _ hv M3 ((kp11 _).trans keep3) _
    ·rw [if_neg (fun h=>he h.2)] at hv
     rw [h7] at hv fin
     simp only [setH,go_sem,q6,he,f6']
     exact fin _ _ hv M3 ((kp11 _).trans keep3) _
   ·simp only [setH,Hp.wG,go_sem,q2,q6,m6,hb11,hz0,Int.toNat_zero,Nat.zero_mul,Nat.add_zero,hbk,g2,x2,f6]
    rw [if_neg (fun h=>x2 h.1)] at hv
    rw [h7] at hv fin
    exact fin _ _ hv _ (kp11 _) _
 by_cases hn0:n=0
 rotate_left
 ·have e2':stIs 2 l=true:=by rw [←e2]; simp; omega
  have hn0':(0:Int) < n:=by omega
  have hv:yW big k l=(⟨false,0,0,0⟩,8):=by unfold yW; rw [if_neg (by simp [e0]),if_neg h7,if_pos e2']
  simp only [setH,go_sem,q1,q2,q6,q8,q9,hil,h7,hn0',f6]
  exact fin _ _ hv M1 (Keep.refl _) _
 have e2':stIs 2 l=false:=by rw [←e2]; simp [hn0]
 have hn0':¬(0:Int) < n:=by omega
 have hv:yW big k l=(⟨false,numL (ordL big l),0,0⟩,0):=by unfold yW; rw [if_neg (by simp [e0]),if_neg h7,if_neg (by simp [e2'])]
 simp only [go_sem,q1,q2,q8,q9,hil,h7,hn0']
 clear q9 q8 e2 e0 hil
 refine yX l.length (getI3 big l F M1) ⟨rfl,rfl,(by simp only [go_sem, *] <;> rfl),by simp only [go_sem]; rfl⟩ ?_
 rintro i σ F' M' hi hst ⟨rfl,rfl,q13,q12⟩
 have p1:=hst 1 rfl
 have p2:=hst 2 rfl
 have p3:=hst 3 rfl
 have p6:=hst 6 rfl
 simp only [go_sem,q1,q2,q3,q6] at p1 p2 p3 p6
 clear hst
 by_cases hil:(i:Int) < l.length
 rotate_left
 ·rw [List.take_of_length_le (by rw [ordL_len]; omega)] at q12
  simp only [setH,go_sem,p2,p6,q12,q13,hil,f6,Sc.fold]
  exact fin _ _ hv M1 (Keep.refl _) _
 have hi0:(0:Int)≤i:=by omega
 have hi1:i < l.length:=by omega
 have ei:IntKind.i64.wrap ((i:Int)+1)=i+1:=w64 (by omega) (by omega)
 have ew1:IntKind.i64.wrap ((l.length:Int) - 1)=l.length - 1:=w64 (by omega) (by omega)
 have ew2:IntKind.i64.wrap ((l.length:Int) - 1 - i)=((l.length - 1 - i:Nat):Int):=by rw [w64 (by omega) (by omega)]; omega
 have hj:l.length - 1 - i < l.length:=by omega
 have hj0:(0:Int)≤((l.length - 1 - i:Nat):Int):=by omega
 have hjl:((l.length - 1 - i:Nat):Int) < l.length:=by omega
 obtain ⟨d1,d2⟩:=rows i hi1
 obtain ⟨d3,d4⟩:=rows (l.length - 1 - i) hj
 obtain ⟨_,d2,_⟩:=Go.Ax.By.row d2
 obtain ⟨_,d4,_⟩:=Go.Ax.By.row d4
 have hsucc:=numL_succ (l:=ordL big l) (i:=i) (by rw [ordL_len]; exact hi1)
 have hsel:((ordL big l)[i]'(by rw [ordL_len]; exact hi1))=if big=true then l[i] else l[l.length - 1 - i]:=by
  cases big
  ·simp [ordL,List.getElem_reverse]
  ·simp [ordL]
 rw [hsel] at hsucc
 clear hsel rows
 generalize l[i]=x at *
 generalize l[l.length - 1 - i]=y at *
 cases big
 ·simp only [go_sem,p2,p3,q12,q13,hil,b3,ew1,ew2,hj0,hjl,Int.toNat_natCast,hbk,d4,ei]
  exact ⟨hi1,rfl,rfl,(by simp only [go_sem, *] <;> rfl),by simp only [go_sem]; rw [hsucc]; rfl⟩
 ·simp only [go_sem,p2,p3,q12,q13,hil,b3,ew1,ew2,hi0,Int.toNat_natCast,hbk,d2,ei]
  exact ⟨hi1,rfl,rfl,(by simp only [go_sem, *] <;> rfl),by simp only [go_sem]; rw [hsucc]; rfl⟩
theorem k187:CallsA Tryz.prog 187 [] F M (Same F M (Gu.mk false (V.nothing 8) (V.nothing 8) none 0 []).val):=by
 refine qZ hm Tryz.func187 e187 (Nat.le_of_ble_eq_true rfl) ?_
 simp only [c187,go_sem]
 intro r0 hF0 hM0
 simp only [go_sem]
 with_reducible refine qQ (k122 F _ 8) ?_
 simp only [go_sem]
 with_reducible refine qQ (k122 F _ 8) ?_
 simp only [setH,Hp.wG,go_sem]
 exact qX ((Keep.refl _).new hM0) ⟨rfl,rfl,rfl⟩
theorem k192 (k:Int)(hk:isK k=true):CallsA Tryz.prog 192 [.int .i64 k] F M (Same F M (.int .i64 (plainK k))):=by
 refine qZ hm Tryz.func192 e192 (Nat.le_of_ble_eq_true rfl) ?_
 rcases isK_cases hk with rfl | rfl | rfl | rfl | rfl | rfl
 all_goals simp only [c192,go_sem]
 all_goals exact qW ⟨rfl,rfl,rfl⟩
def partB (g:Gu):Bool:=!decide (g.isv.wQ 0 < 0) && !emptyB 7 V.zero g.l
theorem k200 (g:Gu)(h:g.rd F M)(h1:g.isv.ok=true)(h2:jG g.l=true):CallsA Tryz.prog 200 [g.val] F M (Same F M (.bool (partB g))):=by
 refine qZ hm Tryz.func200 e200 (Nat.le_of_ble_eq_true rfl) ?_
 simp only [c200,go_sem]
 intro r0 hF0 hM0
 have b0:=qG (F:=F) (Hp.qJ M r0 ⟨g.cs,185,14⟩)
 have h':RdG 7 Ba.cs F (M.upd r0 ⟨g.cs,185,14⟩) (.slice g.lA g.l.length g.lC) g.l:=RdG.new h hF0 hM0
 simp only [go_sem,b0]
 with_reducible refine qQ (k128 F _ g.isv h1) ?_
 cases hv:decide (g.isv.wQ 0 < 0)
 ·simp only [go_sem,b0]
  with_reducible refine qQ (k78 F _ 7 V.zero (.slice g.lA g.l.length g.lC) g.l h' (by simp [absB,h2])) ?_
  simp only [go_sem]
  exact qX ((Keep.refl _).new hM0) ⟨by unfold partB; rw [hv]; rfl,rfl,rfl⟩
 ·simp only [go_sem]
  exact qX ((Keep.refl _).new hM0) ⟨by unfold partB; rw [hv]; rfl,rfl,rfl⟩
def onlyG (g:Gu)(a b c:Bool):Bool:=(g.no == a) && (((!decide (g.num.wQ 0 < 0)) == b) && (partB g == c))
theorem k194 (g:Gu)(a b c:Bool)(h:g.rd F M)(h0:g.num.ok=true)(h1:g.isv.ok=true)(h2:jG g.l=true):CallsA Tryz.prog 194 [g.val,.bool a,.bool b,.bool c] F M (Same F M (.bool (onlyG g a b c))):=by
 refine qZ hm Tryz.func194 e194 (Nat.le_of_ble_eq_true rfl) ?_
 simp only [c194,go_sem]
 intro r0 hF0 hM0
 have b0:=qG (F:=F) (Hp.qJ M r0 ⟨g.cs,185,14⟩)
 have h':g.rd F (M.upd r0 ⟨g.cs,185,14⟩):=RdG.new h hF0 hM0
 simp only [go_sem,b0]
 have e0:onlyG g a b c=((g.no == a) && (((!decide (g.num.wQ 0 < 0)) == b) && (partB g == c))):=rfl
 rw [e0]
 cases ha:g.no == a
 ·simp only [go_sem]
  exact qX ((Keep.refl _).new hM0) ⟨rfl,rfl,rfl⟩
 simp only [go_sem,b0]
 with_reducible refine qQ (k128 F _ g.num h0) ?_
 cases hb:(!decide (g.num.wQ 0 < 0)) == b
 ·simp only [go_sem,hb]
  exact qX ((Keep.refl _).new hM0) ⟨rfl,rfl,rfl⟩
 simp only [go_sem,b0,hb]
 with_reducible refine qQ (k200 F _ g h' h1 h2) ?_
 simp only [go_sem]
 exact qX ((Keep.refl _).new hM0) ⟨rfl,rfl,rfl⟩
theorem only_st {g:Gu}{x:By}(h:GuR g x):onlyG g true false false=decide (x.st=0)∧onlyG g false true false=decide (x.st=1)∧onlyG g false false true=decide (x.st=2):=by
 have e7:emptyB 7 V.zero []=true:=rfl
 rcases h.st with s | s | s
 ·obtain ⟨h1,h2,h3,h4,h5⟩:=h.st0 s
  simp [onlyG,partB,s,h2,h3.none,h4.none,h5]
 ·obtain ⟨h1,h2,h3,h4,h5⟩:=h.st1 s
  have:=h3.not_void
  simp [onlyG,partB,s,h2,this,h4.none,h5]
 ·obtain ⟨h1,h2,h3,h4,h5,h6,h7,vo,h8,h9⟩:=h.st2 s
  have:=h4.not_void
  have e:emptyB 7 V.zero g.l=false:=by
   have r:=h9.rng
   rw [h8]; simp [emptyB,h9.at_,r.1,h6]
  simp [onlyG,partB,s,h2,this,h3.none,e]
theorem k247 (g:Gu)(x:By)(h:g.rd F M)(hold:Old F M)(hx:GuR g x):CallsA Tryz.prog 247 [g.val] F M (Same F M (.tuple #[x.val,.bool true])):=by
 refine qZ hm Tryz.func247 e247 (Nat.le_of_ble_eq_true rfl) ?_
 obtain ⟨o0,o1,o2⟩:=only_st hx
 simp only [c247,go_sem]
 intro r1 hF1 hM1
 simp only [go_sem]
 intro r2 hF2 hM2
 simp only [wW] at hM2
 have kp2:Keep M ((M.upd r1 ⟨g.cs,185,14⟩).upd r2 ⟨[.int .i64 0,.int .i64 0,.int .i64 0,.int .i64 0,.int .i64 0],91,5⟩):=(by repeat' first | exact Keep.refl _ | (refine Keep.new ?_ (by simp only [*])))
 have old2:Old F ((M.upd r1 ⟨g.cs,185,14⟩).upd r2 ⟨[.int .i64 0,.int .i64 0,.int .i64 0,.int .i64 0,.int .i64 0],91,5⟩):=(by repeat' first | assumption | (refine Old.upd ?_ (by assumption)))
 have f1:((M.upd r1 ⟨g.cs,185,14⟩).upd r2 ⟨[.int .i64 0,.int .i64 0,.int .i64 0,.int .i64 0,.int .i64 0],91,5⟩) r1=some ⟨g.cs,185,14⟩:=by rw [Hp.qK hM2.1.2]; exact Hp.qJ _ _ _
 have f2:((M.upd r1 ⟨g.cs,185,14⟩).upd r2 ⟨[.int .i64 0,.int .i64 0,.int .i64 0,.int .i64 0,.int .i64 0],91,5⟩) r2=some ⟨[.int .i64 0,.int .i64 0,.int .i64 0,.int .i64 0,.int .i64 0],91,5⟩:=Hp.qJ _ _ _
 have n2:M r2=none:=hM2.2
 generalize (M.upd r1 ⟨g.cs,185,14⟩).upd r2 ⟨[.int .i64 0,.int .i64 0,.int .i64 0,.int .i64 0,.int .i64 0],91,5⟩=M1 at *
 have b1:=qG (F:=F) f1
 have h1:g.rd F M1:=RdG.keep h kp2 old2
 have ha:absB 7 V.zero g.l=true:=by simp [absB,hx.row]
 have h1':RdG 7 Ba.cs F M1 (.slice g.lA g.l.length g.lC) g.l:=h1
 simp only [go_sem,b1]
 with_reducible refine qQ (k171 F M1 g.num hx.num.1) ?_
 simp only [loneA,go_sem,b1]
 with_reducible refine qQ (k171 F M1 g.isv hx.isv.1) ?_
 simp only [loneA,go_sem,b1]
 with_reducible refine qQ (k286 F M1 7 V.zero (.slice g.lA g.l.length g.lC) g.l h1' old2 ha) ?_
 simp only [go_sem]
 intro r8 hF8 hM8
 have n82:¬r8=r2:=by rintro rfl; rw [f2] at hM8; cases hM8
 have n28:¬r2=r8:=fun e=>n82 e.symm
 simp only [setH,Hp.wG,go_sem]
 have kp8:Keep M1 (M1.upd r8 ⟨(lone2 7 V.zero g.l).1.cs,50,4⟩):=(Keep.refl _).new hM8
 have f8:(M1.upd r8 ⟨(lone2 7 V.zero g.l).1.cs,50,4⟩) r8=some ⟨(lone2 7 V.zero g.l).1.cs,50,4⟩:=Hp.qJ _ _ _
 have old8:Old F (M1.upd r8 ⟨(lone2 7 V.zero g.l).1.cs,50,4⟩):=old2.upd hF8
 generalize M1.upd r8 ⟨(lone2 7 V.zero g.l).1.cs,50,4⟩=M2 at *
 have kp3:=kp2.trans kp8
 have f12:=kp8 _ _ f1
 have f22:=kp8 _ _ f2
 have b12:=qG (F:=F) f12
 have b8:=qG (F:=F) f8
 have h2:g.rd F M2:=RdG.keep h1 kp8 old8
 have ko:=fun a b c=>k194 F M2 g a b c h2 hx.num.1 hx.isv.1 hx.row
 simp only [go_sem,b12]
 with_reducible refine qQ (ko true false false) ?_
 rw [o0]
 rcases hx.st with s | s | s
 ·have e0:x=⟨0,0,0,0,0⟩:=(hx.st0 s).1
  simp only [s,go_sem,decide_true,setH,f22]
  exact qX (kp3.new n2) ⟨by rw [e0]; rfl,rfl,rfl⟩
 ·obtain ⟨e0,_,i1,_,_⟩:=hx.st1 s
  simp only [s,go_sem,b12]
  with_reducible refine qQ (ko false true false) ?_
  simp only [o1,s,go_sem,decide_true,i1.is1,i1.at_,setH,f22]
  exact qX (kp3.new n2) ⟨by rw [e0]; rfl,rfl,rfl⟩
 ·obtain ⟨e0,_,_,i1,hb,ho,hi,vo,hl,iv⟩:=hx.st2 s
  have hl2:lone2 7 V.zero g.l=(⟨true,0,x.b,x.o⟩,true):=by
   unfold lone2; rw [hl,sole_only iv ho]; rfl
  rw [hl2] at b8
  have hb0:(0:Int) < x.b:=by omega
  have hi4:x.i < 4:=by omega
  simp only [s,go_sem,b12]
  with_reducible refine qQ (ko false true false) ?_
  simp only [o1,s,go_sem,b12]
  with_reducible refine qQ (ko false false true) ?_
  simp only [o2,s,go_sem,decide_true,i1.is1,i1.at_,hl2,b8,hb0,hi4,setH,f22]
  exact qX (kp3.new n2) ⟨by rw [e0]; rfl,rfl,rfl⟩
def overV (ptr:Int)(c:Pc)(b at_ n:Int):Bool:=decide (c.b=b) && (decide (c.p < at_+n) && decide (at_ < c.p+wX ptr c.k))
theorem k179 (big:Bool)(ptr:Int)(c:Cl)(b at_ n:Int)(hp:ptr=2∨ptr=4)(hk:c.k=0∨c.k=11∨isS c.k=true)(h1:0≤c.p∧c.p≤1000)(h2:0≤at_∧at_≤1000)(h3:0≤n∧n≤1000) :
  CallsA Tryz.prog 179 [.agg #[.bool big,.int .i64 ptr],c.val,.int .i64 b,.int .i64 at_,.int .i64 n] F M (Same F M (.bool (overV ptr c.pc b at_ n))):=by
 refine qZ hm Tryz.func179 e179 (Nat.le_of_ble_eq_true rfl) ?_
 have hs:=jX hp hk
 have w1:IntKind.i64.wrap (at_+n)=at_+n:=w64 (by omega) (by omega)
 have w2:IntKind.i64.wrap (c.p+wX ptr c.k)=c.p+wX ptr c.k:=w64 (by omega) (by omega)
 have e0:overV ptr c.pc b at_ n=(decide (c.b=b) && (decide (c.p < at_+n) && decide (at_ < c.p+wX ptr c.k))):=rfl
 rw [e0]
 simp only [c179,go_sem]
 intro r5 hF5 hM5
 simp only [go_sem]
 intro r6 hF6 hM6
 simp only [wW] at hM6
 have kp6:Keep M ((M.upd r5 ⟨[.bool big,.int .i64 ptr],23,2⟩).upd r6 ⟨c.cs,84,10⟩):=(by repeat' first | exact Keep.refl _ | (refine Keep.new ?_ (by simp only [*])))
 have f5:((M.upd r5 ⟨[.bool big,.int .i64 ptr],23,2⟩).upd r6 ⟨c.cs,84,10⟩) r5=some ⟨[.bool big,.int .i64 ptr],23,2⟩:=by rw [Hp.qK hM6.1.2]; exact Hp.qJ _ _ _
 have f6:((M.upd r5 ⟨[.bool big,.int .i64 ptr],23,2⟩).upd r6 ⟨c.cs,84,10⟩) r6=some ⟨c.cs,84,10⟩:=Hp.qJ _ _ _
 generalize (M.upd r5 ⟨[.bool big,.int .i64 ptr],23,2⟩).upd r6 ⟨c.cs,84,10⟩=M1 at *
 have b5:=qG (F:=F) f5
 have b6:=qG (F:=F) f6
 by_cases c1:c.b=b
 rotate_left
 ·simp only [go_sem,b6,c1]
  exact qX kp6 ⟨rfl,rfl,rfl⟩
 by_cases c2:c.p < at_+n
 rotate_left
 ·simp only [go_sem,b6,c1,c2,w1]
  exact qX kp6 ⟨rfl,rfl,rfl⟩
 simp only [go_sem,b5,b6,c1,c2,w1]
 with_reducible refine qQ (k129 F M1 big ptr c.k hk) ?_
 simp only [go_sem,w2]
 exact qX kp6 ⟨rfl,rfl,rfl⟩
theorem k91 (u:Value)(l:List Ba)(h:RdG 7 Ba.cs F M u l)(hold:Old F M)(hl:l.length≤100000) :
  CallsA Tryz.prog 91 [u] F M (rowR 7 Ba.cs 102 l F M):=by
 refine qZ hm Tryz.func91 e91 (Nat.le_of_ble_eq_true rfl) ?_
 have h':=h
 obtain ⟨_,ad,cap,_,rfl,hrd⟩:=h
 cases ad with
 | none=>
  have:l=[]:=by
   rcases hrd with h | ⟨b,o,cs,h,_⟩
   ·exact h
   ·cases h
  subst this
  simp only [c91,go_sem,Option.isNone_none]
  exact qW ⟨rfl,.inl ⟨rfl,rfl,rfl⟩⟩
 | some ad=>
  simp only [c91,go_sem,Option.isNone_some]
  intro rb hFb hMb
  simp only [go_sem]
  have kp1:Keep M (M.upd rb ⟨[],102,0⟩):=(Keep.refl M).new hMb
  have mine1:yY 7 Ba.cs 102 F M (M.upd rb ⟨[],102,0⟩) (.slice (some ⟨rb,0,none⟩) ([]:List Ba).length 0) []:=
   ⟨.inr ⟨rb,0,rfl,hFb,Hp.qJ _ _ _,by simp,by decide⟩,fun g n c h=>by cases h; exact hMb⟩
  refine apMG_any (xs:=[]) (ys:=l) (fun x=>rfl) Ba.plain (by decide) mine1 kp1 (RdG.src (fun x=>rfl) (h'.keep kp1 (hold.upd hFb)) (fun h=>by cases h)) (by simp; omega) ?_
  rintro v' M5 hfr kp5 ho5 mine5
  rw [List.nil_append] at mine5
  simp only [go_sem]
  exact mine5.done kp5
theorem k50 (v:V)(u:Value)(l:List Ba)(h:RdG 7 Ba.cs F M u l)(hold:Old F M)(hl:l.length≤100000):CallsA Tryz.prog 50 [abV v u] F M (cpR v l F M):=by
 refine qZ hm Tryz.func50 e50 (Nat.le_of_ble_eq_true rfl) ?_
 have h':=h
 obtain ⟨_,ad,cap,_,rfl,_⟩:=h
 simp only [c50,go_sem]
 intro r1 hF1 hM1
 simp only [go_sem]
 intro r2 hF2 hM2
 have g2:=wV hM2
 have kp0:Keep M ((M.upd r1 ⟨yJ v (.slice ad l.length cap),62,7⟩).upd r2 ⟨[.int .i64 0,.bool false,.int .i64 0,.int .i64 0,.int .i64 0,.int .i64 0,.slice none 0 0],62,7⟩):=((Keep.refl M).new hM1).new g2.2.2
 have old0:Old F ((M.upd r1 ⟨yJ v (.slice ad l.length cap),62,7⟩).upd r2 ⟨[.int .i64 0,.bool false,.int .i64 0,.int .i64 0,.int .i64 0,.int .i64 0,.slice none 0 0],62,7⟩):=(hold.upd hF1).upd hF2
 have f2:((M.upd r1 ⟨yJ v (.slice ad l.length cap),62,7⟩).upd r2 ⟨[.int .i64 0,.bool false,.int .i64 0,.int .i64 0,.int .i64 0,.int .i64 0,.slice none 0 0],62,7⟩) r2=some ⟨[.int .i64 0,.bool false,.int .i64 0,.int .i64 0,.int .i64 0,.int .i64 0,.slice none 0 0],62,7⟩:=Hp.qJ _ _ _
 have n2:M r2=none:=g2.2.2
 simp only [go_sem,g2]
 refine qY (k91 _ _ _ l (h'.keep kp0 old0) old0 hl) ?_
 generalize (M.upd r1 ⟨yJ v (.slice ad l.length cap),62,7⟩).upd r2 ⟨[.int .i64 0,.bool false,.int .i64 0,.int .i64 0,.int .i64 0,.int .i64 0,.slice none 0 0],62,7⟩=M1 at *
 rintro w G M2 hr
 have mine:=hr.mine kp0
 obtain ⟨hG,le,kq,oq,aq,cq,rfl,rdq⟩:=hr.le (f:=Ba.cs) (fun x=>rfl) (by omega)
 rw [hG]
 refine ⟨fun _=>le,?_⟩
 have f22:=kq _ _ f2
 obtain ⟨M5,k1,k2,hr5⟩:=mine.alone (kp0.trans kq)
 have n25:M5 r2=none:=by
  obtain ⟨_,⟨_,_,rfl⟩ | ⟨g',cap,_,q2,q3,_,rfl⟩⟩:=hr5
  ·exact n2
  ·have:¬r2=g':=by
    rintro rfl
    have h1:=k1 _ _ (Hp.qJ _ _ _)
    rw [f22] at h1
    simp at h1
   rw [Hp.qK this]; exact n2
 simp only [go_sem,f22]
 simp only [setH,go_sem]
 exact qX (k1.new n25) ⟨_,rfl,hr5⟩
theorem k231 (n:Int)(h0:0≤n)(h1:n≤2):CallsA Tryz.prog 231 [.int .u64 n] F M fun r F' M'=>F'=F∧M'=M∧∃z:Int,r=.int .i64 z:=by
 refine qZ hm Tryz.func231 e231 (Nat.le_of_ble_eq_true rfl) ?_
 have w0:IntKind.u8.wrap 0=0:=by decide
 have w1:IntKind.u8.wrap 1=1:=by decide
 have w2:IntKind.u8.wrap 2=2:=by decide
 rcases (show n=0∨n=1∨n=2 by omega) with rfl | rfl | rfl
 ·simp only [c231,go_sem,w0]
  show oK Tryz.prog false (some 22) _ _ _ F M (some (Value.int IntKind.u8 0))
  simp only [go_sem]
  exact qW ⟨rfl,rfl,_,rfl⟩
 ·simp only [c231,go_sem,w1]
  show oK Tryz.prog false (some 22) _ _ _ F M (some (Value.int IntKind.u8 1))
  simp only [go_sem]
  exact qW ⟨rfl,rfl,_,rfl⟩
 ·simp only [c231,go_sem,w2]
  show oK Tryz.prog false (some 22) _ _ _ F M (some (Value.int IntKind.u8 2))
  simp only [go_sem]
  exact qW ⟨rfl,rfl,_,rfl⟩
theorem k176 (n:Int)(h0:0≤n)(h1:n≤2):CallsA Tryz.prog 176 [.int .u64 n] F M fun r F' M'=>F'=F∧M'=M∧∃z:Int,r=.int .i64 z:=by
 refine qZ hm Tryz.func176 e176 (Nat.le_of_ble_eq_true rfl) ?_
 simp only [c176,go_sem]
 refine qY (k231 F M n h0 h1) ?_
 rintro r G M' ⟨hG,rfl,z,rfl⟩
 rw [hG]
 refine ⟨(fun h=>by cases h),?_⟩
 simp only [go_sem]
 exact qW ⟨rfl,rfl,_,rfl⟩
def srt (x y:Int):List Int:=if y < x then [y,x] else [x,y]
def srtC (x y:Int):List Value:=if y < x then [.int .i64 y,.int .i64 x] else [.int .i64 x,.int .i64 y]
theorem srtC_eq (x y:Int):srtC x y=(srt x y).flatMap intC:=by
 unfold srtC srt; split <;> rfl
def insO (g cap:Nat)(e:Ent)(x y:Int)(F0:Fz)(M0:Hp)(m:Nat)(σ:Env)(F:Fz)(M:Hp):Prop:=
 F=F0∧Ax.look σ 0=some (.slice (some ⟨g,0,none⟩) 2 cap)∧Ax.look σ 1=some (.int .i64 0)∧Ax.look σ 2=some (.int .i64 2)∧
  ((m=1∧M=M0.upd g ⟨[.int .i64 x,.int .i64 y],e.elem,e.size⟩∧Ax.look σ 6=some (.int .i64 1))∨(m=0∧M=M0.upd g ⟨srtC x y,e.elem,e.size⟩∧Ax.look σ 6=some (.int .i64 2)))
def insI (g cap:Nat)(e:Ent)(x y:Int)(F0:Fz)(M0:Hp)(m:Nat)(σ:Env)(F:Fz)(M:Hp):Prop:=
 F=F0∧Ax.look σ 0=some (.slice (some ⟨g,0,none⟩) 2 cap)∧Ax.look σ 1=some (.int .i64 0)∧Ax.look σ 2=some (.int .i64 2)∧Ax.look σ 6=some (.int .i64 1)∧
  ((m=1∧M=M0.upd g ⟨[.int .i64 x,.int .i64 y],e.elem,e.size⟩∧Ax.look σ 7=some (.int .i64 1))∨(m=0∧M=M0.upd g ⟨srtC x y,e.elem,e.size⟩∧Ax.look σ 7=some (.int .i64 0)))
theorem k221two (g cap:Nat)(x y:Int)(e:Ent)(hg:M g=some ⟨[.int .i64 x,.int .i64 y],e.elem,e.size⟩) :
  CallsA Tryz.prog 221 [.slice (some ⟨g,0,none⟩) 2 cap,.int .i64 0,.int .i64 2] F M fun r F' M'=>F'=F∧M'=M.upd g ⟨srtC x y,e.elem,e.size⟩:=by
 refine qZ hm Tryz.func221 e221 (Nat.le_of_ble_eq_true rfl) ?_
 have hM:M=M.upd g ⟨[.int .i64 x,.int .i64 y],e.elem,e.size⟩:=by
  funext b
  by_cases hb:b=g
  ·subst hb; rw [Hp.qJ]; exact hg
  ·rw [Hp.qK hb]
 simp only [c221,go_sem]
 refine loop_of (insO g cap e x y F M) 1 ?_ ?_
 ·exact ⟨rfl,by simp only [go_sem],by simp only [go_sem],by simp only [go_sem],.inl ⟨rfl,hM,by simp only [go_sem] <;> rfl⟩⟩
 rintro m σ F' M' ⟨rfl,h0,h1,h2,⟨rfl,rfl,h6⟩ | ⟨rfl,rfl,h6⟩⟩
 rotate_left
 ·simp only [go_sem,h2,h6]
  exact qW ⟨rfl,rfl⟩
 simp only [go_sem,h2,h6]
 refine loop_of (insI g cap e x y F' M) 1 ?_ ?_
 ·exact ⟨rfl,by simp only [go_sem,h0],by simp only [go_sem,h1],by simp only [go_sem,h2],by simp only [go_sem,h6],.inl ⟨rfl,rfl,by simp only [go_sem]⟩⟩
 clear h0 h1 h2 h6
 rintro m σ F'' M' ⟨rfl,h0,h1,h2,h6,⟨rfl,rfl,h7⟩ | ⟨rfl,rfl,h7⟩⟩
 rotate_left
 ·simp only [go_sem,h1,h6,h7]
  exact ⟨0,by omega,rfl,by simp only [go_sem,h0],by simp only [go_sem,h1],by simp only [go_sem,h2],.inr ⟨rfl,rfl,by simp only [go_sem]⟩⟩
 simp only [go_sem,h0,h1,h7]
 refine qQ (k227 _ _ y x) ?_
 by_cases hlt:y < x
 ·have e:srtC x y=[.int .i64 y,.int .i64 x]:=by unfold srtC; rw [if_pos hlt]
  simp only [go_sem,h0,h7,hlt]
  exact ⟨0,by omega,rfl,by simp only [go_sem,h0],by simp only [go_sem,h1],by simp only [go_sem,h2],by simp only [go_sem,h6],.inr ⟨rfl,by rw [e],by simp only [go_sem]⟩⟩
 ·have e:srtC x y=[.int .i64 x,.int .i64 y]:=by unfold srtC; rw [if_neg hlt]
  simp only [go_sem,h6,hlt]
  exact ⟨0,by omega,rfl,by simp only [go_sem,h0],by simp only [go_sem,h1],by simp only [go_sem,h2],.inr ⟨rfl,by rw [e],by simp only [go_sem]⟩⟩
theorem k221few (u:Value)(n:Int)(h:n≤1):CallsA Tryz.prog 221 [u,.int .i64 0,.int .i64 n] F M fun r F' M'=>F'=F∧M'=M:=by
 refine qZ hm Tryz.func221 e221 (Nat.le_of_ble_eq_true rfl) ?_
 have h1:¬1 < n:=by omega
 simp only [c221,go_sem]
 refine loop_of (fun _ σ F' M'=>F'=F∧M'=M∧Ax.look σ 2=some (.int .i64 n)∧Ax.look σ 6=some (.int .i64 1)) 1 ?_ ?_
 ·exact ⟨rfl,rfl,by simp only [go_sem],by simp only [go_sem]⟩
 rintro m σ F' M' ⟨rfl,rfl,h2,h6⟩
 simp only [go_sem,h2,h6,h1]
 exact qW ⟨rfl,rfl⟩
def sortP (u:Value)(l:List Int)(F:Fz)(M:Hp)(_:Value)(F':Fz)(M':Hp):Prop:=
 F'=F∧((l.length≤1∧M'=M)∨∃g cap x y n,l=[x,y]∧u=.slice (some ⟨g,0,none⟩) 2 cap∧M g=some ⟨[x,y].flatMap intC,3,n⟩∧M'=M.upd g ⟨(srt x y).flatMap intC,3,n⟩)
theorem sort_ins (u:Value)(l:List Int)(h:jQ 1 intC 3 F M u l)(hl:l.length≤2):CallsA Tryz.prog 221 [u,.int .i64 0,.int .i64 l.length] F M (sortP u l F M):=by
 by_cases h1:l.length≤1
 ·exact (k221few F M u l.length (by omega)).mono fun _ _ _ hh=>⟨hh.1,.inl ⟨h1,hh.2⟩⟩
 ·match l,h,hl,h1 with
  | [],_,_,h1=>simp at h1
  | [_],_,_,h1=>simp at h1
  | [x,y],h,_,_=>
   rcases h with ⟨_,h⟩ | ⟨g,cap,rfl,hF,hM,_⟩
   ·cases h
   ·refine (k221two F M g cap x y ⟨[],3,cap * 1⟩ hM).mono fun _ _ _ hh=>⟨hh.1,.inr ⟨g,cap,x,y,cap * 1,rfl,rfl,hM,?_⟩⟩
    rw [hh.2,srtC_eq]
  | _ :: _ :: _ :: _,_,hl,_=>simp at hl
theorem k175 (u:Value)(l:List Int)(z:Int)(h:jQ 1 intC 3 F M u l)(hl:l.length≤2):CallsA Tryz.prog 175 [u,.int .i64 0,.int .i64 l.length,.int .i64 z] F M (sortP u l F M):=by
 refine qZ hm Tryz.func175 e175 (Nat.le_of_ble_eq_true rfl) ?_
 have e1:IntKind.i64.wrap ((l.length:Int) - 0)=l.length:=by rw [Int.sub_zero]; exact w64 (by omega) (by omega)
 have e2:IntKind.i64.wrap (l.length:Int)=l.length:=w64 (by omega) (by omega)
 have h12:(l.length:Int)≤12:=by omega
 simp only [c175,go_sem]
 refine loop_of (fun _ σ F' M'=>F'=F∧M'=M∧Ax.look σ 0=some u∧Ax.look σ 1=some (.int .i64 0)∧Ax.look σ 2=some (.int .i64 l.length)) 1 ?_ ?_
 ·exact ⟨rfl,rfl,by simp only [go_sem],by simp only [go_sem],by simp only [go_sem]⟩
 rintro m σ F' M' ⟨rfl,rfl,h0,h1,h2⟩
 simp only [go_sem,h0,h1,h2,e2,h12,Int.sub_zero]
 refine qY (sort_ins F' M' u l h hl) ?_
 rintro r G M2 hh
 have hG:=hh.1
 rw [hG] at hh ⊢
 refine ⟨(fun h=>by cases h),?_⟩
 simp only [go_sem]
 exact qW hh
theorem k134 (u:Value)(l:List Int)(h:jQ 1 intC 3 F M u l)(hl:l.length≤2):CallsA Tryz.prog 134 [u] F M (sortP u l F M):=by
 refine qZ hm Tryz.func134 e134 (Nat.le_of_ble_eq_true rfl) ?_
 have hs:∃a c,u=.slice a l.length c:=by
  rcases h with ⟨h1,h2⟩ | ⟨g,cap,h1,_⟩
  ·exact ⟨none,0,by rw [h1,h2]; rfl⟩
  ·exact ⟨_,cap,h1⟩
 obtain ⟨a,c,hu⟩:=hs
 rw [hu] at h ⊢
 have c1:IntKind.u64.wrap (l.length:Int)=l.length:=u64_in (by omega) (by omega)
 simp only [c134,go_sem,c1]
 refine qY (k176 F M (l.length:Int) (by omega) (by omega)) ?_
 rintro r G M' ⟨hG,rfl,z,rfl⟩
 rw [hG]
 refine ⟨(fun h=>by cases h),?_⟩
 simp only [go_sem]
 refine qY (k175 F M' _ l z h hl) ?_
 rintro r G M2 hh
 have hG:=hh.1
 rw [hG] at hh ⊢
 refine ⟨(fun h=>by cases h),?_⟩
 simp only [go_sem]
 exact qW hh
theorem srt_perm (x y:Int):(srt x y).Perm [x,y]:=by
 unfold srt; split
 ·exact List.Perm.swap _ _ _
 ·exact List.Perm.refl _
theorem srt_rise {x y:Int}(h:[x,y].Nodup):(srt x y).Pairwise (· < ·):=by
 simp at h
 unfold srt; split
 ·rename_i h1; simp [h1]
 ·rename_i h1; simp; omega
structure Held (F:Fz)(M0 M:Hp)(r:Nat)(z:V)(u:Value)(l:List Int):Prop where
 blk:M r=some ⟨yJ z u,262,7⟩
 row:yY 1 intC 3 F M0 M u l
 r0:M0 r=none
 kp:Keep M0 M
 old:Old F M
def Rest (M M':Hp)(r:Nat):Prop:=∀b x,M b=some x→¬b=r→¬x.elem=3→M' b=some x
theorem Rest.refl (M:Hp)(r:Nat):Rest M M r:=fun _ _ h _ _=>h
theorem Held.fresh {F:Fz}{M0 M:Hp}{r:Nat}{z:V}{u:Value}{l:List Int}(h:Held F M0 M r z u l){q:Nat}{e:Ent}(hF:F q=none)(hM:M q=none):Held F M0 (M.upd q e) r z u l:=
 ⟨by rw [Hp.qK (qH hM h.blk).1]; exact h.blk,h.row.fresh hM,h.r0,h.kp.new (h.kp.free hM),h.old.upd hF⟩
theorem Held.set {F:Fz}{M0 M:Hp}{r:Nat}{z:V}{u:Value}{l:List Int}(h:Held F M0 M r z u l)(z':V):Held F M0 (M.upd r ⟨yJ z' u,262,7⟩) r z' u l∧Rest M (M.upd r ⟨yJ z' u,262,7⟩) r:=by
 have fr:∀b x,M b=some x→¬b=r→(M.upd r ⟨yJ z' u,262,7⟩) b=some x:=fun b x hb h1=>by rw [Hp.qK h1]; exact hb
 refine ⟨⟨Hp.qJ _ _ _,⟨h.row.own.frame (e':=262) (fun b x hb hx=>fr b x hb ?_) (by decide),h.row.new⟩,h.r0,h.kp.new h.r0,h.old.upd (h.old.free h.blk)⟩,fun b x hb h1 _=>fr b x hb h1⟩
 rintro rfl
 rw [h.blk] at hb
 cases hb
 exact hx rfl
theorem heldMk {F:Fz}{M0 M:Hp}{r:Nat}{z z':V}{u u':Value}{l:List Int}(hb:M r=some ⟨yJ z u,262,7⟩)(row:yY 1 intC 3 F M0 M u' l)(r0:M0 r=none)(kp:Keep M0 M)(old:Old F M) :
  Held F M0 (M.upd r ⟨yJ z' u',262,7⟩) r z' u' l∧Rest M (M.upd r ⟨yJ z' u',262,7⟩) r:=by
 have fr:∀b x,M b=some x→¬b=r→(M.upd r ⟨yJ z' u',262,7⟩) b=some x:=fun b x hb h1=>by rw [Hp.qK h1]; exact hb
 refine ⟨⟨Hp.qJ _ _ _,⟨row.own.frame (e':=262) (fun b x hbx hx=>fr b x hbx ?_) (by decide),row.new⟩,r0,kp.new r0,old.upd (old.free hb)⟩,fun b x hb h1 _=>fr b x hb h1⟩
 rintro rfl
 rw [hb] at hbx
 cases hbx
 exact hx rfl
theorem Held.shape {F:Fz}{M0 M:Hp}{r:Nat}{z:V}{u:Value}{l:List Int}(h:Held F M0 M r z u l):∃a c,u=.slice a l.length c:=h.row.shape
theorem Held.rd {F:Fz}{M0 M:Hp}{r:Nat}{z:V}{u:Value}{l:List Int}(h:Held F M0 M r z u l)(hl:l.length≤1000):RdG 1 intC F M u l:=h.row.own.rd wD (by omega)
def vV (M0:Hp)(r:Nat)(z:V)(l:List Int)(n bad:Int)(F:Fz)(M:Hp)(_:Value)(F':Fz)(M':Hp):Prop:=
 F'=F∧∃z' u' l',Held F M0 M' r z' u' l'∧Rest M M' r∧((bad=0∧l'=l∧BothR z (V.just z.w n) z')∨(bad≠0∧z'=z∧l'=addB l bad))
theorem k241 (M0:Hp)(r:Nat)(z:V)(u:Value)(l:List Int)(n bad:Int)(h:Held F M0 M r z u l)(hz:z.ok=true)(hn:bad=0→isN n z.w=true)(hl:l.length≤1000) :
  CallsA Tryz.prog 241 [.pointer (some ⟨r,0,none⟩),.int .i64 n,.int .i64 bad] F M (vV M0 r z l n bad F M):=by
 refine qZ hm Tryz.func241 e241 (Nat.le_of_ble_eq_true rfl) ?_
 have hb:=h.blk
 have bk:=qG (F:=F) hb
 have hw:=(ok_in hz).w
 by_cases h0:bad=0
 ·subst h0
  have hj:=gY hw (hn rfl)
  simp only [c241,go_sem,bk]
  refine qQ (k166 F M _ n) ?_
  simp only [go_sem]
  refine qY (k146 F M z (V.just z.w n) hz hj rfl) ?_
  rintro w G M' ⟨hG,rfl,z',rfl,hbo⟩
  rw [hG]
  refine ⟨fun _=>Le.refl _ _,?_⟩
  simp only [go_sem,hb]
  simp only [setH,go_sem]
  obtain ⟨hh,hr⟩:=h.set z'
  exact qW ⟨rfl,z',u,l,hh,hr,.inl ⟨rfl,rfl,hbo⟩⟩
 ·simp only [c241,go_sem,bk,h0]
  refine qQ (k145 F M u l bad (h.rd hl)) ?_
  by_cases hc:bad∈l
  ·simp only [go_sem,hc]
   exact qW ⟨rfl,z,u,l,h,Rest.refl _ _,.inr ⟨h0,rfl,by unfold addB; rw [if_pos hc]⟩⟩
  ·simp only [go_sem,hc,bk]
   intro rb hFb hMb
   have gb:=qH hMb hb
   simp only [go_sem]
   refine apMG_of (M0:=M0) (xs:=l) (ys:=[bad]) wD intC_plain (by decide) (h.row.fresh hMb) (h.kp.new (h.kp.free hMb)) ⟨rfl,.inr ⟨⟨rb,0,none⟩,1,rfl,.inr ⟨rb,0,_,rfl,wY,by simp [intC,intV]⟩⟩⟩ (by simp) (by simp; omega) ?_
   rintro v' M5 ⟨g5,c5,rfl⟩ hfr kp5 ho5 mine5
   have hb5:M5 r=some ⟨yJ z u,262,7⟩:=hfr _ _ (by rw [Hp.qK gb.1]; exact hb) (fun h=>by cases h)
   simp only [go_sem,hb5]
   simp only [setH,go_sem]
   obtain ⟨hh,hr⟩:=heldMk (z':=z) hb5 mine5 h.r0 kp5 (ho5 (h.old.upd hFb))
   have el:(l++[bad]).length=l.length+1:=by simp
   rw [el] at hh hr
   have ab:addB l bad=l++[bad]:=by unfold addB; rw [if_neg hc]
   exact qW ⟨rfl,z,_,l++[bad],hh,fun b x hbx h1 h2=>hr b x (hfr b x (by rw [Hp.qK (qH hMb hbx).1]; exact hbx) h2) h1 h2,.inr ⟨h0,rfl,ab.symm⟩⟩
theorem Held.other {F:Fz}{M0 M:Hp}{r:Nat}{z:V}{u:Value}{l:List Int}(h:Held F M0 M r z u l){q:Nat}{e x:Ent}(hq:M q=some x)(hx:¬x.elem=3)(hne:¬q=r)(q0:M0 q=none):Held F M0 (M.upd q e) r z u l:=by
 refine ⟨by rw [Hp.qK (fun e=>hne e.symm)]; exact h.blk,⟨h.row.own.frame (e':=x.elem) (fun b y hb hy=>?_) (fun e=>hx e.symm),h.row.new⟩,h.r0,h.kp.new q0,h.old.upd (h.old.free hq)⟩
 rw [Hp.qK]
 ·exact hb
 ·rintro rfl
  rw [hq] at hb
  cases hb
  exact hy rfl
theorem Held.sorted {F:Fz}{M0 M:Hp}{r:Nat}{z:V}{u:Value}{l:List Int}(h:Held F M0 M r z u l){w:Value}{F':Fz}{M':Hp}(hs:sortP u l F M w F' M') :
  F'=F∧∃l',Held F M0 M' r z u l'∧Rest M M' r∧l'.Perm l∧(l.Nodup→l'.Pairwise (· < ·)):=by
 obtain ⟨hF,hs⟩:=hs
 refine ⟨hF,?_⟩
 rcases hs with ⟨h1,rfl⟩ | ⟨g,cap,x,y,n,rfl,rfl,hg,rfl⟩
 ·refine ⟨l,h,Rest.refl _ _,List.Perm.refl _,fun _=>?_⟩
  match l,h1 with
  | [],_=>simp
  | [a],_=>simp
  | _ :: _ :: _,h1=>simp at h1
 ·have hne:¬r=g:=by
   rintro rfl
   have:=h.blk
   rw [hg] at this
   cases this
  have g0:=h.row.new _ _ _ rfl
  rcases h.row.own with ⟨e,_⟩ | ⟨g',cap',e,hF',hM',hc1,hc2⟩
  ·cases e
  cases e
  rw [hg] at hM'
  have en:n=cap * 1:=by injection hM' with hM'; injection hM'
  have hlen:(srt x y).length=2:=by unfold srt; split <;> rfl
  refine ⟨srt x y,⟨by rw [Hp.qK hne]; exact h.blk,⟨.inr ⟨g,cap,by rw [hlen],hF',by rw [en]; exact Hp.qJ _ _ _,by rw [hlen]; exact hc1,hc2⟩,h.row.new⟩,h.r0,h.kp.new g0,h.old.upd hF'⟩,fun b e hb _ h2=>?_,srt_perm x y,fun hn=>srt_rise hn⟩
  rw [Hp.qK]
  ·exact hb
  ·rintro rfl
   rw [hg] at hb
   cases hb
   exact h2 rfl
def toldP (M0:Hp)(r:Nat)(z:V)(l:List Int)(F:Fz)(M:Hp)(v:Value)(F':Fz)(M':Hp):Prop:=
 F'=F∧∃u' l',v=.tuple #[z.val,u']∧Held F M0 M' r z u' l'∧Rest M M' r∧l'.Perm l∧(l.Nodup→l'.Pairwise (· < ·))
theorem k239 (M0:Hp)(r:Nat)(z:V)(u:Value)(l:List Int)(h:Held F M0 M r z u l)(hl:l.length≤2) :
  CallsA Tryz.prog 239 [.pointer (some ⟨r,0,none⟩)] F M (toldP M0 r z l F M):=by
 refine qZ hm Tryz.func239 e239 (Nat.le_of_ble_eq_true rfl) ?_
 simp only [c239,go_sem]
 intro r2 hF2 hM2
 have h1:=h.fresh (e:=⟨[.int .i64 0,.bool false,.int .i64 0,.int .i64 0,.int .i64 0,.int .i64 0],59,6⟩) hF2 hM2
 have g2:=qH hM2 h.blk
 have bk:=qG (F:=F) h1.blk
 have q0:M0 r2=none:=h.kp.free hM2
 have f2:(M.upd r2 ⟨[.int .i64 0,.bool false,.int .i64 0,.int .i64 0,.int .i64 0,.int .i64 0],59,6⟩) r2=some ⟨[.int .i64 0,.bool false,.int .i64 0,.int .i64 0,.int .i64 0,.int .i64 0],59,6⟩:=Hp.qJ _ _ _
 have fr:∀b x,M b=some x→(M.upd r2 ⟨[.int .i64 0,.bool false,.int .i64 0,.int .i64 0,.int .i64 0,.int .i64 0],59,6⟩) b=some x:=fun b x hb=>by rw [Hp.qK (qH hM2 hb).1]; exact hb
 simp only [go_sem]
 generalize M.upd r2 ⟨[.int .i64 0,.bool false,.int .i64 0,.int .i64 0,.int .i64 0,.int .i64 0],59,6⟩=M1 at *
 simp only [go_sem,bk]
 refine qY (k134 F M1 u l h1.row.own hl) ?_
 rintro w G M2 hs
 obtain ⟨hG,l',h2,hr,hp,hri⟩:=h1.sorted hs
 rw [hG]
 refine ⟨(fun h=>by cases h),?_⟩
 have bk2:=qG (F:=F) h2.blk
 have f22:=hr _ _ f2 g2.2 (by decide)
 simp only [go_sem,bk2,f22,g2]
 simp only [setH,go_sem]
 exact qW ⟨rfl,u,l',rfl,h2.other f22 (by decide) g2.2 q0,fun b x hb h3 h4=>by
  rw [Hp.qK (qH hM2 hb).1]
  exact hr _ _ (fr b x hb) h3 h4,hp,hri⟩
structure Sh (op k pa pb pc pd:Int)(b:V)(r:Nat)(M0:Hp)(z:V)(l:List Int)(F0:Fz)(M1:Hp)(σ:Env)(F:Fz)(M:Hp):Prop where
 ff:F=F0
 held:∃u,Held F0 M0 M r z u l
 rest:Rest M1 M r
 h0:Ax.look σ 0=some (.pointer (some ⟨r,0,none⟩))
 h1:Ax.look σ 1=some (.int .i64 op)
 h2:Ax.look σ 2=some (.int .i64 k)
 h8:∃r8,Ax.look σ 8=some (.pointer (some ⟨r8,0,none⟩))∧M r8=some ⟨b.cs,59,6⟩
 h9:∃r9,Ax.look σ 9=some (.pointer (some ⟨r9,0,none⟩))∧M r9=some ⟨[.int .i64 pa,.int .i64 pb,.int .i64 pc,.int .i64 pd],290,4⟩∧M1 r9=none
 h10:Ax.look σ 10=some (.int .i64 (ofW k))
def t14 (op:Int)(k:Nat)(a b x y:V)(yes:Bool)(σ:Env):Prop:=
 (askB op k a b=true∧Ax.look σ 14=some (.int .i64 0)∧TwoR op k a b yes x y)∨(askB op k a b=false∧Ax.look σ 14=some (.int .i64 1))
end Go.Proofs.Tryz.K
namespace Go.Proofs.Tryz.K
open Go Go.Ax Go.Proofs.Tryz.S
set_option maxRecDepth 100000
set_option linter.unusedSimpArgs false
set_option linter.unusedVariables false
set_option maxHeartbeats 4000000
def castK (f t x:Int):Int:=gG f x % 2 ^ (ofW t).toNat
theorem castK_isN (f t x:Int):isN (castK f t x) (ofW t)=true:=mod_isN (gZ t)
variable (F:Fz) (M:Hp)
end Go.Proofs.Tryz.K
namespace Go.Proofs.Tryz.K
open Go Go.Ax Go.Proofs.Tryz.S
variable (F:Fz) (M:Hp)
theorem aluShr (k a b:Int)(hk:isK k=true)(a0:0≤a)(a1:a≤wH (ofW k))(b0:0≤b)(b1:b≤wH (ofW k)) :
  CallsA Tryz.prog 242 [.int .i64 17,.int .i64 k,.int .i64 a,.int .i64 b] F M (Same F M (pairV (twoK 17 k a b))):=by
 refine qZ hm Tryz.func242 e242 (Nat.le_of_ble_eq_true rfl) ?_
 simp only [c242,go_sem]
 refine qQ (k278 F _ k a a0 a1) ?_
 simp only [go_sem]
 refine qQ (k278 F _ k b b0 b1) ?_
 rw [two_shift (.inr rfl)]
 simp only [go_sem]
 refine qQ (k281 F _ 17 k a _ _ hk (.inr rfl) a0 a1) ?_
 simp only [pairV,go_sem]
 exact qW ⟨rfl,rfl,rfl⟩
theorem mem1 {v:V}{w n:Int}(h:Is1 v w n){most:Nat}(hm:1≤most){F:Fz}{M:Hp}{u:Value}{F':Fz}{M':Hp}(hr:vG v most F M u F' M') :
  F'=F∧∃g cap,F g=none∧M g=none∧u=.tuple #[.slice (some ⟨g,0,none⟩) 1 cap,.bool true]∧M'=M.upd g ⟨[.int .i64 n],3,cap * 1⟩:=by
 obtain ⟨m,rfl⟩:∃m,most=m+1:=⟨most - 1,by omega⟩
 have e:=h.mem m
 unfold vG at hr
 rw [e] at hr
 obtain ⟨hF,⟨_,⟨h2,_⟩ | ⟨g,cap,h2,h3,rfl,rfl⟩⟩ | ⟨h1,_⟩⟩:=hr
 ·cases h2
 ·exact ⟨hF,g,cap,h2,h3,rfl,rfl⟩
 ·simp at h1
def oneH (w x:Int)(r:Nat)(F0:Fz)(M0 M2:Hp)(d:Nat)(i:Nat)(σ:Env)(F:Fz)(M:Hp):Prop:=
 F0=F∧Ax.look σ d=some (.int .i64 i)∧((i=0∧M2=M)∨(i=1∧∃z u,Held F0 M0 M r z u []∧Rest M2 M r∧Is1 z w x))
theorem add1 {M0:Hp}{r:Nat}{w x:Int}{F:Fz}{M:Hp}(hw:isW w=true)(hx:isN x w=true){v:Value}{F':Fz}{M':Hp}(h:vV M0 r (V.nothing w) [] x 0 F M v F' M'):F'=F∧∃z u,Held F M0 M' r z u []∧Rest M M' r∧Is1 z w x:=by
 obtain ⟨hF,z,u,l,hh,hr,⟨_,rfl,hb⟩ | ⟨h0,_⟩⟩:=h
 ·exact ⟨hF,z,u,hh,hr,Is1.both (Vo.nothing hw) (Is1.just hw hx) hb⟩
 ·exact absurd rfl h0
def oneD (w x:Int)(F:Fz)(M:Hp)(v:Value)(F':Fz)(M':Hp):Prop:=F'=F∧Keep M M'∧Old F M'∧∃z a c,v=.tuple #[V.val z,.slice a 0 c]∧Is1 z w x
theorem doShr (k n m x:Int)(a b:V)(hold:Old F M)(hk:isK k=true)(ha:Is1 a (ofW k) n)(hb:Is1 b (ofW k) m)(hx:twoK 17 k n m=(x,0)) :
  CallsA Tryz.prog 191 [.int .i64 17,.int .i64 k,a.val,b.val] F M (oneD (ofW k) x F M):=by
 refine qZ hm Tryz.func191 e191 (Nat.le_of_ble_eq_true rfl) ?_
 have hW:=gZ k
 have ra:=ha.rng
 have rb:=hb.rng
 have na:=ha.not_void
 have nb:=hb.not_void
 have hxN:isN x (ofW k)=true:=by
  have:=two_isN (op:=17) hk ra.1 ra.2 rb.1 rb.2 (by rw [hx])
  rw [hx] at this
  have e:ansW 17 k=ofW k:=by unfold ansW; rw [if_neg (by decide)]
  rw [e] at this; exact this
 have e17:ansW 17 k=ofW k:=by unfold ansW; rw [if_neg (by decide)]
 have kd:=aluShr F
 simp only [c191,go_sem]
 intro r6 hF6 hM6
 generalize eQ:M.upd r6 ⟨a.cs,59,6⟩=M1 at *
 obtain ⟨kp6,old6,f6⟩:=nw eQ hold hF6 hM6
 clear eQ
 simp only [go_sem]
 intro r7 hF7 hM7
 generalize eQ:M1.upd r7 ⟨b.cs,59,6⟩=M2 at *
 obtain ⟨kp7,old7,f7⟩:=nw eQ old6 hF7 hM7
 clear eQ
 simp only [go_sem]
 intro r8 hF8 hM8
 have n8:M r8=none:=(kp6.trans kp7).free hM8
 generalize eQ:M2.upd r8 ⟨[.int .i64 0,.bool false,.int .i64 0,.int .i64 0,.int .i64 0,.int .i64 0],59,6⟩=M3 at *
 obtain ⟨kp8,old8,f8⟩:=nw eQ old7 hF8 hM8
 clear eQ
 have kp:=(kp6.trans kp7).trans kp8
 have f73:=kp8 _ _ f7
 have f63:=kp8 _ _ (kp7 _ _ f6)
 clear kp6 kp7 kp8 hM6 hM7 hM8 old6 old7
 simp only [go_sem]
 refine qQ (k238 F _ 17 k hk) ?_
 rw [e17]
 simp only [go_sem]
 refine qQ (k122 F _ _) ?_
 simp only [go_sem]
 intro r hF hM
 have n0:M r=none:=kp.free hM
 generalize eQ:M3.upd r ⟨yJ (V.nothing (ofW k)) (.slice none 0 0),262,7⟩=M4 at *
 obtain ⟨kp4,old4,f4⟩:=nw eQ old8 hF hM
 clear eQ
 have hh:Held F M M4 r (V.nothing (ofW k)) (.slice none 0 0) []:=⟨f4,yY.nil,n0,kp.trans kp4,old4⟩
 have g7:=kp4 _ _ f73
 have g6:=kp4 _ _ f63
 have g8:=kp4 _ _ f8
 have b6:=qG (F:=F) g6
 have b7:=qG (F:=F) g7
 simp only [go_sem,b6]
 refine qQ (k128 F _ a ha.ok) ?_
 simp only [go_sem,b7,na]
 refine qQ (k128 F _ b hb.ok) ?_
 simp only [go_sem,b6,nb]
 refine qY (k218 F _ a 16 ha.ok (by decide)) ?_
 rintro w G M5 hm
 obtain ⟨hG,ga,ca,hFa,hMa,rfl,hM5⟩:=mem1 ha (by decide) hm
 rw [hG]
 refine ⟨(fun h=>by cases h),?_⟩
 obtain ⟨kp5,old5,f5⟩:=nw hM5.symm old4 hFa hMa
 have hh5:Held F M M5 r (V.nothing (ofW k)) (.slice none 0 0) []:=by rw [hM5]; exact hh.fresh hFa hMa
 have b75:=qG (F:=F) (kp5 _ _ g7)
 clear hm hM5 hMa
 simp only [go_sem,b75]
 refine qY (k218 F _ b 16 hb.ok (by decide)) ?_
 rintro w G M6 hm
 obtain ⟨hG,gb,cb,hFb,hMb,rfl,hM6⟩:=mem1 hb (by decide) hm
 rw [hG]
 refine ⟨(fun h=>by cases h),?_⟩
 obtain ⟨kp6,old6,f6b⟩:=nw hM6.symm old5 hFb hMb
 have hh6:Held F M M6 r (V.nothing (ofW k)) (.slice none 0 0) []:=by rw [hM6]; exact hh5.fresh hFb hMb
 have ba:=qG (F:=F) (kp6 _ _ f5)
 have bb:=qG (F:=F) f6b
 have g86:=kp6 _ _ (kp5 _ _ g8)
 have n86:¬r8=r:=by
  rintro rfl
  rw [kp4 _ _ f8] at f4
  injection f4 with f4
  injection f4 with _ f4 _
  exact absurd f4 (by decide)
 clear hm hM6 hMb hh hh5 b6 b7 b75 g6 g7 f63 f73
 have z1:IntKind.i64.wrap (((0:Nat):Int)+1)=1:=rfl
 simp only [go_sem]
 refine yX 1 (oneH (ofW k) x r F M M6 63) ⟨rfl,(by simp only [go_sem, *] <;> rfl),.inl ⟨rfl,rfl⟩⟩ ?_
 rintro i σ F' M' hi hst ⟨rfl,q63,hcase⟩
 have q0:=hst 0 rfl
 have q1:=hst 1 rfl
 have q8:=hst 8 rfl
 have q10:=hst 10 rfl
 have q13:=hst 13 rfl
 have q61:=hst 61 rfl
 have q62:=hst 62 rfl
 simp only [go_sem] at q0 q1 q8 q10 q13 q61 q62
 clear hst
 rcases hcase with ⟨rfl,rfl⟩ | ⟨rfl,z,u,hz,hr,hz1⟩
 rotate_left
 ·have e1:¬(((1:Nat):Int) < 1):=by decide
  have kt:=k239 F M' M r z u [] hz (by simp)
  have g8':=hr _ _ g86 n86 (by decide)
  simp only [go_sem,q10,q62,q63]
  refine qY kt ?_
  rintro w G M7 ⟨hG,u',l',rfl,hh7,hr7,hp,_⟩
  have hl:l'=[]:=hp.eq_nil
  subst hl
  obtain ⟨a',c',rfl⟩:=hh7.shape
  rw [hG]
  refine ⟨(fun h=>by cases h),?_⟩
  have g87:=hr7 _ _ g8' n86 (by decide)
  simp only [setH,go_sem,q8,g87]
  exact qW ⟨rfl,hh7.kp.new n8,hh7.old.upd hF8,z,a',c',rfl,hz1⟩
 have e0:((0:Nat):Int) < 1:=by decide
 have e00:(0:Int)≤((0:Nat):Int):=by decide
 simp only [go_sem,q61,q62,q63,Nat.zero_mul,Nat.add_zero,ba,q13]
 refine yX 1 (oneH (ofW k) x r F M M6 69) ⟨rfl,(by simp only [go_sem, *] <;> rfl),.inl ⟨rfl,rfl⟩⟩ ?_
 rintro i σ2 F' M' hi hst ⟨rfl,q69,hcase⟩
 have t0:=hst 0 rfl
 have t1:=hst 1 rfl
 have t10:=hst 10 rfl
 have t16:=hst 16 rfl
 have t63:=hst 63 rfl
 have t67:=hst 67 rfl
 have t68:=hst 68 rfl
 simp only [go_sem,q0,q1,q10,q63] at t0 t1 t10 t16 t63 t67 t68
 clear hst
 rcases hcase with ⟨rfl,rfl⟩ | ⟨rfl,z,u,hz,hr,hz1⟩
 rotate_left
 ·have e1:¬(((1:Nat):Int) < 1):=by decide
  simp only [go_sem,t63,t68,q69]
  exact ⟨by decide,rfl,(by simp only [go_sem, *] <;> rfl),.inr ⟨rfl,z,u,hz,hr,hz1⟩⟩
 have ka:=k241 F M6 M r (V.nothing (ofW k)) (.slice none 0 0) [] x 0 hh6 (gD hW) (fun _=>hxN) (by simp)
 have kd':=kd M6 k n m hk ra.1 ra.2 rb.1 rb.2
 rw [hx] at kd'
 simp only [go_sem,t0,t1,t10,t16,t67,t68,q69,Nat.zero_mul,Nat.add_zero,bb]
 refine qQ kd' ?_
 simp only [pairV,go_sem]
 refine qY ka ?_
 rintro w G M7 hadd
 obtain ⟨hG,z,u,hz,hr,hz1⟩:=add1 hW hxN hadd
 rw [hG]
 refine ⟨(fun h=>by cases h),?_⟩
 simp only [go_sem,q69]
 exact ⟨by decide,rfl,(by simp only [go_sem, *] <;> rfl),.inr ⟨rfl,z,u,hz,hr,hz1⟩⟩
def oneT (w x:Int)(F:Fz)(M:Hp)(v:Value)(F':Fz)(M':Hp):Prop:=F'=F∧Keep M M'∧Old F M'∧∃z,v=V.val z∧Is1 z w x
theorem turnOne (f t n:Int)(a:V)(hold:Old F M)(hf:isK f=true)(ht:isK t=true)(ha:Is1 a (ofW f) n) :
  CallsA Tryz.prog 193 [.int .i64 f,.int .i64 t,a.val] F M (oneT (ofW t) (castK f t n) F M):=by
 refine qZ hm Tryz.func193 e193 (Nat.le_of_ble_eq_true rfl) ?_
 have hW:=gZ t
 have ra:=ha.rng
 have hxN:=castK_isN f t n
 have kT:=fun M=>k243 F M f t n ht ra.1 ra.2
 simp only [c193,go_sem]
 intro r5 hF5 hM5
 generalize eQ:M.upd r5 ⟨a.cs,59,6⟩=M1 at *
 obtain ⟨kp5,old5,f5⟩:=nw eQ hold hF5 hM5
 clear eQ
 simp only [go_sem]
 intro r6 hF6 hM6
 have n6:M r6=none:=kp5.free hM6
 generalize eQ:M1.upd r6 ⟨[.int .i64 0,.bool false,.int .i64 0,.int .i64 0,.int .i64 0,.int .i64 0],59,6⟩=M2 at *
 obtain ⟨kp6,old6,f6⟩:=nw eQ old5 hF6 hM6
 clear eQ
 have kp:=kp5.trans kp6
 have b5:=qG (F:=F) (kp6 _ _ f5)
 clear kp5 kp6 hM5 hM6 old5
 simp only [go_sem]
 refine qQ (k74 F _ t ht) ?_
 simp only [go_sem,b5]
 refine qY (k218 F _ a 16 ha.ok (by decide)) ?_
 rintro w G M3 hm
 obtain ⟨hG,ga,ca,hFa,hMa,rfl,hM3⟩:=mem1 ha (by decide) hm
 rw [hG]
 refine ⟨(fun h=>by cases h),?_⟩
 obtain ⟨kp3,old3,f3⟩:=nw hM3.symm old6 hFa hMa
 have kq:=kp.trans kp3
 have g6:=kp3 _ _ f6
 clear hm hM3 hMa b5 f5 kp old6
 simp only [go_sem]
 refine qQ (k122 F _ _) ?_
 simp only [go_sem]
 intro r hF hM
 have n0:M r=none:=kq.free hM
 generalize eQ:M3.upd r ⟨yJ (V.nothing (ofW t)) (.slice none 0 0),262,7⟩=M4 at *
 obtain ⟨kp4,old4,f4⟩:=nw eQ old3 hF hM
 clear eQ
 have hh:Held F M M4 r (V.nothing (ofW t)) (.slice none 0 0) []:=⟨f4,yY.nil,n0,kq.trans kp4,old4⟩
 have ba:=qG (F:=F) (kp4 _ _ f3)
 have g64:=kp4 _ _ g6
 have n6r:¬r6=r:=by
  rintro rfl
  rw [g64] at f4
  injection f4 with f4
  injection f4 with _ f4 _
  exact absurd f4 (by decide)
 have z1:IntKind.i64.wrap (((0:Nat):Int)+1)=1:=rfl
 simp only [go_sem]
 refine yX 1 (oneH (ofW t) (castK f t n) r F M M4 29) ⟨rfl,(by simp only [go_sem, *] <;> rfl),.inl ⟨rfl,rfl⟩⟩ ?_
 rintro i σ F' M' hi hst ⟨rfl,q29,hcase⟩
 have q0:=hst 0 rfl
 have q1:=hst 1 rfl
 have q6:=hst 6 rfl
 have q10:=hst 10 rfl
 have q27:=hst 27 rfl
 have q28:=hst 28 rfl
 simp only [go_sem] at q0 q1 q6 q10 q27 q28
 clear hst
 rcases hcase with ⟨rfl,rfl⟩ | ⟨rfl,z,u,hz,hr,hz1⟩
 rotate_left
 ·have e1:¬(((1:Nat):Int) < 1):=by decide
  have bz:=qG (F:=F) hz.blk
  have g6':=hr _ _ g64 n6r (by decide)
  simp only [setH,go_sem,q6,q10,q28,q29,bz,g6']
  exact qW ⟨rfl,hz.kp.new n6,hz.old.upd hF6,z,rfl,hz1⟩
 have e0:((0:Nat):Int) < 1:=by decide
 have e00:(0:Int)≤((0:Nat):Int):=by decide
 have ka:=k241 F M4 M r (V.nothing (ofW t)) (.slice none 0 0) [] (castK f t n) 0 hh (gD hW) (fun _=>hxN) (by simp)
 have kT':=kT M4
 simp only [go_sem,q0,q1,q10,q27,q28,q29,Nat.zero_mul,Nat.add_zero,ba]
 refine qQ kT' ?_
 simp only [go_sem]
 refine qY ka ?_
 rintro w G M7 hadd
 obtain ⟨hG,z,u,hz,hr,hz1⟩:=add1 hW hxN hadd
 rw [hG]
 refine ⟨(fun h=>by cases h),?_⟩
 simp only [go_sem,q29]
 exact ⟨by decide,rfl,(by simp only [go_sem, *] <;> rfl),.inr ⟨rfl,z,u,hz,hr,hz1⟩⟩
def ixBa (l:List Ba)(p:Ba→Bool)(F0:Fz)(M0:Hp)(i:Nat)(σ:Env)(F:Fz)(M:Hp):Prop:=
 F0=F∧M0=M∧Ax.look σ 8=some (.int .i64 i)∧(l.take i).any p=false
theorem idxBase (ad:Option Addr)(cap:Nat)(l:List Ba)(g:Nat)(ca:List Value)(p:Ba→Bool)(h:RdG 7 Ba.cs F M (.slice ad l.length cap) l)
  (hp:∀v∈l,CallsA Tryz.prog g ([v.val]++ca) F M (Same F M (.bool (p v)))) :
  CallsA Tryz.prog 125 [.slice ad l.length cap,.func (.func g) #[] ca.toArray] F M fun r F' M'=>F'=F∧M'=M∧((l.any p=false∧r=.int .i64 (-1))∨∃i:Nat,r=.int .i64 i∧∃hi:i < l.length,p l[i]=true∧(l.take i).any p=false):=by
 refine qZ hm Tryz.func125 e125 (Nat.le_of_ble_eq_true rfl) ?_
 simp only [c125,go_sem]
 refine yX l.length (ixBa l p F M) ⟨rfl,rfl,(by simp only [go_sem, *] <;> rfl),rfl⟩ ?_
 rintro i σ F' M' hi hs ⟨rfl,rfl,h8,ha⟩
 have s0:=hs 0 rfl
 have s1:=hs 1 rfl
 have s7:=hs 7 rfl
 simp only [go_sem] at s0 s1 s7
 clear hs
 by_cases hil:(i:Int) < l.length
 ·have hi0:(0:Int)≤i:=by omega
  have hil':i < l.length:=by omega
  have hle:=h.1
  have ei:IntKind.i64.wrap ((i:Int)+1)=i+1:=w64 (by omega) (by omega)
  have t1:=List.take_succ_eq_append_getElem hil'
  have hfin:p l[i]=true→(l.any p=false∧Value.int .i64 (i:Int)=.int .i64 (-1))∨∃j:Nat,Value.int .i64 (i:Int)=.int .i64 j∧∃hi:j < l.length,p l[j]=true∧(l.take j).any p=false:=fun hv=>.inr ⟨i,rfl,hil',hv,ha⟩
  obtain ⟨b,o,cs,rfl,hb,d1,d2⟩:=RdG.at h hil'
  have hq:=hp l[i] (List.getElem_mem _)
  generalize l[i]=v at *
  simp only [go_sem,s0,s1,s7,h8,hil,hi0,Int.toNat_natCast,hb,d1,d2]
  refine qQ hq ?_
  cases hv:p v
  ·simp only [go_sem,h8,ei]
   exact ⟨hil',rfl,rfl,(by simp only [go_sem, *] <;> rfl),by rw [t1,List.any_append,ha]; simp [hv]⟩
  ·simp only [go_sem]
   exact qW ⟨rfl,rfl,hfin hv⟩
 ·rw [List.take_of_length_le (by omega)] at ha
  simp only [go_sem,s7,h8,hil]
  exact qW ⟨rfl,rfl,.inl ⟨ha,rfl⟩⟩
theorem k190 (x:Ba):CallsA Tryz.prog 190 [x.val] F M (Same F M (.bool (decide (x.b=0)))):=by
 refine qZ hm Tryz.func190 e190 (Nat.le_of_ble_eq_true rfl) ?_
 simp only [c190,go_sem]
 repeat' first
  | simp only [go_sem,Nat.add_zero, *]
  | (with_reducible first | apply cD | apply cN | apply cB | apply cO | apply tD | apply fD | apply tN | apply fN | apply tB | apply fB | apply tO | apply fO) <;> intro hc
  | (intro rx hFx hMx; (try simp only [wW] at hMx))
 all_goals (refine qX (M:=M) (by repeat' first | exact Keep.refl _ | (refine Keep.new ?_ (by simp only [*]))) ⟨?_,rfl,rfl⟩)
 rfl
theorem delNone (ad:Option Addr)(cap:Nat)(l:List Ba)(h:RdG 7 Ba.cs F M (.slice ad l.length cap) l)(hb:∀x∈l,1≤x.b):CallsA Tryz.prog 189 [.slice ad l.length cap,.func (.func 190) #[] #[]] F M (Same F M (.slice ad l.length cap)):=by
 refine qZ hm Tryz.func189 e189 (Nat.le_of_ble_eq_true rfl) ?_
 simp only [c189,go_sem]
 have hn:(l.any fun x=>decide (x.b=0))=false:=by
  rw [List.any_eq_false]
  intro x hx
  have:=hb x hx
  simp; omega
 refine qY (idxBase F M ad cap l 190 [] (fun x=>decide (x.b=0)) h (fun x _=>k190 F M x)) ?_
 rintro r G M' ⟨hG,hM,hz⟩
 rw [hG,hM]
 refine ⟨(fun h=>by cases h),?_⟩
 rcases hz with ⟨_,rfl⟩ | ⟨i,rfl,hi,hz,_⟩
 ·simp only [go_sem]
  exact qW ⟨rfl,rfl,rfl⟩
 ·rw [List.any_eq_false] at hn
  exact absurd hz (hn _ (List.getElem_mem hi))
theorem jQ.stay {α:Type}{sz:Nat}{f:α→List Value}{e:TypeId}{F:Fz}{M M':Hp}{u:Value}{l:List α}(h:jQ sz f e F M u l)(hk:∀r x,M r=some x→x.elem=e→M' r=some x):jQ sz f e F M' u l:=by
 rcases h with h | ⟨g,c,h1,h2,h3,h4⟩
 ·exact .inl h
 ·exact .inr ⟨g,c,h1,h2,hk _ _ h3 rfl,h4⟩
def GP (F:Fz)(M:Hp)(g:Gu):Prop:=∀M',Old F M'→(∀r x,M r=some x→x.elem=102→M' r=some x)→g.rd F M'
theorem GP.rd {F:Fz}{M:Hp}{g:Gu}(h:GP F M g)(o:Old F M):g.rd F M:=h M o (fun _ _ h _=>h)
theorem GP.step {F:Fz}{M M':Hp}{g:Gu}(h:GP F M g)(hk:∀r x,M r=some x→x.elem=102→M' r=some x):GP F M' g:=fun M2 o k=>h M2 o (fun r x hr hx=>k r x (hk r x hr hx) hx)
def guMade (x:By)(F:Fz)(M:Hp)(v:Value)(F':Fz)(M':Hp):Prop:=F'=F∧Keep M M'∧Old F M'∧∃g:Gu,v=g.val∧GP F M' g∧GuR g x
theorem k141 (big:Bool)(ptr:Int)(c:Pc)(a:Option Addr)(cap:Nat)(i:Nat)(hp:ptr=2∨ptr=4)(hold:Old F M)(h:∀M',Old F M'→RdG 7 Ba.cs F M' (.slice a c.l.length cap) c.l)(hc:CanC c)(hk:isS c.k=true)(hi:(i:Int) < wX ptr c.k) :
  CallsA Tryz.prog 141 [.agg #[.bool big,.int .i64 ptr],.int .i64 c.k,abV c.v (.slice a c.l.length cap),.int .i64 i] F M (guMade (yQ (jZ big ptr c) i) F M):=by
 refine qZ hm Tryz.func141 e141 (Nat.le_of_ble_eq_true rfl) ?_
 simp only [c141,go_sem]
 intro r4 hF4 hM4
 simp only [go_sem]
 intro r6 hF6 hM6
 simp only [wW] at hM6
 simp only [go_sem]
 intro r8 hF8 hM8
 simp only [wW] at hM8
 have kp8:Keep M (((M.upd r4 ⟨[.bool big,.int .i64 ptr],23,2⟩).upd r6 ⟨yJ c.v (.slice a c.l.length cap),62,7⟩).upd r8 ⟨[.bool false,.int .i64 0,.bool false,.int .i64 0,.int .i64 0,.int .i64 0,.int .i64 0,.int .i64 0,.bool false,.int .i64 0,.int .i64 0,.int .i64 0,.int .i64 0,.slice none 0 0],185,14⟩):=(by repeat' first | exact Keep.refl _ | (refine Keep.new ?_ (by simp only [*])))
 have old8:Old F (((M.upd r4 ⟨[.bool big,.int .i64 ptr],23,2⟩).upd r6 ⟨yJ c.v (.slice a c.l.length cap),62,7⟩).upd r8 ⟨[.bool false,.int .i64 0,.bool false,.int .i64 0,.int .i64 0,.int .i64 0,.int .i64 0,.int .i64 0,.bool false,.int .i64 0,.int .i64 0,.int .i64 0,.int .i64 0,.slice none 0 0],185,14⟩):=(by repeat' first | assumption | (refine Old.upd ?_ (by assumption)))
 have f4:(((M.upd r4 ⟨[.bool big,.int .i64 ptr],23,2⟩).upd r6 ⟨yJ c.v (.slice a c.l.length cap),62,7⟩).upd r8 ⟨[.bool false,.int .i64 0,.bool false,.int .i64 0,.int .i64 0,.int .i64 0,.int .i64 0,.int .i64 0,.bool false,.int .i64 0,.int .i64 0,.int .i64 0,.int .i64 0,.slice none 0 0],185,14⟩) r4=some ⟨[.bool big,.int .i64 ptr],23,2⟩:=by rw [Hp.qK (by simp [hM8]),Hp.qK (by simp [hM6])]; exact Hp.qJ _ _ _
 have f6:(((M.upd r4 ⟨[.bool big,.int .i64 ptr],23,2⟩).upd r6 ⟨yJ c.v (.slice a c.l.length cap),62,7⟩).upd r8 ⟨[.bool false,.int .i64 0,.bool false,.int .i64 0,.int .i64 0,.int .i64 0,.int .i64 0,.int .i64 0,.bool false,.int .i64 0,.int .i64 0,.int .i64 0,.int .i64 0,.slice none 0 0],185,14⟩) r6=some ⟨yJ c.v (.slice a c.l.length cap),62,7⟩:=by rw [Hp.qK (by simp [hM8])]; exact Hp.qJ _ _ _
 have f8:(((M.upd r4 ⟨[.bool big,.int .i64 ptr],23,2⟩).upd r6 ⟨yJ c.v (.slice a c.l.length cap),62,7⟩).upd r8 ⟨[.bool false,.int .i64 0,.bool false,.int .i64 0,.int .i64 0,.int .i64 0,.int .i64 0,.int .i64 0,.bool false,.int .i64 0,.int .i64 0,.int .i64 0,.int .i64 0,.slice none 0 0],185,14⟩) r8=some ⟨[.bool false,.int .i64 0,.bool false,.int .i64 0,.int .i64 0,.int .i64 0,.int .i64 0,.int .i64 0,.bool false,.int .i64 0,.int .i64 0,.int .i64 0,.int .i64 0,.slice none 0 0],185,14⟩:=Hp.qJ _ _ _
 have n8:M r8=none:=hM8.2.2
 generalize (((M.upd r4 ⟨[.bool big,.int .i64 ptr],23,2⟩).upd r6 ⟨yJ c.v (.slice a c.l.length cap),62,7⟩).upd r8 ⟨[.bool false,.int .i64 0,.bool false,.int .i64 0,.int .i64 0,.int .i64 0,.int .i64 0,.int .i64 0,.bool false,.int .i64 0,.int .i64 0,.int .i64 0,.int .i64 0,.slice none 0 0],185,14⟩)=M1 at *
 clear hM4 hM6 hM8
 simp only [go_sem]
 with_reducible refine qQ (k187 F M1) ?_
 simp only [go_sem]
 intro r9 hF9 hM9
 simp only [setH,Hp.wG,go_sem]
 generalize eQ:M1.upd r9 ⟨(Gu.mk false (V.nothing 8) (V.nothing 8) none 0 []).cs,185,14⟩=M2 at *
 obtain ⟨kp9,old9,f9⟩:=nw eQ old8 hF9 hM9
 clear eQ
 have g4:=kp9 _ _ f4
 have g6:=kp9 _ _ f6
 have g8:=kp9 _ _ f8
 have b4:=qG (F:=F) g4
 have b6:=qG (F:=F) g6
 have kp2:=kp8.trans kp9
 have n98:¬r9=r8:=by rintro rfl; rw [f8] at hM9; cases hM9
 have n9:M r9=none:=kp8.free hM9
 have hr:=h _ old9
 by_cases h7:c.k=7
 ·rcases hc with ⟨h0,_⟩ | ⟨h1,_⟩ | ⟨h1,b,o,vo,h2,h3,h4,h5,h6⟩ | ⟨h1,_⟩
  ·rw [h0] at h7; exact absurd h7 (by decide)
  ·rw [h1] at h7; exact absurd h7 (by decide)
  rotate_left
  ·rw [h7] at h1; exact absurd h1 (by decide)
  have hpt:pointsB c.l 0 0=false:=by rw [h3,sole_points h4 (by omega) (by omega)]; simp; omega
  simp only [go_sem,h7,b6]
  with_reducible refine qQ (k188 F M2 (.slice a c.l.length cap) c.l 0 0 hr) ?_
  simp only [go_sem,hpt]
  with_reducible refine qQ (k166 F M2 8 i) ?_
  simp only [setH,go_sem,f9]
  have kp3:Keep M1 (M2.upd r9 ⟨(Gu.mk false (V.nothing 8) (V.just 8 i) none 0 []).cs,185,14⟩):=kp9.new hM9
  have old3:Old F (M2.upd r9 ⟨(Gu.mk false (V.nothing 8) (V.just 8 i) none 0 []).cs,185,14⟩):=old9.upd hF9
  have f93:(M2.upd r9 ⟨(Gu.mk false (V.nothing 8) (V.just 8 i) none 0 []).cs,185,14⟩) r9=some ⟨(Gu.mk false (V.nothing 8) (V.just 8 i) none 0 []).cs,185,14⟩:=Hp.qJ _ _ _
  generalize M2.upd r9 ⟨(Gu.mk false (V.nothing 8) (V.just 8 i) none 0 []).cs,185,14⟩=M3 at *
  have b63:=qG (F:=F) (kp3 _ _ f6)
  have hr3:=h _ old3
  have hl1:c.l.length=1:=by rw [h3]; rfl
  simp only [go_sem,b63]
  with_reducible refine qY (k91 F M3 (.slice a c.l.length cap) c.l hr3 old3 (by omega)) ?_
  rintro u G M4 hq
  have ownq:=hq.own
  obtain ⟨hG,le,kq,oq,aq,cq,rfl,rdq⟩:=hq.le (f:=Ba.cs) (fun x=>rfl) (by omega)
  replace hG:=hG.symm
  subst hG
  refine ⟨(fun h=>by cases h),?_⟩
  have old4:=oq old3
  simp only [go_sem]
  with_reducible refine qQ (delNone F M4 aq cq c.l rdq (fun x hx=>by rw [h3] at hx; rw [List.mem_singleton.1 hx]; exact h5.1)) ?_
  have f94:=kq _ _ f93
  have f84:=kq _ _ (kp3 _ _ f8)
  have n89:¬r8=r9:=fun e=>n98 e.symm
  simp only [setH,go_sem,f94,f84,n89]
  have kp6:Keep M ((M4.upd r9 ⟨(Gu.mk false (V.nothing 8) (V.just 8 i) aq cq c.l).cs,185,14⟩).upd r8 ⟨(Gu.mk false (V.nothing 8) (V.just 8 i) aq cq c.l).cs,185,14⟩):=(((kp8.trans kp3).trans kq).new n9).new n8
  have old6:Old F ((M4.upd r9 ⟨(Gu.mk false (V.nothing 8) (V.just 8 i) aq cq c.l).cs,185,14⟩).upd r8 ⟨(Gu.mk false (V.nothing 8) (V.just 8 i) aq cq c.l).cs,185,14⟩):=(old4.upd hF9).upd hF8
  refine qW ⟨rfl,kp6,old6,Gu.mk false (V.nothing 8) (V.just 8 i) aq cq c.l,rfl,?_,?_⟩
  ·have fr:∀r x,M4 r=some x→x.elem=102→((M4.upd r9 ⟨(Gu.mk false (V.nothing 8) (V.just 8 i) aq cq c.l).cs,185,14⟩).upd r8 ⟨(Gu.mk false (V.nothing 8) (V.just 8 i) aq cq c.l).cs,185,14⟩) r=some x:=fun r x hx hne=>by
    have n1:¬r=r8:=by rintro rfl; rw [f84] at hx; cases hx; exact absurd (show (185:TypeId)=102 from hne) (by decide)
    have n2:¬r=r9:=by rintro rfl; rw [f94] at hx; cases hx; exact absurd (show (185:TypeId)=102 from hne) (by decide)
    rw [Hp.qK n1,Hp.qK n2]; exact hx
   refine fun M'' o'' k''=>(jQ.stay (jQ.stay ownq fr) k'').rd (fun _=>rfl) (by show c.l.length≤_; omega)
  ·have hi3:(i:Int)≤3:=by rw [h7,span_7] at hi; omega
   have hb1:jZ big ptr c=ptrL b o ptr.toNat:=by
    unfold jZ
    rw [h1,if_neg (by decide),if_neg (by decide),if_pos rfl,h3,sole_only h4 h6]
   have hx:yQ (jZ big ptr c) i=⟨2,0,b,o,i⟩:=by
    rw [hb1]; unfold yQ
    rw [ptrL_get (by rw [h7,span_7] at hi; omega)]
    unfold wantB; rw [if_pos (by omega)]; rfl
   rw [hx,h3]
   exact GuR.part h4 h5 h6 hi3 (Is1.just (by decide) (Ax.n8 (by omega)))
 ·have hkk:isK c.k=true:=by simp only [isS,isK,Bool.and_eq_true,decide_eq_true_eq] at hk ⊢; omega
  rcases hc with ⟨h0,_⟩ | ⟨h1,_⟩ | ⟨h1,_⟩ | ⟨_,n,h2,h3⟩
  ·rw [h0] at hkk; exact absurd hkk (by decide)
  ·rw [h1] at hkk; exact absurd hkk (by decide)
  ·exact absurd h1 h7
  obtain ⟨p1,p2,p3⟩:=plain_k hkk
  have hsp:=span_num (ptr:=ptr) hkk
  have hof:=span_ofW (ptr:=ptr) hkk
  have hne:¬c.k=0∧¬c.k=11:=by simp only [isK,Bool.and_eq_true,decide_eq_true_eq] at hkk; omega
  have hsz:sizeK ptr c.k=wX ptr c.k:=(span_size hne.1 hne.2).symm
  obtain ⟨j,hj⟩:∃j:Nat,j=if big=true then (wX ptr c.k).toNat - 1 - i else i:=⟨_,rfl⟩
  have hjs:(j:Int) < wX ptr c.k:=by rw [hj]; split <;> omega
  have hx:yQ (jZ big ptr c) i=⟨1,byteV n j,0,0,0⟩:=by
   unfold jZ
   rw [if_neg hne.1,if_neg hne.2,if_neg h7,h2.at_]
   unfold yQ putL
   rw [List.getElem?_map,List.getElem?_range (by omega)]
   simp only [Option.map_some,Option.getD_some,putB,Bool.false_eq_true,if_false]
   rw [hj]; rfl
  rw [hx]
  have r0:=h2.rng
  have hm4:wX ptr c.k≤4:=by omega
  have w1:IntKind.i64.wrap (sizeK ptr c.k - 1)=sizeK ptr c.k - 1:=w64 (by omega) (by omega)
  have w2:big=true→IntKind.i64.wrap (sizeK ptr c.k - 1 - (i:Int))=(j:Int):=fun hb=>by
   rw [if_pos hb] at hj
   rw [w64 (by omega) (by omega)]; omega
  have w3:IntKind.i64.wrap (8 * (j:Int))=8 * j:=w64 (by omega) (by omega)
  have hjF:big=false→(i:Int)=j:=fun hb=>by rw [hj,hb]; simp
  have hw8:=gZ c.k
  have hjn:isN (8 * (j:Int)) (ofW c.k)=true:=by
   have:=(ofW_most c.k).2.2.1
   simp only [isN,Bool.and_eq_true,decide_eq_true_eq]; omega
  have hj1:=Is1.just hw8 hjn
  have hwk:wK c.k=ofW c.k:=wK_of hkk
  rw [hwk] at h2
  have hv6:=h2.ok
  cases big
  case' false=>
   have hji:=hjF rfl
   simp only [go_sem,h7,b4]
   with_reducible refine qQ (k74 F M2 c.k hkk) ?_
   simp only [go_sem,b6,hji,w3]
   with_reducible refine qQ (k192 F M2 c.k hkk) ?_
   simp only [go_sem]
  case' true=>
   simp only [go_sem,h7,b4]
   with_reducible refine qQ (k173 F M2 true ptr c.k hk) ?_
   simp only [go_sem,w1,w2]
   with_reducible refine qQ (k74 F M2 c.k hkk) ?_
   simp only [go_sem,b6,w3]
   with_reducible refine qQ (k192 F M2 c.k hkk) ?_
   simp only [go_sem]
  all_goals
   with_reducible refine qQ (k166 F M2 (ofW c.k) (8 * (j:Int))) ?_
   simp only [go_sem]
   have p2':ofW (plainK c.k)=ofW c.k:=p2
   have kDo:=doShr F M2 (plainK c.k) n (8 * (j:Int)) (n / 256 ^ j) c.v (V.just (ofW c.k) (8 * (j:Int))) old9 p1 (by rw [p2']; exact h2) (by rw [p2']; exact hj1) (shr_two hkk r0.1 (by rw [←hwk]; exact r0.2) hjs)
   rw [p2'] at kDo
   with_reducible refine qY kDo ?_
   rintro u G M4 ⟨hG,kq,old4,z,aq,cq,rfl,iz⟩
   replace hG:=hG.symm
   subst hG
   refine ⟨(fun _=>kq.le old4),?_⟩
   simp only [go_sem]
   intro r11 hF11 hM11
   simp only [setH,Hp.wG,go_sem]
   generalize eQ:M4.upd r11 ⟨z.cs,59,6⟩=M5 at *
   obtain ⟨kp5,old5,f11⟩:=nw eQ old4 hF11 hM11
   clear eQ
   have b11:=qG (F:=F) f11
   with_reducible refine qQ (k192 F M5 c.k hkk) ?_
   simp only [go_sem]
   with_reducible refine qY (turnOne F M5 (plainK c.k) 1 (n / 256 ^ j) z old5 p1 rfl (by rw [p2']; exact iz)) ?_
   rintro u G M6 ⟨hG,kp6t,old6t,y,rfl,iy0⟩
   replace hG:=hG.symm
   subst hG
   refine ⟨(fun _=>kp6t.le old6t),?_⟩
   have iy:Is1 y 8 (byteV n j):=by
    have e1:castK (plainK c.k) 1 (n / 256 ^ j)=byteV n j:=by
     unfold castK gG
     rw [p3]
     simp only [Bool.false_eq_true,if_false]
     have:(2:Int) ^ (ofW 1).toNat=256:=by decide
     rw [this,byteV_div r0.1 (by omega)]
    rw [e1] at iy0; exact iy0
   have f95:=kp6t _ _ (kp5 _ _ (kq _ _ f9))
   have f85:=kp6t _ _ (kp5 _ _ (kq _ _ g8))
   have n89:¬r8=r9:=fun e=>n98 e.symm
   simp only [setH,go_sem,f95,f85,n89]
   have kp6:Keep M ((M6.upd r9 ⟨(Gu.mk false y (V.nothing 8) none 0 []).cs,185,14⟩).upd r8 ⟨(Gu.mk false y (V.nothing 8) none 0 []).cs,185,14⟩):=((((kp2.trans kq).trans kp5).trans kp6t).new n9).new n8
   have old6:Old F ((M6.upd r9 ⟨(Gu.mk false y (V.nothing 8) none 0 []).cs,185,14⟩).upd r8 ⟨(Gu.mk false y (V.nothing 8) none 0 []).cs,185,14⟩):=(old6t.upd hF9).upd hF8
   exact qW ⟨rfl,kp6,old6,Gu.mk false y (V.nothing 8) none 0 [],rfl,fun _ _ _=>gX,GuR.num1 iy⟩
theorem k181 (big:Bool)(ptr:Int)(c:Cl)(at_:Int)(hp:ptr=2∨ptr=4)(hold:Old F M)(h:∀M',Old F M'→c.rd F M')(hc:CanC c.pc)(h1:0≤c.p∧c.p≤1000)(h2:c.p≤at_∧at_ < c.p+wX ptr c.k) :
  CallsA Tryz.prog 181 [.agg #[.bool big,.int .i64 ptr],c.val,.int .i64 at_] F M (guMade (yQ (jZ big ptr c.pc) (at_ - c.p).toNat) F M):=by
 refine qZ hm Tryz.func181 e181 (Nat.le_of_ble_eq_true rfl) ?_
 simp only [c181,go_sem]
 intro r3 hF3 hM3
 generalize eQ:M.upd r3 ⟨[.bool big,.int .i64 ptr],23,2⟩=M1 at *
 obtain ⟨kp3,old3,f3⟩:=nw eQ hold hF3 hM3
 clear eQ
 simp only [go_sem]
 intro r4 hF4 hM4
 generalize eQ:M1.upd r4 ⟨c.cs,84,10⟩=M2 at *
 obtain ⟨kp4,old4,f4⟩:=nw eQ old3 hF4 hM4
 clear eQ
 simp only [go_sem]
 intro r6 hF6 hM6
 have kp6:Keep M2 (M2.upd r6 ⟨[.bool false,.int .i64 0,.bool false,.int .i64 0,.int .i64 0,.int .i64 0,.int .i64 0,.int .i64 0,.bool false,.int .i64 0,.int .i64 0,.int .i64 0,.int .i64 0,.slice none 0 0],185,14⟩):=(Keep.refl _).new hM6
 have old6:Old F (M2.upd r6 ⟨[.bool false,.int .i64 0,.bool false,.int .i64 0,.int .i64 0,.int .i64 0,.int .i64 0,.int .i64 0,.bool false,.int .i64 0,.int .i64 0,.int .i64 0,.int .i64 0,.slice none 0 0],185,14⟩):=old4.upd hF6
 have f6:(M2.upd r6 ⟨[.bool false,.int .i64 0,.bool false,.int .i64 0,.int .i64 0,.int .i64 0,.int .i64 0,.int .i64 0,.bool false,.int .i64 0,.int .i64 0,.int .i64 0,.int .i64 0,.slice none 0 0],185,14⟩) r6=some ⟨[.bool false,.int .i64 0,.bool false,.int .i64 0,.int .i64 0,.int .i64 0,.int .i64 0,.int .i64 0,.bool false,.int .i64 0,.int .i64 0,.int .i64 0,.int .i64 0,.slice none 0 0],185,14⟩:=Hp.qJ _ _ _
 have n6:M r6=none:=(kp3.trans kp4).free hM6
 generalize M2.upd r6 ⟨[.bool false,.int .i64 0,.bool false,.int .i64 0,.int .i64 0,.int .i64 0,.int .i64 0,.int .i64 0,.bool false,.int .i64 0,.int .i64 0,.int .i64 0,.int .i64 0,.slice none 0 0],185,14⟩=M3 at *
 simp only [go_sem]
 with_reducible refine qQ (k187 F M3) ?_
 simp only [go_sem]
 intro r7 hF7 hM7
 simp only [setH,Hp.wG,go_sem]
 have kp7:Keep M3 (M3.upd r7 ⟨(Gu.mk false (V.nothing 8) (V.nothing 8) none 0 []).cs,185,14⟩):=(Keep.refl _).new hM7
 have old7:Old F (M3.upd r7 ⟨(Gu.mk false (V.nothing 8) (V.nothing 8) none 0 []).cs,185,14⟩):=old6.upd hF7
 have f7:(M3.upd r7 ⟨(Gu.mk false (V.nothing 8) (V.nothing 8) none 0 []).cs,185,14⟩) r7=some ⟨(Gu.mk false (V.nothing 8) (V.nothing 8) none 0 []).cs,185,14⟩:=Hp.qJ _ _ _
 have kpM:Keep M M3:=(kp3.trans kp4).trans kp6
 have n7:M r7=none:=kpM.free hM7
 have n76:¬r7=r6:=by rintro rfl; rw [f6] at hM7; cases hM7
 have n67:¬r6=r7:=fun e=>n76 e.symm
 have g3:=kp7 _ _ (kp6 _ _ (kp4 _ _ f3))
 have g4:=kp7 _ _ (kp6 _ _ f4)
 have g6:=kp7 _ _ f6
 have kp8:=kpM.trans kp7
 generalize M3.upd r7 ⟨(Gu.mk false (V.nothing 8) (V.nothing 8) none 0 []).cs,185,14⟩=M4 at *
 clear hM3 hM4 hM6 hM7 kp3 kp4 kp6 old3 old4 old6
 have b3:=qG (F:=F) g3
 have b4:=qG (F:=F) g4
 have hr:c.rd F M4:=h _ old7
 have n47:¬r4=r7:=by rintro rfl; have:=congrArg (Option.map Ent.elem) (g4.symm.trans f7); simp at this
 have fr:∀(M5:Hp) (g:Gu),Keep M4 M5→∀r x,M5 r=some x→x.elem=102→((M5.upd r7 ⟨g.cs,185,14⟩).upd r6 ⟨g.cs,185,14⟩) r=some x:=fun M5 g k r x hx hne=>by
  have n1:¬r=r6:=by rintro rfl; rw [k _ _ g6] at hx; cases hx; exact absurd (show (185:TypeId)=102 from hne) (by decide)
  have n2:¬r=r7:=by rintro rfl; rw [k _ _ f7] at hx; cases hx; exact absurd (show (185:TypeId)=102 from hne) (by decide)
  rw [Hp.qK n1,Hp.qK n2]; exact hx
  -- the end: a guess lies in the block r7, and is handed back
 have fin:∀(M5:Hp) (g:Gu),Keep M4 M5→Old F M5→GP F M5 g→GuR g (yQ (jZ big ptr c.pc) (at_ - c.p).toNat)→endK F ((M5.upd r7 ⟨g.cs,185,14⟩).upd r6 ⟨g.cs,185,14⟩) (guMade (yQ (jZ big ptr c.pc) (at_ - c.p).toNat) F M) g.val:=fun M5 g k o hg hx=>
  qW ⟨rfl,((kp8.trans k).new n7).new n6,(o.upd hF7).upd hF6,g,rfl,hg.step (fr M5 g k),hx⟩
 have hsp:=jX hp hc.kind
 have hsp:1≤wX ptr c.k∧wX ptr c.k≤4:=hsp
 by_cases k0:c.k=0
 ·have hx:yQ (jZ big ptr c.pc) (at_ - c.p).toNat=⟨0,0,0,0,0⟩:=by
   have:(at_ - c.p).toNat=0:=by rw [k0,span_0] at h2; omega
   rw [this]; unfold jZ
   rw [if_pos (show c.pc.k=0 from k0)]; rfl
  simp only [go_sem,b4,k0]
  simp only [setH,go_sem,f7,g6,n67]
  exact fin M4 (Gu.mk true (V.nothing 8) (V.nothing 8) none 0 []) (Keep.refl _) old7 (fun _ _ _=>gX) (by rw [hx]; exact GuR.none)
 by_cases k11:c.k=11
 ·have hx:∃b o vo i,yQ (jZ big ptr c.pc) (at_ - c.p).toNat=⟨2,0,b,o,i⟩∧GuR (Gu.mk false (V.nothing 8) c.v c.lA c.lC c.l) ⟨2,0,b,o,i⟩∧c.l=[⟨b,vo⟩]:=by
   rcases hc with ⟨h0,_⟩ | ⟨_,b,o,i,vo,i1,i2,i3,i4,i5,i6⟩ | ⟨h0,_⟩ | ⟨h0,_⟩
   ·exact absurd h0 k0
   rotate_left
   ·rw [show c.pc.k=c.k from rfl,k11] at h0; exact absurd h0 (by decide)
   ·rw [show c.pc.k=c.k from rfl,k11] at h0; exact absurd h0 (by decide)
   have r1:=i1.rng
   obtain ⟨j,rfl⟩:=Int.eq_ofNat_of_zero_le r1.1
   have i2:c.l=[⟨b,vo⟩]:=i2
   refine ⟨b,o,vo,j,?_,by rw [i2]; exact GuR.part i3 i4 i5 i6 i1,i2⟩
   have:(at_ - c.p).toNat=0:=by rw [k11,span_11] at h2; omega
   rw [this]; unfold jZ
   rw [if_neg (show ¬c.pc.k=0 from k0),if_pos (show c.pc.k=11 from k11),show c.pc.l=c.l from rfl,i2,sole_only i3 i5,i1.at_]; rfl
  obtain ⟨b,o,vo,i,hx,hg,hl⟩:=hx
  simp only [go_sem,b4,k11]
  simp only [setH,Hp.wG,go_sem,f7,g6,n67,n47]
  exact fin M4 (Gu.mk false (V.nothing 8) c.v c.lA c.lC c.l) (Keep.refl _) old7 (fun M' o _=>h M' o) (by rw [hx]; exact hg)
 ·have hs:isS c.k=true:=by
   rcases hc.kind with h | h | h
   ·exact absurd h k0
   ·exact absurd h k11
   ·exact h
  obtain ⟨i,hi⟩:=Int.eq_ofNat_of_zero_le (by omega:0≤at_ - c.p)
  have ew:IntKind.i64.wrap (at_ - c.p)=(i:Int):=by rw [w64 (by omega) (by omega),hi]
  have hlt:(i:Int) < wX ptr c.pc.k:=by show (i:Int) < wX ptr c.k; omega
  have kk:CallsA Tryz.prog 141 [.agg #[.bool big,.int .i64 ptr],.int .i64 c.k,abV c.v (.slice c.lA c.l.length c.lC),.int .i64 i] F M4 (guMade (yQ (jZ big ptr c.pc) i) F M4):=k141 F M4 big ptr c.pc c.lA c.lC i hp old7 h hc hs hlt
  simp only [go_sem,b3,b4,k0,k11,ew]
  with_reducible refine qY kk ?_
  rintro u G M5 ⟨hG,kp5,old5,g,rfl,hg,hx⟩
  replace hG:=hG.symm
  subst hG
  refine ⟨(fun h=>by cases h),?_⟩
  have f75:=kp5 _ _ f7
  have f65:=kp5 _ _ g6
  simp only [setH,go_sem,f75,f65,n67]
  refine fin M5 g kp5 old5 hg ?_
  rw [hi]; exact hx
def ixCl (l:List Cl)(p:Cl→Bool)(F0:Fz)(M0:Hp)(i:Nat)(σ:Env)(F:Fz)(M:Hp):Prop:=
 F0=F∧M0=M∧Ax.look σ 8=some (.int .i64 i)∧(l.take i).any p=false
theorem k183 (ad:Option Addr)(cap:Nat)(l:List Cl)(g:Nat)(ca:List Value)(p:Cl→Bool)(h:RdG 10 Cl.cs F M (.slice ad l.length cap) l)
  (hp:∀v∈l,CallsA Tryz.prog g ([v.val]++ca) F M (Same F M (.bool (p v)))) :
  CallsA Tryz.prog 183 [.slice ad l.length cap,.func (.func g) #[] ca.toArray] F M fun r F' M'=>F'=F∧M'=M∧((l.any p=false∧r=.int .i64 (-1))∨∃i:Nat,r=.int .i64 i∧∃hi:i < l.length,p l[i]=true∧(l.take i).any p=false):=by
 refine qZ hm Tryz.func183 e183 (Nat.le_of_ble_eq_true rfl) ?_
 simp only [c183,go_sem]
 refine yX l.length (ixCl l p F M) ⟨rfl,rfl,(by simp only [go_sem, *] <;> rfl),rfl⟩ ?_
 rintro i σ F' M' hi hs ⟨rfl,rfl,h8,ha⟩
 have s0:=hs 0 rfl
 have s1:=hs 1 rfl
 have s7:=hs 7 rfl
 simp only [go_sem] at s0 s1 s7
 clear hs
 by_cases hil:(i:Int) < l.length
 ·have hi0:(0:Int)≤i:=by omega
  have hil':i < l.length:=by omega
  have hle:=h.1
  have ei:IntKind.i64.wrap ((i:Int)+1)=i+1:=w64 (by omega) (by omega)
  have t1:=List.take_succ_eq_append_getElem hil'
  have hfin:p l[i]=true→(l.any p=false∧Value.int .i64 (i:Int)=.int .i64 (-1))∨∃j:Nat,Value.int .i64 (i:Int)=.int .i64 j∧∃hi:j < l.length,p l[j]=true∧(l.take j).any p=false:=fun hv=>.inr ⟨i,rfl,hil',hv,ha⟩
  obtain ⟨b,o,cs,rfl,hb,d1,d2⟩:=RdG.at h hil'
  have hq:=hp l[i] (List.getElem_mem _)
  generalize l[i]=v at *
  simp only [go_sem,s0,s1,s7,h8,hil,hi0,Int.toNat_natCast,hb,d1,d2]
  refine qQ hq ?_
  cases hv:p v
  ·simp only [go_sem,h8,ei]
   exact ⟨hil',rfl,rfl,(by simp only [go_sem, *] <;> rfl),by rw [t1,List.any_append,ha]; simp [hv]⟩
  ·simp only [go_sem]
   exact qW ⟨rfl,rfl,hfin hv⟩
 ·rw [List.take_of_length_le (by omega)] at ha
  simp only [go_sem,s7,h8,hil]
  exact qW ⟨rfl,rfl,.inl ⟨ha,rfl⟩⟩
theorem k232 (ad:Option Addr)(cap:Nat)(l:List Cl)(g:Nat)(ca:List Value)(p:Cl→Bool)(h:RdG 10 Cl.cs F M (.slice ad l.length cap) l)
  (hp:∀v∈l,CallsA Tryz.prog g ([v.val]++ca) F M (Same F M (.bool (p v)))) :
  CallsA Tryz.prog 232 [.slice ad l.length cap,.func (.func g) #[] ca.toArray] F M (Same F M (.bool (l.any p))):=by
 refine qZ hm Tryz.func232 e232 (Nat.le_of_ble_eq_true rfl) ?_
 simp only [c232,go_sem]
 refine qY (k183 F M ad cap l g ca p h hp) ?_
 rintro r G M' ⟨hG,hM,hz⟩
 rw [hG,hM]
 refine ⟨(fun h=>by cases h),?_⟩
 rcases hz with ⟨hz,rfl⟩ | ⟨i,rfl,hi,hz,_⟩
 ·simp only [go_sem]
  exact qW ⟨by rw [hz],rfl,rfl⟩
 ·have:l.any p=true:=List.any_eq_true.2 ⟨_,List.getElem_mem hi,hz⟩
  have hi0:(0:Int)≤i:=by omega
  simp only [go_sem,hi0]
  exact qW ⟨by rw [this],rfl,rfl⟩
theorem k132 (s:Si)(b:Int)(hb:1≤b∧b≤s.p.vars.length)(hv:s.p.vars.length≤2500):CallsA Tryz.prog 132 [s.val,.int .i64 b] F M (Same F M (.int .i64 2)):=by
 refine qZ hm Tryz.func132 e132 (Nat.le_of_ble_eq_true rfl) ?_
 have h0:¬b=0:=by omega
 have w1:IntKind.i64.wrap (b - 1)=b - 1:=w64 (by omega) (by omega)
 have w2:IntKind.i64.wrap (b - 1 - (s.p.vars.length:Int))=b - 1 - s.p.vars.length:=w64 (by omega) (by omega)
 have h1:¬(0:Int)≤b - 1 - s.p.vars.length:=by omega
 simp only [c132,go_sem]
 intro r2 hF2 hM2
 have b2:=qG (F:=F) (Hp.qJ M r2 ⟨s.cs,132,10⟩)
 simp only [go_sem,b2,h0,w1,w2,h1]
 exact qX ((Keep.refl _).new hM2) ⟨rfl,rfl,rfl⟩
theorem k133 (s:Si)(b:Int)(hb:1≤b∧b≤s.p.vars.length)(hv:s.p.vars.length≤2500):CallsA Tryz.prog 133 [s.val,.int .i64 b] F M (Same F M (.bool true)):=by
 refine qZ hm Tryz.func133 e133 (Nat.le_of_ble_eq_true rfl) ?_
 simp only [c133,go_sem]
 intro r2 hF2 hM2
 have b2:=qG (F:=F) (Hp.qJ M r2 ⟨s.cs,132,10⟩)
 simp only [go_sem,b2]
 with_reducible refine qQ (k132 F _ s b hb hv) ?_
 have e1:¬(1:Int) < 0:=by decide
 have e2:band .i64 (shrv .i64 2 1) 1=1:=by decide
 simp only [go_sem,e1,e2]
 exact qX ((Keep.refl _).new hM2) ⟨rfl,rfl,rfl⟩
def exactC (ptr:Int)(b at_ k:Int)(c:Cl):Bool:=decide (c.b=b) && (decide (c.p=at_) && (isS c.k && ((decide (c.k=7) == decide (k=7)) && decide (wX ptr c.k=wX ptr k))))
theorem k184 (s:Si)(c:Cl)(b at_ k:Int)(r4 r5 r6 r7:Nat)(hk:isS k=true)(f4:M r4=some ⟨s.cs,132,10⟩)(f5:M r5=some ⟨[.int .i64 b],3,1⟩)(f6:M r6=some ⟨[.int .i64 at_],3,1⟩)(f7:M r7=some ⟨[.int .i64 k],3,1⟩) :
  CallsA Tryz.prog 184 [c.val,.pointer (some ⟨r5,0,none⟩),.pointer (some ⟨r6,0,none⟩),.pointer (some ⟨r7,0,none⟩),.pointer (some ⟨r4,0,none⟩)] F M (Same F M (.bool (exactC s.p.ptr b at_ k c))):=by
 refine qZ hm Tryz.func184 e184 (Nat.le_of_ble_eq_true rfl) ?_
 have e0:exactC s.p.ptr b at_ k c=(decide (c.b=b) && (decide (c.p=at_) && (isS c.k && ((decide (c.k=7) == decide (k=7)) && decide (wX s.p.ptr c.k=wX s.p.ptr k))))):=rfl
 rw [e0]
 simp only [c184,go_sem]
 intro rc hFc hMc
 have kpc:Keep M (M.upd rc ⟨c.cs,84,10⟩):=(Keep.refl _).new hMc
 have b4:=qG (F:=F) (kpc _ _ f4)
 have b5:=qG (F:=F) (kpc _ _ f5)
 have b6:=qG (F:=F) (kpc _ _ f6)
 have b7:=qG (F:=F) (kpc _ _ f7)
 have bc:=qG (F:=F) (Hp.qJ M rc ⟨c.cs,84,10⟩)
 generalize M.upd rc ⟨c.cs,84,10⟩=M1 at *
 by_cases c1:c.b=b
 rotate_left
 ·simp only [go_sem,bc,b5,c1]
  exact qX kpc ⟨rfl,rfl,rfl⟩
 by_cases c2:c.p=at_
 rotate_left
 ·simp only [go_sem,bc,b5,b6,c1,c2]
  exact qX kpc ⟨rfl,rfl,rfl⟩
 simp only [go_sem,bc,b5,b6,c1,c2]
 with_reducible refine qQ (k39 F M1 c.k) ?_
 cases c3:isS c.k
 ·simp only [go_sem]
  exact qX kpc ⟨rfl,rfl,rfl⟩
 cases c4:(decide (c.k=7) == decide (k=7))
 ·simp only [go_sem,bc,b7,c4]
  exact qX kpc ⟨rfl,rfl,rfl⟩
 simp only [go_sem,bc,b4,b7,c4]
 with_reducible refine qQ (k129 F M1 s.p.big s.p.ptr c.k (.inr (.inr c3))) ?_
 simp only [go_sem]
 with_reducible refine qQ (k129 F M1 s.p.big s.p.ptr k (.inr (.inr hk))) ?_
 simp only [go_sem]
 exact qX kpc ⟨rfl,rfl,rfl⟩
end Go.Proofs.Tryz.K
