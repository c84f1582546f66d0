/- Parts B6: the machine's runs of small codes, contracts of functions, plain facts. -/
import Derived.Test.YtamcbkelfgbkoaaGreatB5
set_option maxRecDepth 100000
set_option linter.unusedSimpArgs false
set_option linter.unusedVariables false
set_option maxHeartbeats 4000000
namespace Go.Proofs.Tryz.K
open Go Go.Ax Go.Proofs.Tryz.S
variable (F:Fz) (M:Hp)
def sizeK (ptr k:Int):Int:=if k=7 then ptr else (wK k).tdiv 8
theorem k48 (big:Bool)(ptr k:Int):CallsA Tryz.prog 48 [.agg #[.bool big,.int .i64 ptr],.int .i64 k] F M (Same F M (.int .i64 (sizeK ptr k))):=by
 refine qZ hm Tryz.func48 e48 (Nat.le_of_ble_eq_true rfl) ?_
 have hw:0≤wK k∧wK k≤32:=by
  unfold wK ofW
  split
  ·split
   ·omega
   split <;> omega
  ·omega
 have hd:IntKind.i64.wrap ((wK k).tdiv 8)=(wK k).tdiv 8:=by
  rw [Int.tdiv_eq_ediv_of_nonneg hw.1]
  exact w64 (by omega) (by omega)
 simp only [c48,go_sem]
 repeat' first
  | simp only [go_sem, *]
  | (with_reducible first | apply cD | apply cN | apply cB | apply cO | apply tD | apply fD | apply tN | apply fN | apply tB | apply fB | apply tO | apply fO) <;> intro hc
  | (intro rx hFx hMx; (try simp only [wW] at hMx))
  | refine qQ (k15 _ _ _) ?_
 all_goals (refine qX (M:=M) (by repeat' first | exact Keep.refl _ | (refine Keep.new ?_ (by simp only [*]))) ⟨?_,rfl,rfl⟩)
 all_goals simp_all [sizeK]
theorem k173 (big:Bool)(ptr k:Int)(hk:isS k=true):CallsA Tryz.prog 173 [.agg #[.bool big,.int .i64 ptr],.int .i64 k] F M (Same F M (.int .i64 (sizeK ptr k))):=by
 refine qZ hm Tryz.func173 e173 (Nat.le_of_ble_eq_true rfl) ?_
 have hw:0≤ofW k∧ofW k≤32:=by
  unfold ofW
  split
  ·omega
  split <;> omega
 have hd:IntKind.i64.wrap ((ofW k).tdiv 8)=(ofW k).tdiv 8:=by
  rw [Int.tdiv_eq_ediv_of_nonneg hw.1]
  exact w64 (by omega) (by omega)
 have hkk:k=7∨isK k=true:=by
  simp [isS,isK] at hk ⊢; omega
 by_cases h7:k=7
 ·simp only [c173,go_sem]
  repeat' first
  | simp only [go_sem, *]
  | (with_reducible first | apply cD | apply cN | apply cB | apply cO | apply tD | apply fD | apply tN | apply fN | apply tB | apply fB | apply tO | apply fO) <;> intro hc
  | (intro rx hFx hMx; (try simp only [wW] at hMx))
  all_goals (refine qX (M:=M) (by repeat' first | exact Keep.refl _ | (refine Keep.new ?_ (by simp only [*]))) ⟨?_,rfl,rfl⟩)
  all_goals simp_all [sizeK]
 ·have hk6:isK k=true:=by simpa [h7] using hkk
  simp only [c173,go_sem]
  repeat' first
  | simp only [go_sem, *]
  | (with_reducible first | apply cD | apply cN | apply cB | apply cO | apply tD | apply fD | apply tN | apply fN | apply tB | apply fB | apply tO | apply fO) <;> intro hc
  | (intro rx hFx hMx; (try simp only [wW] at hMx))
   | refine qQ (k74 _ _ _ hk6) ?_
  all_goals (refine qX (M:=M) (by repeat' first | exact Keep.refl _ | (refine Keep.new ?_ (by simp only [*]))) ⟨?_,rfl,rfl⟩)
  all_goals simp_all [sizeK,wK]
theorem wK_le (k:Int):0≤wK k∧wK k≤62:=by
 unfold wK ofW
 split
 ·split
  ·omega
  split <;> omega
 ·omega
theorem k101 (p:Pg)(s:Sm)(r1:Nat)(e1:Ent)(h1:M r1=some e1)(c1:e1.cells=p.cs)(hp:p.rd F)(hold:Old F M) :
  CallsA Tryz.prog 101 [s.val,.pointer (some ⟨r1,0,none⟩)] F M (Same F M (.bool (!stmtB p.vars.length p.news.length p.exprs s))):=by
 refine qZ hm Tryz.func101 e101 (Nat.le_of_ble_eq_true rfl) ?_
 have b1:=qG (F:=F) h1
 rw [c1] at b1
 simp only [c101,go_sem]
 intro r2 hF2 hM2
 have n1:=qH hM2 h1
 simp only [go_sem,b1,n1]
 refine qQ (k102 _ _ p s hp (hold.upd hF2)) ?_
 simp only [go_sem]
 exact qV hM2 (qW ⟨rfl,rfl,rfl⟩)
theorem k58 (p:Pg)(hp:p.rd F)(hold:Old F M):CallsA Tryz.prog 58 [p.val] F M (Same F M (.bool (yK p))):=by
 refine qZ hm Tryz.func58 e58 (Nat.le_of_ble_eq_true rfl) ?_
 have hfew:=hp.few
 simp only [c58,go_sem]
 intro r1 hF1 hM1
 simp only [go_sem]
 intro r3 hF3 hM3
 simp only [wW] at hM3
 have old3:Old F ((M.upd r1 ⟨p.cs,28,7⟩).upd r3 ⟨p.cs,153,7⟩):=(by repeat' first | assumption | (refine Old.upd ?_ (by assumption)))
 have f1:((M.upd r1 ⟨p.cs,28,7⟩).upd r3 ⟨p.cs,153,7⟩) r1=some ⟨p.cs,28,7⟩:=by rw [Hp.qK hM3.1.2]; exact Hp.qJ _ _ _
 have f3:((M.upd r1 ⟨p.cs,28,7⟩).upd r3 ⟨p.cs,153,7⟩) r3=some ⟨p.cs,153,7⟩:=Hp.qJ _ _ _
 have kp3:Keep M ((M.upd r1 ⟨p.cs,28,7⟩).upd r3 ⟨p.cs,153,7⟩):=((Keep.refl M).new hM1).new hM3.2
 simp only [setH,Hp.wG,go_sem]
 generalize (M.upd r1 ⟨p.cs,28,7⟩).upd r3 ⟨p.cs,153,7⟩=M1 at *
 have b1:=qG (F:=F) f1
 have b3:=qG (F:=F) f3
 have no:∀v:Bool,(yK p=v)→endK F M1 (Same F M (.bool (yK p))) (.bool v):=fun v h=>qX kp3 ⟨by rw [h],rfl,rfl⟩
 have hbad:∀n:Int,(decide (n < 1) || decide (32 < n)) = !sizeB n:=fun n=>by
  unfold sizeB
  by_cases h1:n < 1
  ·have:¬1≤n:=by omega
   simp [h1,this]
  ·by_cases h2:32 < n
   ·have:¬n≤32:=by omega
    simp [h2,this]
   ·have h3:1≤n:=by omega
    have h4:n≤32:=by omega
    simp [h1,h2,h3,h4]
 have hany:∀l:List Int,(l.any fun n=>decide (n < 1) || decide (32 < n)) = !l.all sizeB:=fun l=>by
  rw [List.not_all_eq_any_not]
  congr 1
  funext n
  exact hbad n
 have kv:CallsA Tryz.prog 98 [.slice p.vA p.vars.length p.vC,.func (.func 96) #[] #[]] F M1 (Same F M1 (.bool (!p.vars.all sizeB))):=by
  rw [←hany]
  exact k98 F M1 p.vA p.vC p.vars _ [] _ (hp.vars _ old3) (fun v _=>k96 F M1 v)
 have kn:CallsA Tryz.prog 98 [.slice p.nA p.news.length p.nC,.func (.func 96) #[] #[]] F M1 (Same F M1 (.bool (!p.news.all sizeB))):=by
  rw [←hany]
  exact k98 F M1 p.nA p.nC p.news _ [] _ (hp.news _ old3) (fun v _=>k96 F M1 v)
 have kst:CallsA Tryz.prog 100 [.slice p.sA p.stmts.length p.sC,.func (.func 101) #[] #[.pointer (some ⟨r3,0,none⟩)]] F M1 (Same F M1 (.bool (!p.stmts.all (stmtB p.vars.length p.news.length p.exprs)))):=by
  rw [List.not_all_eq_any_not]
  exact k100 F M1 p.sA p.sC p.stmts _ [.pointer (some ⟨r3,0,none⟩)] _ (hp.stmts _ old3) (fun v _=>k101 F M1 p v r3 _ f3 rfl hp old3)
 clear hbad hany hF1 hM1 hF3 hM3 kp3
 simp only [go_sem,b1]
 refine qQ (k97 _ _ p.big p.ptr) ?_
 cases h1:(decide (p.ptr=2) || decide (p.ptr=4))
 ·simp only [go_sem]
  exact no _ (by unfold yK; rw [h1]; rfl)
 by_cases h2:(4:Int) < p.vars.length
 ·have:¬p.vars.length≤4:=by omega
  simp only [go_sem,b1,h2]
  exact no _ (by simp [yK,sizesB,this])
 by_cases h3:(2:Int) < p.news.length
 ·have:¬p.news.length≤2:=by omega
  simp only [go_sem,b1,h2,h3]
  exact no _ (by simp [yK,sizesB,this])
 by_cases h4:(120:Int) < p.exprs.length
 ·have:¬p.exprs.length≤120:=by omega
  simp only [go_sem,b1,h2,h3,h4]
  exact no _ (by simp [yK,this])
 by_cases h5:(40:Int) < p.stmts.length
 ·have:¬p.stmts.length≤40:=by omega
  simp only [go_sem,b1,h2,h3,h4,h5]
  exact no _ (by simp [yK,this])
 have h2':p.vars.length≤4:=by omega
 have h3':p.news.length≤2:=by omega
 have h4':p.exprs.length≤120:=by omega
 have h5':p.stmts.length≤40:=by omega
 have hR:yK p=(p.vars.all sizeB && (p.news.all sizeB && (exprsB p.vars.length p.exprs p.exprs.length && (p.stmts.all (stmtB p.vars.length p.news.length p.exprs) && standC p.stmts p.main)))):=by
  unfold yK sizesB; rw [h1,decide_eq_true h2',decide_eq_true h3',decide_eq_true h4',decide_eq_true h5']; simp [Bool.and_assoc]
 simp only [go_sem,b1,h2,h3,h4,h5]
 refine qQ kv ?_
 cases h6:p.vars.all sizeB
 ·simp only [go_sem]
  exact no _ (by rw [hR,h6]; rfl)
 simp only [go_sem,b1]
 refine qQ kn ?_
 cases h7:p.news.all sizeB
 ·simp only [go_sem]
  exact no _ (by rw [hR,h7]; simp)
 rw [h6,h7,Bool.true_and,Bool.true_and] at hR
 simp only [go_sem,b1]
 refine yX p.exprs.length (fun i σ' F' M'=>F=F'∧M1=M'∧Ax.look σ' 51=some (.int .i64 i)∧exprsB p.vars.length p.exprs i=true) ⟨rfl,rfl,(by simp only [go_sem, *] <;> rfl),rfl⟩ ?_
 rintro i σ F' M' hi hs ⟨rfl,rfl,q51,he⟩
 have q1:=hs 1 rfl
 have q3:=hs 3 rfl
 have q50:=hs 50 rfl
 simp only [go_sem] at q1 q3 q50
 clear hs
 by_cases hil:(i:Int) < p.exprs.length
 ·have hi1:i < p.exprs.length:=by omega
  have ei:IntKind.i64.wrap ((i:Int)+1)=i+1:=w64 (by omega) (by omega)
  have hsucc:=exprs_succ p.vars.length p.exprs hi1
  simp only [go_sem,b3,q3,q50,q51,hil]
  refine qQ (k99 F M1 p i hp old3 hi1) ?_
  cases hx:exprB p.vars.length p.exprs i p.exprs[i]
  ·simp only [go_sem]
   refine no _ ?_
   have:exprsB p.vars.length p.exprs p.exprs.length=false:=by
    unfold exprsB
    rw [List.all_eq_false]
    exact ⟨i,by simpa using hi1,by rw [List.getElem?_eq_getElem hi1]; simp [hx]⟩
   rw [hR,this]; rfl
  ·simp only [go_sem,q51,ei]
   exact ⟨hi1,rfl,rfl,(by simp only [go_sem, *] <;> rfl),by rw [hsucc,he,hx]; rfl⟩
 have hx:exprsB p.vars.length p.exprs p.exprs.length=true:=by
  have:i=p.exprs.length:=by omega
  rw [←this]; exact he
 rw [hx,Bool.true_and] at hR
 simp only [go_sem,b1,q1,q3,q50,q51,hil]
 refine qQ kst ?_
 cases h8:p.stmts.all (stmtB p.vars.length p.news.length p.exprs)
 ·simp only [go_sem]
  exact no _ (by rw [hR,h8]; rfl)
 rw [h8,Bool.true_and] at hR
 simp only [go_sem,b3,q3]
 refine qY (k103 F M1 p hp old3) ?_
 rintro u G M2 ⟨hG,hM2,w,rfl⟩
 rw [hG,hM2]
 refine ⟨(fun h=>by cases h),?_⟩
 by_cases h9:seatC p.stmts 6 p.main 0=some p.stmts.length
 ·have e9:decide (seatC p.stmts 6 p.main 0=some p.stmts.length)=true:=by rw [decide_eq_true h9]
  simp only [go_sem,e9,b3,q3]
  refine qQ (k104 F M1 p hp old3 (stand_in h9)) ?_
  simp only [go_sem]
  exact no _ (by rw [hR]; unfold standC; rw [decide_eq_true h9,Bool.true_and])
 ·have e9:decide (seatC p.stmts 6 p.main 0=some p.stmts.length)=false:=by rw [decide_eq_false h9]
  simp only [go_sem,e9]
  exact no _ (by rw [hR]; unfold standC; rw [decide_eq_false h9,Bool.false_and])
theorem k118 (p:Pg)(hp:p.rd F)(hold:Old F M):CallsA Tryz.prog 118 [p.val] F M (rowR 1 intC 3 (wJ p) F M):=by
 refine qZ hm Tryz.func118 e118 (Nat.le_of_ble_eq_true rfl) ?_
 have hfew:=hp.few
 simp only [c118,go_sem]
 intro r1 hF1 hM1
 simp only [go_sem]
 intro r3 hF3 hM3
 simp only [wW] at hM3
 simp only [go_sem,hM3]
 intro r8 hF8 hM8
 simp only [wW] at hM8
 have kp:Keep M (((M.upd r1 ⟨p.cs,28,7⟩).upd r3 ⟨[.int .i64 0],3,1⟩).upd r8 ⟨[.slice (some ⟨r3,0,none⟩) 1 1,.slice p.vA p.vars.length p.vC,.slice p.nA p.news.length p.nC],24,3⟩):=(by repeat' first | exact Keep.refl _ | (refine Keep.new ?_ (by simp only [*])))
 have old8:Old F (((M.upd r1 ⟨p.cs,28,7⟩).upd r3 ⟨[.int .i64 0],3,1⟩).upd r8 ⟨[.slice (some ⟨r3,0,none⟩) 1 1,.slice p.vA p.vars.length p.vC,.slice p.nA p.news.length p.nC],24,3⟩):=(by repeat' first | assumption | (refine Old.upd ?_ (by assumption)))
 simp only [go_sem]
 have b3:blk F (((M.upd r1 ⟨p.cs,28,7⟩).upd r3 ⟨[.int .i64 0],3,1⟩).upd r8 ⟨[.slice (some ⟨r3,0,none⟩) 1 1,.slice p.vA p.vars.length p.vC,.slice p.nA p.news.length p.nC],24,3⟩) r3=some [.int .i64 0]:=by simp only [go_sem,hM8]
 refine qY (k130 F _ (some ⟨r8,0,none⟩) 3 [(some ⟨r3,0,none⟩,1,[0]),(p.vA,p.vC,p.vars),(p.nA,p.nC,p.news)] old8 (gJ slC_len (by simp) (by simp) (by rw [wY]; simp [slC])) ?_ (by simp)) ?_
 ·intro y hy
  simp only [List.mem_cons,List.not_mem_nil,or_false] at hy
  rcases hy with rfl | rfl | rfl
  ·exact ⟨gJ wD (by simp) (by simp) (by rw [b3]; rfl),by simp,by simp⟩
  ·exact ⟨hp.vars _ old8,by simp only []; omega,hp.zero.1⟩
  ·exact ⟨hp.news _ old8,by simp only []; omega,hp.zero.2.1⟩
 rintro u G M2 hq
 have e2:([(some ⟨r3,0,none⟩,1,[0]),(p.vA,p.vC,p.vars),(p.nA,p.nC,p.news)]:List Lz).flatMap (·.2.2)=wJ p:=by simp [wJ]
 rw [e2] at hq
 obtain ⟨hG,_,_,_,aq,cq,rfl,rdq⟩:=hq.le wD (by simp [wJ]; omega)
 refine ⟨(fun h=>by cases h),?_⟩
 simp only [go_sem]
 exact hG ▸ hq.endK kp
theorem k30 (p:Pg)(hp:p.rd F)(hold:Old F M):CallsA Tryz.prog 30 [p.val] F M (rowR 1 intC 3 (wJ p) F M):=by
 refine qZ hm Tryz.func30 e30 (Nat.le_of_ble_eq_true rfl) ?_
 have hfew:=hp.few
 simp only [c30,go_sem]
 intro r1 hF1 hM1
 simp only [go_sem]
 intro r3 hF3 hM3
 simp only [wW] at hM3
 have kp1:Keep M (M.upd r1 ⟨p.cs,28,7⟩):=(Keep.refl M).new hM1
 have mine:yY 1 intC 3 F M ((M.upd r1 ⟨p.cs,28,7⟩).upd r3 ⟨[.int .i64 0],3,1⟩) (.slice (some ⟨r3,0,none⟩) 1 1) [0]:=yY.one (x:=(0:Int)) (f:=intC) hF3 hM3.2 rfl
 have kp3:Keep M ((M.upd r1 ⟨p.cs,28,7⟩).upd r3 ⟨[.int .i64 0],3,1⟩):=(by repeat' first | exact Keep.refl _ | (refine Keep.new ?_ (by simp only [*])))
 have old3:Old F ((M.upd r1 ⟨p.cs,28,7⟩).upd r3 ⟨[.int .i64 0],3,1⟩):=(by repeat' first | assumption | (refine Old.upd ?_ (by assumption)))
 simp only [go_sem]
 refine apMG_any (xs:=[0]) (ys:=p.vars) wD intC_plain (by decide) mine kp3 (RdG.src wD (hp.vars _ old3) hp.zero.1) (by simp; omega) ?_
 rintro v5 M5 hfr5 kp5 ho5 mine5
 have old5:=ho5 old3
 simp only [go_sem]
 refine apMG_any (xs:=[0]++p.vars) (ys:=p.news) wD intC_plain (by decide) mine5 kp5 (RdG.src wD (hp.news _ old5) hp.zero.2.1) (by simp; omega) ?_
 rintro v6 M6 hfr6 kp6 ho6 mine6
 obtain ⟨a6,c6,e6⟩:=mine6.shape
 simp only [go_sem]
 exact mine6.done kp6
def ixBy (l:List By)(p:By→Bool)(F0:Fz)(M0:Hp)(i:Nat)(σ:Env)(F:Fz)(M:Hp):Prop:=
 F0=F∧M0=M∧Ax.look σ 8=some (.int .i64 i)∧(l.take i).any p=false
theorem k257 (ad:Option Addr)(cap:Nat)(l:List By)(g:Nat)(ca:List Value)(p:By→Bool)(h:RdG 5 By.cs F M (.slice ad l.length cap) l)
  (hp:∀v∈l,CallsA Tryz.prog g ([v.val]++ca) F M (Same F M (.bool (p v)))) :
  CallsA Tryz.prog 257 [.slice ad l.length cap,.func (.func g) #[] ca.toArray] F M fun r F' M'=>F'=F∧M'=M∧((l.any p=false∧r=.int .i64 (-1))∨∃i:Nat,r=.int .i64 i∧∃hi:i < l.length,p l[i]=true∧(l.take i).any p=false):=by
 refine qZ hm Tryz.func257 e257 (Nat.le_of_ble_eq_true rfl) ?_
 simp only [c257,go_sem]
 refine yX l.length (ixBy l p F M) ⟨rfl,rfl,(by simp only [go_sem, *] <;> rfl),rfl⟩ ?_
 rintro i σ F' M' hi hs ⟨rfl,rfl,h8,ha⟩
 have s0:=hs 0 rfl
 have s1:=hs 1 rfl
 have s7:=hs 7 rfl
 simp only [go_sem] at s0 s1 s7
 clear hs
 by_cases hil:(i:Int) < l.length
 ·have hi0:(0:Int)≤i:=by omega
  have hil':i < l.length:=by omega
  have hle:=h.1
  have ei:IntKind.i64.wrap ((i:Int)+1)=i+1:=w64 (by omega) (by omega)
  have t1:=List.take_succ_eq_append_getElem hil'
  have hfin:p l[i]=true→(l.any p=false∧Value.int .i64 (i:Int)=.int .i64 (-1))∨∃j:Nat,Value.int .i64 (i:Int)=.int .i64 j∧∃hi:j < l.length,p l[j]=true∧(l.take j).any p=false:=fun hv=>.inr ⟨i,rfl,hil',hv,ha⟩
  obtain ⟨b,o,cs,rfl,hb,d1,d2⟩:=RdG.at h hil'
  have hq:=hp l[i] (List.getElem_mem _)
  generalize l[i]=v at *
  simp only [go_sem,s0,s1,s7,h8,hil,hi0,Int.toNat_natCast,hb,d1,d2]
  refine qQ hq ?_
  cases hv:p v
  ·simp only [go_sem,h8,ei]
   exact ⟨hil',rfl,rfl,(by simp only [go_sem, *] <;> rfl),by rw [t1,List.any_append,ha]; simp [hv]⟩
  ·simp only [go_sem]
   exact qW ⟨rfl,rfl,hfin hv⟩
 ·rw [List.take_of_length_le (by omega)] at ha
  simp only [go_sem,s7,h8,hil]
  exact qW ⟨rfl,rfl,.inl ⟨ha,rfl⟩⟩
theorem k213 (ad:Option Addr)(cap:Nat)(l:List By)(g:Nat)(ca:List Value)(p:By→Bool)(h:RdG 5 By.cs F M (.slice ad l.length cap) l)
  (hp:∀v∈l,CallsA Tryz.prog g ([v.val]++ca) F M (Same F M (.bool (p v)))) :
  CallsA Tryz.prog 213 [.slice ad l.length cap,.func (.func g) #[] ca.toArray] F M (Same F M (.bool (l.any p))):=by
 refine qZ hm Tryz.func213 e213 (Nat.le_of_ble_eq_true rfl) ?_
 simp only [c213,go_sem]
 refine qY (k257 F M ad cap l g ca p h hp) ?_
 rintro r G M' ⟨hG,hM,hz⟩
 rw [hG,hM]
 refine ⟨(fun h=>by cases h),?_⟩
 rcases hz with ⟨hz,rfl⟩ | ⟨i,rfl,hi,hz,_⟩
 ·simp only [go_sem]
  exact qW ⟨by rw [hz],rfl,rfl⟩
 ·have:l.any p=true:=List.any_eq_true.2 ⟨_,List.getElem_mem hi,hz⟩
  have hi0:(0:Int)≤i:=by omega
  simp only [go_sem,hi0]
  exact qW ⟨by rw [this],rfl,rfl⟩
def ixBl (l:List Bl)(p:Bl→Bool)(F0:Fz)(M0:Hp)(i:Nat)(σ:Env)(F:Fz)(M:Hp):Prop:=
 F0=F∧M0=M∧Ax.look σ 8=some (.int .i64 i)∧(l.take i).any p=false
theorem k254 (ad:Option Addr)(cap:Nat)(l:List Bl)(g:Nat)(ca:List Value)(p:Bl→Bool)(h:RdG 2 Bl.cs F M (.slice ad l.length cap) l)
  (hp:∀v∈l,CallsA Tryz.prog g ([v.val]++ca) F M (Same F M (.bool (p v)))) :
  CallsA Tryz.prog 254 [.slice ad l.length cap,.func (.func g) #[] ca.toArray] F M fun r F' M'=>F'=F∧M'=M∧((l.any p=false∧r=.int .i64 (-1))∨∃i:Nat,r=.int .i64 i∧∃hi:i < l.length,p l[i]=true∧(l.take i).any p=false):=by
 refine qZ hm Tryz.func254 e254 (Nat.le_of_ble_eq_true rfl) ?_
 simp only [c254,go_sem]
 refine yX l.length (ixBl l p F M) ⟨rfl,rfl,(by simp only [go_sem, *] <;> rfl),rfl⟩ ?_
 rintro i σ F' M' hi hs ⟨rfl,rfl,h8,ha⟩
 have s0:=hs 0 rfl
 have s1:=hs 1 rfl
 have s7:=hs 7 rfl
 simp only [go_sem] at s0 s1 s7
 clear hs
 by_cases hil:(i:Int) < l.length
 ·have hi0:(0:Int)≤i:=by omega
  have hil':i < l.length:=by omega
  have hle:=h.1
  have ei:IntKind.i64.wrap ((i:Int)+1)=i+1:=w64 (by omega) (by omega)
  have t1:=List.take_succ_eq_append_getElem hil'
  have hfin:p l[i]=true→(l.any p=false∧Value.int .i64 (i:Int)=.int .i64 (-1))∨∃j:Nat,Value.int .i64 (i:Int)=.int .i64 j∧∃hi:j < l.length,p l[j]=true∧(l.take j).any p=false:=fun hv=>.inr ⟨i,rfl,hil',hv,ha⟩
  obtain ⟨b,o,cs,rfl,hb,d1,d2⟩:=RdG.at h hil'
  have hq:=hp l[i] (List.getElem_mem _)
  generalize l[i]=v at *
  simp only [go_sem,s0,s1,s7,h8,hil,hi0,Int.toNat_natCast,hb,d1,d2]
  refine qQ hq ?_
  cases hv:p v
  ·simp only [go_sem,h8,ei]
   exact ⟨hil',rfl,rfl,(by simp only [go_sem, *] <;> rfl),by rw [t1,List.any_append,ha]; simp [hv]⟩
  ·simp only [go_sem]
   exact qW ⟨rfl,rfl,hfin hv⟩
 ·rw [List.take_of_length_le (by omega)] at ha
  simp only [go_sem,s7,h8,hil]
  exact qW ⟨rfl,rfl,.inl ⟨ha,rfl⟩⟩
theorem k210 (ad:Option Addr)(cap:Nat)(l:List Bl)(g:Nat)(ca:List Value)(p:Bl→Bool)(h:RdG 2 Bl.cs F M (.slice ad l.length cap) l)
  (hp:∀v∈l,CallsA Tryz.prog g ([v.val]++ca) F M (Same F M (.bool (p v)))) :
  CallsA Tryz.prog 210 [.slice ad l.length cap,.func (.func g) #[] ca.toArray] F M (Same F M (.bool (l.any p))):=by
 refine qZ hm Tryz.func210 e210 (Nat.le_of_ble_eq_true rfl) ?_
 simp only [c210,go_sem]
 refine qY (k254 F M ad cap l g ca p h hp) ?_
 rintro r G M' ⟨hG,hM,hz⟩
 rw [hG,hM]
 refine ⟨(fun h=>by cases h),?_⟩
 rcases hz with ⟨hz,rfl⟩ | ⟨i,rfl,hi,hz,_⟩
 ·simp only [go_sem]
  exact qW ⟨by rw [hz],rfl,rfl⟩
 ·have:l.any p=true:=List.any_eq_true.2 ⟨_,List.getElem_mem hi,hz⟩
  have hi0:(0:Int)≤i:=by omega
  simp only [go_sem,hi0]
  exact qW ⟨by rw [this],rfl,rfl⟩
theorem k256 (x:By):CallsA Tryz.prog 256 [x.val] F M (Same F M (.bool (byteB x))):=by
 refine qZ hm Tryz.func256 e256 (Nat.le_of_ble_eq_true rfl) ?_
 simp only [c256,go_sem]
 repeat' first
  | simp only [go_sem,Nat.add_zero, *]
  | (with_reducible first | apply cD | apply cN | apply cB | apply cO | apply tD | apply fD | apply tN | apply fN | apply tB | apply fB | apply tO | apply fO) <;> intro hc
  | (intro rx hFx hMx; (try simp only [wW] at hMx))
  | simp only [By.fold,go_sem, *]
  | with_reducible refine qQ (k287 _ _ _ _) ?_
 all_goals (refine qX (M:=M) (by repeat' first | exact Keep.refl _ | (refine Keep.new ?_ (by simp only [*]))) ⟨?_,rfl,rfl⟩)
 all_goals (obtain ⟨a,b,c,d,e⟩:=x; (refine congrArg Value.bool ?_; first | rfl | ((try simp only [Bool.and_eq_true,decide_eq_true_eq,Bool.and_eq_false_iff,decide_eq_false_iff_not] at *); rw [Bool.eq_iff_iff]; (try simp [byteB, *]); (try first | omega | (intros; omega) | (intros; exfalso; omega) | (simp_all; done) | (simp_all; omega)))))
theorem k255 (x:By):CallsA Tryz.prog 255 [x.val] F M (Same F M (.bool (!byteB x))):=by
 refine qZ hm Tryz.func255 e255 (Nat.le_of_ble_eq_true rfl) ?_
 simp only [c255,go_sem]
 repeat' first
  | simp only [go_sem, *]
  | (with_reducible first | apply cD | apply cN | apply cB | apply cO | apply tD | apply fD | apply tN | apply fN | apply tB | apply fB | apply tO | apply fO) <;> intro hc
  | (intro rx hFx hMx; (try simp only [wW] at hMx))
  | with_reducible refine qQ (k256 _ _ _) ?_
 all_goals (refine qX (M:=M) (by repeat' first | exact Keep.refl _ | (refine Keep.new ?_ (by simp only [*]))) ⟨?_,rfl,rfl⟩)
 all_goals rfl
theorem k212 (x:Bl)(h:x.rd F M)(hold:Old F M):CallsA Tryz.prog 212 [x.val] F M (Same F M (.bool (blockB x))):=by
 refine qZ hm Tryz.func212 e212 (Nat.le_of_ble_eq_true rfl) ?_
 have ez:decide ((0:Int) < x.l.length) = !decide (x.l.length=0):=by
  by_cases h:x.l.length=0
  ·simp [h]
  ·have:0 < x.l.length:=by omega
   simp [h,this]
 have e32:decide ((32:Int) < x.l.length) = !decide (x.l.length≤32):=by
  by_cases h:x.l.length≤32
  ·have:¬(32:Int) < x.l.length:=by omega
   simp [h,this]
  ·have:(32:Int) < x.l.length:=by omega
   simp [h,this]
 simp only [c212,go_sem]
 intro r1 hF1 hM1
 have h1:RdG 5 By.cs F (M.upd r1 ⟨x.cs,76,2⟩) (.slice x.lA x.l.length x.lC) x.l:=RdG.new h hF1 hM1
 have kc:=k213 F _ x.lA x.lC x.l _ [] (fun v=>!byteB v) h1 (fun v _=>k255 _ _ v)
 have e9:(x.l.any fun v=>!byteB v) = !x.l.all byteB:=(List.not_all_eq_any_not).symm
 rw [e9] at kc
 clear h hold h1 e9
 obtain ⟨z,hz⟩:∃z,z=decide (x.l.length=0):=⟨_,rfl⟩
 obtain ⟨y,hy⟩:∃y,y=decide (x.l.length≤32):=⟨_,rfl⟩
 have hR:blockB x=((decide (0≤x.st) && decide (x.st≤3)) && y && (decide (x.st=1) || z) && x.l.all byteB):=by rw [hy,hz]; rfl
 rw [hR]
 rw [←hz] at ez
 rw [←hy] at e32
 clear hz hy hR
 repeat' first
  | simp only [go_sem,Nat.add_zero, *]
  | (with_reducible first | apply cD | apply cN | apply cB | apply cO | apply tD | apply fD | apply tN | apply fN | apply tB | apply fB | apply tO | apply fO) <;> intro hc
  | (intro rx hFx hMx; (try simp only [wW] at hMx))
  | with_reducible refine qQ kc ?_
 all_goals (refine qX (M:=M) (by repeat' first | exact Keep.refl _ | (refine Keep.new ?_ (by simp only [*]))) ⟨?_,rfl,rfl⟩)
 all_goals clear kc
 all_goals (refine congrArg Value.bool ?_; first | rfl | ((try simp only [Bool.and_eq_true,Bool.or_eq_true,decide_eq_true_eq,Bool.and_eq_false_iff,Bool.or_eq_false_iff,decide_eq_false_iff_not,Bool.not_eq_true',Bool.not_eq_false',Bool.and_eq_false_imp] at *); rw [Bool.eq_iff_iff]; (try simp [*]); (try first | omega | (intros; omega) | (intros; exfalso; omega) | (simp_all; done) | (simp_all; omega))))
theorem k211 (x:Bl)(h:x.rd F M)(hold:Old F M):CallsA Tryz.prog 211 [x.val] F M (Same F M (.bool (!blockB x))):=by
 refine qZ hm Tryz.func211 e211 (Nat.le_of_ble_eq_true rfl) ?_
 simp only [c211,go_sem]
 intro r1 hF1 hM1
 simp only [go_sem]
 refine qQ (k212 F _ x (RdG.new h hF1 hM1) (hold.upd hF1)) ?_
 simp only [go_sem]
 exact qV hM1 (qW ⟨rfl,rfl,rfl⟩)
theorem k162 (a:Option Addr)(c:Nat)(m:List Bl)(h:RdG 2 Bl.cs F M (.slice a m.length c) m)(hb:∀x∈m,x.rd F M)(hold:Old F M) :
  CallsA Tryz.prog 162 [.slice a m.length c] F M (Same F M (.bool (memoryB m))):=by
 refine qZ hm Tryz.func162 e162 (Nat.le_of_ble_eq_true rfl) ?_
 have kc:=k210 F M a c m _ [] (fun v=>!blockB v) h (fun v hv=>k211 _ _ v (hb v hv) hold)
 have e9:(m.any fun v=>!blockB v) = !m.all blockB:=(List.not_all_eq_any_not).symm
 rw [e9] at kc
 by_cases h1:(m.length:Int) < 1
 ·have:¬1≤m.length:=by omega
  simp only [c162,go_sem,h1]
  exact qW ⟨by simp [memoryB,this],rfl,rfl⟩
 by_cases h2:(33:Int) < m.length
 ·have:¬m.length≤33:=by omega
  simp only [c162,go_sem,h1,h2]
  exact qW ⟨by simp [memoryB,this],rfl,rfl⟩
 have h1':1≤m.length:=by omega
 have h2':m.length≤33:=by omega
 have h0:(0:Int) < m.length:=by omega
 obtain ⟨b,o,cs,rfl,hb',rows⟩:=h.rows (by omega)
 obtain ⟨d1,d2⟩:=rows 0 (by omega)
 have d3:=(Bl.row d2).1
 have es:stAt m 0=m[0].st:=by unfold stAt; rw [List.getElem?_eq_getElem (by omega)]; rfl
 rw [Nat.zero_mul,Nat.add_zero] at d3
 have t0:Int.toNat 0=0:=rfl
 by_cases h3:m[0].st=0
 ·simp only [c162,go_sem,h1,h2,h0,hb',d3,h3,t0,Nat.zero_mul,Nat.add_zero]
  refine qQ kc ?_
  simp only [go_sem]
  exact qW ⟨by simp [memoryB,h1',h2',es,h3],rfl,rfl⟩
 ·simp only [c162,go_sem,h1,h2,h0,hb',d3,h3,t0,Nat.zero_mul,Nat.add_zero]
  exact qW ⟨by simp [memoryB,es,h3],rfl,rfl⟩
theorem k214 (x:By)(r3:Nat)(e3:Ent)(sa:Option Addr)(sc:Nat)(sz:List Int)(h3:M r3=some e3)(c3:e3.cells=[.slice sa sz.length sc])(hs:intR F M sa sc sz)(hx:byteB x=true) :
  CallsA Tryz.prog 214 [x.val,.pointer (some ⟨r3,0,none⟩)] F M (Same F M (.bool (!ptrIn sz x))):=by
 refine qZ hm Tryz.func214 e214 (Nat.le_of_ble_eq_true rfl) ?_
 have b3:=qG (F:=F) h3
 rw [c3] at b3
 by_cases h2:x.st=2
 rotate_left
 ·simp only [c214,go_sem]
  repeat' first
  | simp only [go_sem,Nat.add_zero, *]
  | (with_reducible first | apply cD | apply cN | apply cB | apply cO | apply tD | apply fD | apply tN | apply fN | apply tB | apply fB | apply tO | apply fO) <;> intro hc
  | (intro rx hFx hMx; (try simp only [wW] at hMx))
  all_goals (refine qX (M:=M) (by repeat' first | exact Keep.refl _ | (refine Keep.new ?_ (by simp only [*]))) ⟨?_,rfl,rfl⟩)
  all_goals simp [ptrIn,h2]
 obtain ⟨p1,p2,p3,p4,_⟩:=byteB_part hx h2
 by_cases hl:(sz.length:Int)≤x.b
 ·simp only [c214,go_sem]
  repeat' first
  | simp only [go_sem,yG,Option.isSome_some,Nat.add_zero, *]
  | (with_reducible first | apply cD | apply cN | apply cB | apply cO | apply tD | apply fD | apply tN | apply fN | apply tB | apply fB | apply tO | apply fO) <;> intro hc
  | (intro rx hFx hMx; (try simp only [wW] at hMx))
  all_goals (refine qX (M:=M) (by repeat' first | exact Keep.refl _ | (refine Keep.new ?_ (by simp only [*]))) ⟨?_,rfl,rfl⟩)
  all_goals simp [ptrIn,h2,hl]
 obtain ⟨i,hi⟩:=Int.eq_ofNat_of_zero_le (by omega:0≤x.b)
 have hil:i < sz.length:=by omega
 have hi0:(0:Int)≤i:=by omega
 have hil':(i:Int) < sz.length:=by omega
 have hl':¬(sz.length:Int)≤i:=by omega
 obtain ⟨b,o,cs,rfl,hb,d1⟩:=gH hs hil
 have es:=szAt_get hil
 generalize sz[i]=q at *
 clear hs
 simp only [c214,go_sem]
 repeat' first
  | simp only [go_sem,yG,Option.isSome_some,Int.toNat_natCast,Nat.add_zero, *]
  | (with_reducible first | apply cD | apply cN | apply cB | apply cO | apply tD | apply fD | apply tN | apply fN | apply tB | apply fB | apply tO | apply fO) <;> intro hc
  | (intro rx hFx hMx; (try simp only [wW] at hMx))
 all_goals (refine qX (M:=M) (by repeat' first | exact Keep.refl _ | (refine Keep.new ?_ (by simp only [*]))) ⟨?_,rfl,rfl⟩)
 all_goals simp [ptrIn, *]
theorem k163 (x:Bl)(sa:Option Addr)(sc:Nat)(sz:List Int)(hs:intR F M sa sc sz)(h:x.rd F M)(hb:∀y∈x.l,byteB y=true) :
  CallsA Tryz.prog 163 [x.val,.slice sa sz.length sc] F M (Same F M (.bool (x.l.all (ptrIn sz)))):=by
 refine qZ hm Tryz.func163 e163 (Nat.le_of_ble_eq_true rfl) ?_
 simp only [c163,go_sem]
 intro r2 hF2 hM2
 simp only [go_sem]
 intro r3 hF3 hM3
 simp only [wW] at hM3
 have s3:=(RdG.new hs hF2 hM2 (e:=⟨x.cs,76,2⟩)).new hF3 (by simp only [wW,not_false_eq_true,and_self, *]) (e:=⟨[.slice sa sz.length sc],24,1⟩)
 have h3:RdG 5 By.cs F ((M.upd r2 ⟨x.cs,76,2⟩).upd r3 ⟨[.slice sa sz.length sc],24,1⟩) (.slice x.lA x.l.length x.lC) x.l:=(RdG.new h hF2 hM2).new hF3 (by simp only [wW,not_false_eq_true,and_self, *])
 have kc:=k213 F _ x.lA x.lC x.l _ [.pointer (some ⟨r3,0,none⟩)] (fun v=>!ptrIn sz v) h3 (fun v hv=>k214 F _ v r3 _ sa sc sz (Hp.qJ _ _ _) rfl s3 (hb v hv))
 have e9:(x.l.any fun v=>!ptrIn sz v) = !x.l.all (ptrIn sz):=(List.not_all_eq_any_not).symm
 rw [e9] at kc
 clear h3 s3 h hs e9
 repeat' first
  | simp only [go_sem,yG,Option.isSome_some, *]
  | (with_reducible first | apply cD | apply cN | apply cB | apply cO | apply tD | apply fD | apply tN | apply fN | apply tB | apply fB | apply tO | apply fO) <;> intro hc
  | (intro rx hFx hMx; (try simp only [wW] at hMx))
  | with_reducible refine qQ kc ?_
 all_goals (refine qX (M:=M) (by repeat' first | exact Keep.refl _ | (refine Keep.new ?_ (by simp only [*]))) ⟨?_,rfl,rfl⟩)
 simp
theorem k107 (p:Pg)(a:Option Addr)(c:Nat)(m:List Bl)(hp:p.rd F)(hold:Old F M)(h:RdG 2 Bl.cs F M (.slice a m.length c) m)(hb:∀x∈m,x.rd F M) :
  CallsA Tryz.prog 107 [p.val,.slice a m.length c] F M (Same F M (.bool (memIn p m))):=by
 refine qZ hm Tryz.func107 e107 (Nat.le_of_ble_eq_true rfl) ?_
 have hfew:=hp.few
 have hsz:(wJ p).length=1+p.vars.length+p.news.length:=by simp [wJ]; omega
 simp only [c107,go_sem]
 intro r2 hF2 hM2
 simp only [go_sem]
 refine qY (k118 F _ p hp (hold.upd hF2)) ?_
 rintro u G M1 hq
 have f2:=(hq.le wD (by omega)).2.2.1 _ _ (Hp.qJ M r2 ⟨p.cs,28,7⟩)
 have kp1:Keep M M1:=(Keep.trans ((Keep.refl M).new hM2) (hq.le wD (by omega)).2.2.1)
 obtain ⟨hG,le,kq,oq,aq,cq,rfl,rdq⟩:=hq.le wD (by omega)
 rw [hG]
 refine ⟨(fun h=>by cases h),?_⟩
 have old1:=oq (hold.upd hF2)
 clear kq oq le hq hF2 hM2 hG
 have h1:=h.keep kp1 old1
 have hb1:∀x∈m,x.rd F M1:=fun x hx=>RdG.keep (hb x hx) kp1 old1
 have b2:=qG (F:=F) f2
 have no:∀v:Bool,memIn p m=v→endK F M1 (Same F M (.bool (memIn p m))) (.bool v):=fun v h=>qX kp1 ⟨by rw [h],rfl,rfl⟩
 simp only [go_sem]
 refine qQ (k162 F M1 a c m h1 hb1 old1) ?_
 cases hm:memoryB m
 ·simp only [go_sem]
  exact no _ (by simp [memIn,hm])
 by_cases hl:(m.length:Int)=(wJ p).length
 rotate_left
 ·have:¬m.length=(wJ p).length:=by omega
  simp only [go_sem,hl]
  exact no _ (by simp [memIn,this])
 have hl':m.length=(wJ p).length:=by omega
 have hR:memIn p m=okAll p.vars.length (wJ p) m m.length:=by simp [memIn,hm,hl']
 simp only [go_sem,hl]
 refine yX m.length (fun i σ' F' M'=>F=F'∧Keep M1 M'∧Old F M'∧Ax.look σ' 22=some (.int .i64 i)∧okAll p.vars.length (wJ p) m i=true) ⟨rfl,Keep.refl _,old1,(by simp only [go_sem, *] <;> rfl),rfl⟩ ?_
 rintro i σ F' M2 hi hs ⟨rfl,kp2,old2,q22,he⟩
 have q2:=hs 2 rfl
 have q5:=hs 5 rfl
 have q20:=hs 20 rfl
 have q21:=hs 21 rfl
 simp only [go_sem] at q2 q5 q20 q21
 clear hs
 have no2:∀v:Bool,memIn p m=v→∀M3,Keep M2 M3→endK F M3 (Same F M (.bool (memIn p m))) (.bool v):=fun v h M3 kp3=>qX ((kp1.trans kp2).trans kp3) ⟨by rw [h],rfl,rfl⟩
 by_cases hil:(i:Int) < m.length
 rotate_left
 ·have hx:i=m.length:=by omega
  rw [←hl] at q21
  simp only [go_sem,q21,q22,hil]
  exact no2 _ (by rw [hR,←hx,he]) _ (Keep.refl _)
 have hi0:(0:Int)≤i:=by omega
 have hi1:i < m.length:=by omega
 have hiz:i < (wJ p).length:=by omega
 have hil2:(i:Int) < (wJ p).length:=by omega
 have ei:IntKind.i64.wrap ((i:Int)+1)=i+1:=w64 (by omega) (by omega)
 obtain ⟨b,o,cs,ea,hb2,d1,d2⟩:=RdG.at (h1.keep kp2 old2) hi1
 have rz2:=rdq.keep kp2 old2
 obtain ⟨b',o',cs',ea',hb2',d3⟩:=gH rz2 hiz
 have es:=szAt_get hiz
 have hx2:m[i].rd F M2:=RdG.keep (hb1 _ (List.getElem_mem hi1)) kp2 old2
 have hbb:=blockB_bytes (memoryB_block hm (List.getElem_mem hi1))
 have hno:okBlk p.vars.length (wJ p) i m[i]=false→memIn p m=false:=fun h=>by rw [hR]; exact okAll_no hi1 hi1 h
 have hsucc:=okAll_succ (nv:=p.vars.length) (sz:=wJ p) hi1
 generalize m[i]=x at *
 have f2':=kp2 _ _ f2
 subst ea'
 clear f2 b2 h1 hb1 h hb
 simp only [go_sem,q20,q21,q22,hil,hil2,ea,hi0,Int.toNat_natCast,hb2,d1,d2]
 intro r7 hF7 hM7
 have n2:=qH hM7 f2'
 have nb':=ne_of_blk hb2' hF7 hM7
 have kp7:∀e,Keep M2 (M2.upd r7 e):=fun e=>(Keep.refl M2).new hM7
 have rz7:=rz2.keep (kp7 ⟨x.cs,76,2⟩) (old2.upd hF7)
 have hx7:x.rd F (M2.upd r7 ⟨x.cs,76,2⟩):=RdG.keep hx2 (kp7 _) (old2.upd hF7)
 have kptr:=k163 F _ x _ cq (wJ p) rz7 hx7 hbb
 have b2':=qG (F:=F) f2'
 generalize (wJ p)[i]=z at *
 have fin0:okBlk p.vars.length (wJ p) i x=false→endK F (M2.upd r7 ⟨x.cs,76,2⟩) (Same F M (.bool (memIn p m))) (.bool false):=fun h=>no2 _ (hno h) _ (kp7 _)
 have fin1:okBlk p.vars.length (wJ p) i x=true→∀σ',Ax.look σ' 22=some (.int .i64 ((i+1:Nat):Int))→Nxt (fun i σ' F' M'=>F=F'∧Keep M1 M'∧Old F M'∧Ax.look σ' 22=some (.int .i64 i)∧okAll p.vars.length (wJ p) m i=true) m.length i σ' F (M2.upd r7 ⟨x.cs,76,2⟩):=
  fun h σ' e=>⟨hi1,rfl,kp2.trans (kp7 _),old2.upd hF7,e,by rw [hsucc,he,h]; rfl⟩
 have hok:okBlk p.vars.length (wJ p) i x=(!(decide (x.st=1) && !decide ((x.l.length:Int)=z)) && !((decide (1≤(i:Int)) && decide ((i:Int)≤p.vars.length)) && !decide (x.st=1)) && x.l.all (ptrIn (wJ p))):=by
  unfold okBlk; rw [es]
 rw [hok] at fin0 fin1
 clear hsz hl hl' hno hsucc he hok no2 hR es hm hbb rz7 hx7 rz2 rdq kp2 kp1 kp7 old2 old1 hp hx2 no
 repeat' first
  | simp only [go_sem,yG,Option.isSome_some,Int.toNat_natCast,Nat.add_zero, *]
  | (with_reducible first | apply cD | apply cN | apply cB | apply cO | apply tD | apply fD | apply tN | apply fN | apply tB | apply fB | apply tO | apply fO) <;> intro hc
  | (intro rx hFx hMx; (try simp only [wW] at hMx))
  | simp only [Hp.wG,setH,go_sem, *]
  | with_reducible refine qQ kptr ?_
  | (refine fin0 ?_; clear fin0 fin1 kptr; simp [*]; done)
  | (refine fin1 ?_ _ (by simp only [go_sem, *] <;> rfl); clear fin0 fin1 kptr; simp [*]; done)
theorem k105 (p:Pg)(n:Int)(r2:Nat)(e2:Ent)(h2:M r2=some e2)(c2:e2.cells=p.cs) :
  CallsA Tryz.prog 105 [.int .i64 n,.pointer (some ⟨r2,0,none⟩)] F M (Same F M (.bool (inStmts p n))):=by
 refine qZ hm Tryz.func105 e105 (Nat.le_of_ble_eq_true rfl) ?_
 have b2:=qG (F:=F) h2
 rw [c2] at b2
 simp only [c105,go_sem]
 repeat' first
  | simp only [go_sem, *]
  | (with_reducible first | apply cD | apply cN | apply cB | apply cO | apply tD | apply fD | apply tN | apply fN | apply tB | apply fB | apply tO | apply fO) <;> intro hc
  | (intro rx hFx hMx; (try simp only [wW] at hMx))
 all_goals (refine qX (M:=M) (by repeat' first | exact Keep.refl _ | (refine Keep.new ?_ (by simp only [*]))) ⟨?_,rfl,rfl⟩)
 all_goals (refine congrArg Value.bool ?_; first | rfl | ((try simp only [Bool.and_eq_true,Bool.or_eq_true,decide_eq_true_eq,Bool.and_eq_false_iff,Bool.or_eq_false_iff,decide_eq_false_iff_not,Bool.not_eq_true',Bool.not_eq_false',Bool.and_eq_false_imp] at *); rw [Bool.eq_iff_iff]; (try simp [inStmts, *]); (try first | omega | (intros; omega) | (intros; exfalso; omega) | (simp_all; done) | (simp_all; omega))))
theorem k106 (p:Pg)(n:Int)(r2 r5:Nat)(e2 e5:Ent)(h2:M r2=some e2)(c2:e2.cells=p.cs)(h5:M r5=some e5)(c5:e5.cells=[.func (.func 105) #[] #[.pointer (some ⟨r2,0,none⟩)]]) :
  CallsA Tryz.prog 106 [.int .i64 n,.pointer (some ⟨r5,0,none⟩)] F M (Same F M (.bool (!inStmts p n))):=by
 refine qZ hm Tryz.func106 e106 (Nat.le_of_ble_eq_true rfl) ?_
 have b5:=qG (F:=F) h5
 rw [c5] at b5
 simp only [c106,go_sem,b5]
 refine qQ (k105 F M p n r2 e2 h2 c2) ?_
 simp only [go_sem]
 exact qW ⟨rfl,rfl,rfl⟩
theorem k59 (p:Pg)(s:Ste)(hp:p.rd F)(hold:Old F M)(hs:s.rd F M):CallsA Tryz.prog 59 [p.val,s.val] F M (Same F M (.bool (stateB p s))):=by
 refine qZ hm Tryz.func59 e59 (Nat.le_of_ble_eq_true rfl) ?_
 simp only [c59,go_sem]
 intro r2 hF2 hM2
 simp only [go_sem]
 intro r3 hF3 hM3
 simp only [wW] at hM3
 simp only [go_sem]
 intro r5 hF5 hM5
 simp only [wW] at hM5
 have pl:wZ [.func (.func 105) #[] #[.pointer (some ⟨r2,0,none⟩)]]=True:=by
  apply eq_true
  intro u hu
  simp only [List.mem_cons,List.not_mem_nil,or_false] at hu
  subst hu; rfl
 simp only [setH,Hp.wG,go_sem,pl]
 have f2:(((M.upd r2 ⟨p.cs,28,7⟩).upd r3 ⟨s.cs,42,5⟩).upd r5 ⟨[.func (.func 105) #[] #[.pointer (some ⟨r2,0,none⟩)]],94,1⟩) r2=some ⟨p.cs,28,7⟩:=by
  simp only [Hp.qK,Hp.qJ,hM3,hM5,not_false_eq_true]
 have f3:(((M.upd r2 ⟨p.cs,28,7⟩).upd r3 ⟨s.cs,42,5⟩).upd r5 ⟨[.func (.func 105) #[] #[.pointer (some ⟨r2,0,none⟩)]],94,1⟩) r3=some ⟨s.cs,42,5⟩:=by
  simp only [Hp.qK,Hp.qJ,hM5,not_false_eq_true]
 have f5:(((M.upd r2 ⟨p.cs,28,7⟩).upd r3 ⟨s.cs,42,5⟩).upd r5 ⟨[.func (.func 105) #[] #[.pointer (some ⟨r2,0,none⟩)]],94,1⟩) r5=some ⟨[.func (.func 105) #[] #[.pointer (some ⟨r2,0,none⟩)]],94,1⟩:=Hp.qJ _ _ _
 have kp:Keep M (((M.upd r2 ⟨p.cs,28,7⟩).upd r3 ⟨s.cs,42,5⟩).upd r5 ⟨[.func (.func 105) #[] #[.pointer (some ⟨r2,0,none⟩)]],94,1⟩):=(by repeat' first | exact Keep.refl _ | (refine Keep.new ?_ (by simp only [*])))
 have old5:Old F (((M.upd r2 ⟨p.cs,28,7⟩).upd r3 ⟨s.cs,42,5⟩).upd r5 ⟨[.func (.func 105) #[] #[.pointer (some ⟨r2,0,none⟩)]],94,1⟩):=(by repeat' first | assumption | (refine Old.upd ?_ (by assumption)))
 generalize ((M.upd r2 ⟨p.cs,28,7⟩).upd r3 ⟨s.cs,42,5⟩).upd r5 ⟨[.func (.func 105) #[] #[.pointer (some ⟨r2,0,none⟩)]],94,1⟩=M1 at *
 have s1:=hs.keep kp old5
 have b2:=qG (F:=F) f2
 have b3:=qG (F:=F) f3
 have b5:=qG (F:=F) f5
 have kn:=k98 F M1 s.nextA s.nextC s.next _ [.pointer (some ⟨r5,0,none⟩)] (fun v=>!inStmts p v) s1.next (fun v hv=>k106 F M1 p v r2 r5 _ _ f2 rfl f5 rfl)
 have e9:(s.next.any fun v=>!inStmts p v) = !s.next.all (inStmts p):=(List.not_all_eq_any_not).symm
 rw [e9] at kn
 have k1:=fun n=>k105 F M1 p n r2 _ f2 rfl
 have km:=k107 F M1 p s.blocksA s.blocksC s.blocks hp old5 s1.blocks s1.bytes
 have eA:decide (Al.mk s.p s.w=⟨0,0⟩)=(decide (s.p=0) && decide (s.w=0)):=by simp
 clear e9 s1 old5 f2 f3 f5 pl hs hold hp hM2 hM3 hM5 hF2 hF3 hF5
 repeat' first
  | simp only [go_sem,Nat.add_zero, *]
  | (with_reducible first | apply cD | apply cN | apply cB | apply cO | apply tD | apply fD | apply tN | apply fN | apply tB | apply fB | apply tO | apply fO) <;> intro hc
  | (intro rx hFx hMx; (try simp only [wW] at hMx))
  | simp only [Al.fold,go_sem, *]
  | with_reducible refine qQ kn ?_
  | with_reducible refine qQ (k1 _) ?_
  | with_reducible refine qQ km ?_
 all_goals (refine qX kp ⟨?_,rfl,rfl⟩)
 all_goals clear kn k1 km
 all_goals (refine congrArg Value.bool ?_; first | rfl | ((try simp only [Bool.and_eq_true,decide_eq_true_eq,Bool.and_eq_false_iff,decide_eq_false_iff_not] at *); rw [Bool.eq_iff_iff]; (try simp [stateB,alarmB, *]); (try first | omega | (intros; omega) | (intros; exfalso; omega) | (simp_all; done) | (simp_all; omega))))
def pairV (p:Int × Int):Value:=.tuple #[.int .i64 p.1,.int .i64 p.2]
theorem k281 (op k a u v:Int)(hk:isK k=true)(hop:op=16∨op=17)(a0:0≤a)(a1:a≤wH (ofW k)) :
  CallsA Tryz.prog 281 [.int .i64 op,.int .i64 k,.int .i64 a,.int .i64 u,.int .i64 v] F M (Same F M (pairV (shiftK op k a u v))):=by
 refine qZ hm Tryz.func281 e281 (Nat.le_of_ble_eq_true rfl) ?_
 have kd:=kinds hk
 have ow:=ofW_most k
 have lw:=gQ (gZ k)
 simp only [c281,go_sem]
 refine qQ (k74 F _ k hk) ?_
 by_cases h1:v < 0
 ·simp only [go_sem,h1]
  exact qW ⟨by simp [pairV,shiftK,h1],rfl,rfl⟩
 by_cases h2:ofW k≤v
 ·simp only [go_sem,h1,h2]
  exact qW ⟨by simp [pairV,shiftK,h2],rfl,rfl⟩
 have e1:=shl_in (a:=a) (v:=v) a0 (by omega) (by omega) (by omega)
 have e2:=shr_any (u:=u) (v:=v) (by omega) (by omega)
 have dv:shiftK op k a u v=((if op=16 then a * 2 ^ v.toNat else u / 2 ^ v.toNat) % 2 ^ (ofW k).toNat,0):=by unfold shiftK; rw [if_neg (by omega)]
 rw [dv]
 rcases hop with rfl | rfl
 ·simp only [go_sem,h1,h2,e1,not_false_eq_true]
  refine qQ (k246 F _ _ _ lw.1 lw.2) ?_
  simp only [go_sem]
  exact qW ⟨rfl,rfl,rfl⟩
 ·simp only [go_sem,h1,h2,e2,not_false_eq_true]
  refine qQ (k246 F _ _ _ lw.1 lw.2) ?_
  simp only [go_sem]
  exact qW ⟨rfl,rfl,rfl⟩
theorem k238 (op k:Int)(hk:isK k=true):CallsA Tryz.prog 238 [.int .i64 op,.int .i64 k] F M (Same F M (.int .i64 (ansW op k))):=by
 refine qZ hm Tryz.func238 e238 (Nat.le_of_ble_eq_true rfl) ?_
 by_cases h1:op=18
 ·simp only [c238,go_sem,h1]
  exact qW ⟨by simp [ansW],rfl,rfl⟩
 by_cases h2:op=19
 ·simp only [c238,go_sem,h2]
  exact qW ⟨by simp [ansW],rfl,rfl⟩
 by_cases h3:op=7
 ·simp only [c238,go_sem,h3]
  exact qW ⟨by simp [ansW],rfl,rfl⟩
 simp only [c238,go_sem,h1,h2,h3]
 refine qQ (k74 F _ k hk) ?_
 simp only [go_sem]
 exact qW ⟨by simp [ansW,h1,h2,h3],rfl,rfl⟩
theorem gH {F:Fz}{M:Hp}{u:Value}{l:List Int}(h:RdG 1 intC F M u l){i:Nat}(hi:i < l.length):∃b o cap cs,u=.slice (some ⟨b,o,none⟩) l.length cap∧blk F M b=some cs∧cs[o+i]? = some (.int .i64 l[i]):=by
 obtain ⟨_,ad,cap,_,rfl,h⟩:=h
 rcases h with h | ⟨b,o,cs,rfl,hb,hc⟩
 ·rw [h] at hi; simp at hi
 ·have:=one_row (hc i hi).2
  rw [Nat.mul_one] at this
  exact ⟨b,o,cap,cs,rfl,hb,this⟩
theorem int_shape {F:Fz}{M:Hp}{u:Value}{l:List Int}(h:RdG 1 intC F M u l):∃a c,u=.slice a l.length c:=by
 obtain ⟨_,ad,cap,_,rfl,h⟩:=h
 exact ⟨_,_,rfl⟩
def ixZ (l:List Int)(n:Int)(u:Value)(F0:Fz)(M0:Hp)(m:Nat)(σ:Env)(F:Fz)(M:Hp):Prop:=
 F=F0∧M=M0∧Ax.look σ 0=some u∧Ax.look σ 1=some (.int .i64 n)∧Ax.look σ 7=some (.int .i64 l.length)∧∃i:Nat,i+m=l.length∧Ax.look σ 8=some (.int .i64 i)∧n ∉ l.take i
theorem k202 (u:Value)(l:List Int)(n:Int)(h:RdG 1 intC F M u l) :
  CallsA Tryz.prog 202 [u,.int .i64 n] F M fun r F' M'=>F'=F∧M'=M∧∃z:Int,r=.int .i64 z∧(0≤z↔n∈l):=by
 refine qZ hm Tryz.func202 e202 (Nat.le_of_ble_eq_true rfl) ?_
 have hl:=h.1
 obtain ⟨a,c,hu⟩:=int_shape h
 rw [hu]
 simp only [c202,go_sem]
 refine loop_of (ixZ l n (.slice a l.length c) F M) l.length ?_ ?_
 ·exact ⟨rfl,rfl,by simp only [go_sem],by simp only [go_sem],by simp only [go_sem],0,by omega,by simp only [go_sem] <;> rfl,by simp⟩
 rintro m σ F' M' ⟨rfl,rfl,h0,h1,h7,i,hi,h8,hn⟩
 by_cases hil:(i:Int) < l.length
 ·have hi0:(0:Int)≤i:=by omega
  have hil':i < l.length:=by omega
  have ei:IntKind.i64.wrap ((i:Int)+1)=i+1:=w64 (by omega) (by omega)
  obtain ⟨b,o,cap,cs,e,hb,hg⟩:=gH h hil'
  rw [hu] at e
  cases e
  by_cases hq:n=l[i]
  ·simp only [go_sem,h0,h1,h7,h8,hil,hi0,Int.toNat_natCast,Nat.mul_one,hb,hg,hq]
   exact qW ⟨rfl,rfl,_,rfl,by rw [hq] at *; simp [hi0]⟩
  ·simp only [go_sem,h0,h1,h7,h8,hil,hi0,Int.toNat_natCast,Nat.mul_one,hb,hg,hq,ei]
   refine ⟨m - 1,by omega,rfl,rfl,by simp only [go_sem,h0],by simp only [go_sem,h1],by simp only [go_sem,h7],i+1,by omega,by simp only [go_sem]; rfl,?_⟩
   rw [List.take_succ_eq_append_getElem hil']
   simp only [List.mem_append,List.mem_singleton,not_or]
   exact ⟨hn,hq⟩
 ·have:l.take i=l:=List.take_of_length_le (by omega)
  rw [this] at hn
  simp only [go_sem,h7,h8,hil]
  exact qW ⟨rfl,rfl,-1,rfl,by simp [hn]⟩
theorem k145 (u:Value)(l:List Int)(n:Int)(h:RdG 1 intC F M u l) :
  CallsA Tryz.prog 145 [u,.int .i64 n] F M (Same F M (.bool (decide (n∈l)))):=by
 refine qZ hm Tryz.func145 e145 (Nat.le_of_ble_eq_true rfl) ?_
 simp only [c145,go_sem]
 refine qY (k202 F M u l n h) ?_
 rintro r G M' ⟨hG,rfl,z,rfl,hz⟩
 rw [hG]
 refine ⟨(fun h=>by cases h),?_⟩
 simp only [go_sem]
 exact qW ⟨by simp only [hz],rfl,rfl⟩
theorem k217 (x:Int):CallsA Tryz.prog 217 [.int .i64 x] F M (Same F M (.bool false)):=by
 refine qZ hm Tryz.func217 e217 (Nat.le_of_ble_eq_true rfl) ?_
 simp only [c217,go_sem]
 exact qW ⟨by simp,rfl,rfl⟩
theorem k227 (x y:Int):CallsA Tryz.prog 227 [.int .i64 x,.int .i64 y] F M (Same F M (.bool (decide (x < y)))):=by
 refine qZ hm Tryz.func227 e227 (Nat.le_of_ble_eq_true rfl) ?_
 simp only [c227,go_sem]
 refine qQ (k217 F M x) ?_
 simp only [go_sem]
 exact qW ⟨rfl,rfl,rfl⟩
theorem span_size {ptr k:Int}(h0:¬k=0)(h11:¬k=11):wX ptr k=sizeK ptr k:=by
 unfold wX sizeK; rw [if_neg (by omega)]
theorem k129 (big:Bool)(ptr k:Int)(hk:k=0∨k=11∨isS k=true):CallsA Tryz.prog 129 [.agg #[.bool big,.int .i64 ptr],.int .i64 k] F M (Same F M (.int .i64 (wX ptr k))):=by
 refine qZ hm Tryz.func129 e129 (Nat.le_of_ble_eq_true rfl) ?_
 by_cases h0:k=0
 ·simp only [c129,go_sem]
  repeat' first
  | simp only [go_sem, *]
  | (with_reducible first | apply cD | apply cN | apply cB | apply cO | apply tD | apply fD | apply tN | apply fN | apply tB | apply fB | apply tO | apply fO) <;> intro hc
  | (intro rx hFx hMx; (try simp only [wW] at hMx))
  all_goals (refine qX (M:=M) (by repeat' first | exact Keep.refl _ | (refine Keep.new ?_ (by simp only [*]))) ⟨?_,rfl,rfl⟩)
  all_goals simp_all [wX]
 by_cases h11:k=11
 ·simp only [c129,go_sem]
  repeat' first
  | simp only [go_sem, *]
  | (with_reducible first | apply cD | apply cN | apply cB | apply cO | apply tD | apply fD | apply tN | apply fN | apply tB | apply fB | apply tO | apply fO) <;> intro hc
  | (intro rx hFx hMx; (try simp only [wW] at hMx))
  all_goals (refine qX (M:=M) (by repeat' first | exact Keep.refl _ | (refine Keep.new ?_ (by simp only [*]))) ⟨?_,rfl,rfl⟩)
  all_goals simp_all [wX]
 have hs:isS k=true:=by
  rcases hk with h | h | h
  ·exact absurd h h0
  ·exact absurd h h11
  ·exact h
 simp only [c129,go_sem]
 repeat' first
  | simp only [go_sem, *]
  | (with_reducible first | apply cD | apply cN | apply cB | apply cO | apply tD | apply fD | apply tN | apply fN | apply tB | apply fB | apply tO | apply fO) <;> intro hc
  | (intro rx hFx hMx; (try simp only [wW] at hMx))
  | with_reducible refine qQ (k173 _ _ _ _ _ hs) ?_
 all_goals (refine qX (M:=M) (by repeat' first | exact Keep.refl _ | (refine Keep.new ?_ (by simp only [*]))) ⟨?_,rfl,rfl⟩)
 rw [span_size h0 h11]
theorem k62 (p:Pg)(k:Int):CallsA Tryz.prog 62 [p.val,.int .i64 k] F M (Same F M (.int .i64 (wX p.ptr k))):=by
 refine qZ hm Tryz.func62 e62 (Nat.le_of_ble_eq_true rfl) ?_
 by_cases h0:k=0
 ·simp only [c62,go_sem]
  repeat' first
  | simp only [go_sem, *]
  | (with_reducible first | apply cD | apply cN | apply cB | apply cO | apply tD | apply fD | apply tN | apply fN | apply tB | apply fB | apply tO | apply fO) <;> intro hc
  | (intro rx hFx hMx; (try simp only [wW] at hMx))
  all_goals (refine qX (M:=M) (by repeat' first | exact Keep.refl _ | (refine Keep.new ?_ (by simp only [*]))) ⟨?_,rfl,rfl⟩)
  all_goals simp_all [wX]
 by_cases h11:k=11
 ·simp only [c62,go_sem]
  repeat' first
  | simp only [go_sem, *]
  | (with_reducible first | apply cD | apply cN | apply cB | apply cO | apply tD | apply fD | apply tN | apply fN | apply tB | apply fB | apply tO | apply fO) <;> intro hc
  | (intro rx hFx hMx; (try simp only [wW] at hMx))
  all_goals (refine qX (M:=M) (by repeat' first | exact Keep.refl _ | (refine Keep.new ?_ (by simp only [*]))) ⟨?_,rfl,rfl⟩)
  all_goals simp_all [wX]
 simp only [c62,go_sem]
 repeat' first
  | simp only [go_sem,Nat.add_zero, *]
  | (with_reducible first | apply cD | apply cN | apply cB | apply cO | apply tD | apply fD | apply tN | apply fN | apply tB | apply fB | apply tO | apply fO) <;> intro hc
  | (intro rx hFx hMx; (try simp only [wW] at hMx))
  | with_reducible refine qQ (k48 _ _ _ _ _) ?_
 all_goals (refine qX (M:=M) (by repeat' first | exact Keep.refl _ | (refine Keep.new ?_ (by simp only [*]))) ⟨?_,rfl,rfl⟩)
 rw [span_size h0 h11]
theorem k77 (x:Ba)(n:Int)(r3:Nat)(e3:Ent)(h3:M r3=some e3)(c3:e3.cells=[.int .i64 n]):CallsA Tryz.prog 77 [x.val,.pointer (some ⟨r3,0,none⟩)] F M (Same F M (.bool (!decide (x.b≤n)))):=by
 refine qZ hm Tryz.func77 e77 (Nat.le_of_ble_eq_true rfl) ?_
 have b3:=qG (F:=F) h3
 rw [c3] at b3
 simp only [c77,go_sem]
 repeat' first
  | simp only [go_sem,yG,Option.isSome_some,Nat.add_zero, *]
  | (with_reducible first | apply cD | apply cN | apply cB | apply cO | apply tD | apply fD | apply tN | apply fN | apply tB | apply fB | apply tO | apply fO) <;> intro hc
  | (intro rx hFx hMx; (try simp only [wW] at hMx))
 all_goals (refine qX (M:=M) (by repeat' first | exact Keep.refl _ | (refine Keep.new ?_ (by simp only [*]))) ⟨?_,rfl,rfl⟩)
 all_goals (refine congrArg Value.bool ?_; first | rfl | ((try simp only [Bool.and_eq_true,Bool.or_eq_true,decide_eq_true_eq,Bool.and_eq_false_iff,Bool.or_eq_false_iff,decide_eq_false_iff_not,Bool.not_eq_true',Bool.not_eq_false',Bool.and_eq_false_imp] at *); rw [Bool.eq_iff_iff]; (try simp [*]); (try first | omega | (intros; omega) | (intros; exfalso; omega) | (simp_all; done) | (simp_all; omega))))
theorem k41 (a:Option Addr)(c:Nat)(l:List Ba)(n:Int)(h:RdG 7 Ba.cs F M (.slice a l.length c) l):CallsA Tryz.prog 41 [.slice a l.length c,.int .i64 n] F M (Same F M (.bool (knownB l n))):=by
 refine qZ hm Tryz.func41 e41 (Nat.le_of_ble_eq_true rfl) ?_
 simp only [c41,go_sem]
 intro r3 hF3 hM3
 have h3:RdG 7 Ba.cs F (M.upd r3 ⟨[.int .i64 n],3,1⟩) (.slice a l.length c) l:=RdG.new h hF3 hM3
 have kc:=k76 F _ (.slice a l.length c) l _ [.pointer (some ⟨r3,0,none⟩)] (fun x=>!decide (x.b≤n)) h3 (fun v _=>k77 F _ v n r3 _ (Hp.qJ _ _ _) rfl)
 have e9:(l.any fun x=>!decide (x.b≤n)) = !knownB l n:=(List.not_all_eq_any_not).symm
 rw [e9] at kc
 clear h3 h e9
 repeat' first
  | simp only [go_sem, *]
  | (with_reducible first | apply cD | apply cN | apply cB | apply cO | apply tD | apply fD | apply tN | apply fN | apply tB | apply fB | apply tO | apply fO) <;> intro hc
  | (intro rx hFx hMx; (try simp only [wW] at hMx))
  | with_reducible refine qQ kc ?_
 all_goals (refine qX (M:=M) (by repeat' first | exact Keep.refl _ | (refine Keep.new ?_ (by simp only [*]))) ⟨?_,rfl,rfl⟩)
 simp
theorem k167 (c:Cl)(h:c.rd F M):CallsA Tryz.prog 167 [c.val] F M (Same F M (.bool (yD c.pc))):=by
 refine qZ hm Tryz.func167 e167 (Nat.le_of_ble_eq_true rfl) ?_
 simp only [c167,go_sem]
 intro r1 hF1 hM1
 have h1:RdG 7 Ba.cs F (M.upd r1 ⟨c.cs,84,10⟩) (.slice c.lA c.l.length c.lC) c.l:=RdG.new h hF1 hM1
 have k1:=k73 F (M.upd r1 ⟨c.cs,84,10⟩) c.v
 have k2:=k75 F (M.upd r1 ⟨c.cs,84,10⟩) _ _ h1
 have k3:=k40 F (M.upd r1 ⟨c.cs,84,10⟩) c.k c.v _ _ h1
 have k4:=k39 F (M.upd r1 ⟨c.cs,84,10⟩) c.k
 have ez:((c.l.length:Int)=0)=(c.l.length=0):=by
  apply propext; omega
 have e0:V.mk 0 false 0 0 0 0=V.zero:=rfl
 clear h h1
 obtain ⟨n,hn⟩:∃n,n=decide (c.l.length=0):=⟨_,rfl⟩
 have hR:yD c.pc=(if c.k=0 then decide (c.v=V.zero) && n else if c.k=11 then c.v.ok && decide (c.v.w=8) && jG c.l else isS c.k && absB c.k c.v c.l):=by rw [hn]; rfl
 have en:decide ((c.l.length:Int)=0)=n:=by rw [hn]; exact decide_eq_decide.2 (by omega)
 clear hn ez
 rw [hR]
 clear hR
 by_cases q0:c.k=0
 ·rw [if_pos q0]
  repeat' first
  | simp only [go_sem,Nat.add_zero, *]
  | (with_reducible first | apply cD | apply cN | apply cB | apply cO | apply tD | apply fD | apply tN | apply fN | apply tB | apply fB | apply tO | apply fO) <;> intro hc
  | (intro rx hFx hMx; (try simp only [wW] at hMx))
   | simp only [e0,go_sem, *]
  all_goals (refine qX (M:=M) (by repeat' first | exact Keep.refl _ | (refine Keep.new ?_ (by simp only [*]))) ⟨?_,rfl,rfl⟩)
  all_goals (refine congrArg Value.bool ?_; first | rfl | ((try simp only [Bool.and_eq_true,Bool.or_eq_true,decide_eq_true_eq,Bool.and_eq_false_iff,Bool.or_eq_false_iff,decide_eq_false_iff_not,Bool.not_eq_true',Bool.not_eq_false',Bool.and_eq_false_imp] at *); rw [Bool.eq_iff_iff]; (try simp [*]); (try first | omega | (intros; omega) | (intros; exfalso; omega) | (simp_all; done) | (simp_all; omega))))
 by_cases q1:c.k=11
 ·rw [if_neg q0,if_pos q1]
  clear k3
  repeat' first
  | simp only [go_sem,Nat.add_zero, *]
  | (with_reducible first | apply cD | apply cN | apply cB | apply cO | apply tD | apply fD | apply tN | apply fN | apply tB | apply fB | apply tO | apply fO) <;> intro hc
  | (intro rx hFx hMx; (try simp only [wW] at hMx))
   | with_reducible refine qQ k1 ?_
   | with_reducible refine qQ k2 ?_
  all_goals (refine qX (M:=M) (by repeat' first | exact Keep.refl _ | (refine Keep.new ?_ (by simp only [*]))) ⟨?_,rfl,rfl⟩)
  all_goals clear k1 k2
  all_goals (refine congrArg Value.bool ?_; first | rfl | ((try simp only [Bool.and_eq_true,Bool.or_eq_true,decide_eq_true_eq,Bool.and_eq_false_iff,Bool.or_eq_false_iff,decide_eq_false_iff_not,Bool.not_eq_true',Bool.not_eq_false',Bool.and_eq_false_imp] at *); rw [Bool.eq_iff_iff]; (try simp [*]); (try first | omega | (intros; omega) | (intros; exfalso; omega) | (simp_all; done) | (simp_all; omega))))
 rw [if_neg q0,if_neg q1]
 repeat' first
  | simp only [go_sem, *]
  | (with_reducible first | apply cD | apply cN | apply cB | apply cO | apply tD | apply fD | apply tN | apply fN | apply tB | apply fB | apply tO | apply fO) <;> intro hc
  | (intro rx hFx hMx; (try simp only [wW] at hMx))
  | with_reducible refine qQ k3 ?_
  | with_reducible refine qQ k4 ?_
 all_goals (refine qX (M:=M) (by repeat' first | exact Keep.refl _ | (refine Keep.new ?_ (by simp only [*]))) ⟨?_,rfl,rfl⟩)
 all_goals clear k1 k2 k3 k4
 all_goals (refine congrArg Value.bool ?_; first | rfl | ((try simp only [Bool.and_eq_true,Bool.or_eq_true,decide_eq_true_eq,Bool.and_eq_false_iff,Bool.or_eq_false_iff,decide_eq_false_iff_not,Bool.not_eq_true',Bool.not_eq_false',Bool.and_eq_false_imp] at *); rw [Bool.eq_iff_iff]; (try simp [*]); (try first | omega | (intros; omega) | (intros; exfalso; omega) | (simp_all; done) | (simp_all; omega))))
theorem k169 (x y:Int):CallsA Tryz.prog 169 [.int .i64 x,.int .i64 y] F M (Same F M (.int .i64 (cmpV x y))):=by
 refine qZ hm Tryz.func169 e169 (Nat.le_of_ble_eq_true rfl) ?_
 unfold cmpV
 simp only [c169,go_sem]
 refine qQ (k217 _ _ x) ?_
 simp only [go_sem]
 refine qQ (k217 _ _ y) ?_
 repeat' first
  | simp only [go_sem, *]
  | (with_reducible first | apply cD | apply cN | apply cB | apply cO | apply tD | apply fD | apply tN | apply fN | apply tB | apply fB | apply tO | apply fO) <;> intro hc
  | (intro rx hFx hMx; (try simp only [wW] at hMx))
 all_goals (refine qX (M:=M) (by repeat' first | exact Keep.refl _ | (refine Keep.new ?_ (by simp only [*]))) ⟨?_,rfl,rfl⟩)
 all_goals simp [*]
theorem k168 (a:Option Addr)(c:Nat)(l:List Int)(h:intR F M a c l):CallsA Tryz.prog 168 [.slice a l.length c] F M (Same F M (.int .i64 (orV l))):=by
 refine qZ hm Tryz.func168 e168 (Nat.le_of_ble_eq_true rfl) ?_
 have hl:=h.1
 simp only [c168,go_sem]
 refine yX l.length (fun i σ F' M'=>F=F'∧M=M'∧Ax.look σ 8=some (.int .i64 i)∧orV l=orV (l.drop i)) ⟨rfl,rfl,(by simp only [go_sem, *] <;> rfl),rfl⟩ ?_
 rintro i σ F' M' hi hs ⟨rfl,rfl,h8,he⟩
 have s0:=hs 6 rfl
 have s7:=hs 7 rfl
 have s3:=hs 3 rfl
 simp only [go_sem] at s0 s7 s3
 clear hs
 by_cases hil:(i:Int) < l.length
 rotate_left
 ·rw [List.drop_eq_nil_of_le (by omega)] at he
  simp only [go_sem,s3,s7,h8,hil]
  exact qW ⟨by rw [he]; rfl,rfl,rfl⟩
 have hi0:(0:Int)≤i:=by omega
 have hi1:i < l.length:=by omega
 have ei:IntKind.i64.wrap ((i:Int)+1)=i+1:=w64 (by omega) (by omega)
 obtain ⟨b,o,cs,rfl,hb,d1⟩:=Ax.gH h hi1
 rw [List.drop_eq_getElem_cons hi1] at he
 generalize l[i]=x at *
 by_cases hx:x=0
 ·simp only [go_sem,s0,s3,s7,h8,hil,hi0,Int.toNat_natCast,hb,d1,hx,ei]
  exact ⟨hi1,rfl,rfl,(by simp only [go_sem, *] <;> rfl),by rw [he,hx]; rfl⟩
 ·simp only [go_sem,s0,s3,s7,h8,hil,hi0,Int.toNat_natCast,hb,d1,hx]
  exact qW ⟨by rw [he]; simp [orV,hx],rfl,rfl⟩
theorem k120 (a b:Cl):CallsA Tryz.prog 120 [a.val,b.val] F M (Same F M (.int .i64 (ordV a.pc b.pc))):=by
 refine qZ hm Tryz.func120 e120 (Nat.le_of_ble_eq_true rfl) ?_
 simp only [c120,go_sem]
 intro r2 hF2 hM2
 simp only [go_sem]
 intro r3 hF3 hM3
 simp only [wW] at hM3
 simp only [go_sem,hM3]
 refine qQ (k169 _ _ a.b b.b) ?_
 simp only [go_sem]
 refine qQ (k169 _ _ a.p b.p) ?_
 simp only [go_sem]
 refine qQ (k169 _ _ a.k b.k) ?_
 simp only [go_sem]
 intro r4 hF4 hM4
 simp only [wW] at hM4
 have hr:intR F (((M.upd r2 ⟨a.cs,84,10⟩).upd r3 ⟨b.cs,84,10⟩).upd r4 ⟨[.int .i64 (cmpV a.b b.b),.int .i64 (cmpV a.p b.p),.int .i64 (cmpV a.k b.k)],3,3⟩) (some ⟨r4,0,none⟩) 3 [cmpV a.b b.b,cmpV a.p b.p,cmpV a.k b.k]:=gJ wD (by simp) (by simp) (by rw [wY]; rfl)
 simp only [go_sem]
 refine qQ (k168 F _ _ 3 [cmpV a.b b.b,cmpV a.p b.p,cmpV a.k b.k] hr) ?_
 simp only [go_sem]
 all_goals (refine qX (M:=M) (by repeat' first | exact Keep.refl _ | (refine Keep.new ?_ (by simp only [*]))) ⟨?_,rfl,rfl⟩)
 rfl
theorem k32 (a b:Cl):CallsA Tryz.prog 32 [a.val,b.val] F M (Same F M (.bool (beforeB a.pc b.pc))):=by
 refine qZ hm Tryz.func32 e32 (Nat.le_of_ble_eq_true rfl) ?_
 simp only [c32,go_sem]
 repeat' first
  | simp only [go_sem,yG,Option.isSome_some,Nat.add_zero, *]
  | (with_reducible first | apply cD | apply cN | apply cB | apply cO | apply tD | apply fD | apply tN | apply fN | apply tB | apply fB | apply tO | apply fO) <;> intro hc
  | (intro rx hFx hMx; (try simp only [wW] at hMx))
 all_goals (refine qX (M:=M) (by repeat' first | exact Keep.refl _ | (refine Keep.new ?_ (by simp only [*]))) ⟨?_,rfl,rfl⟩)
 all_goals (simp only [beforeB,Cl.pc, *]; try rfl)
theorem k66 (a:Option Addr)(c:Nat)(l:List Ba)(n:Int)(h:RdG 7 Ba.cs F M (.slice a l.length c) l)(hp:jG l=true) :
  CallsA Tryz.prog 66 [.slice a l.length c,.int .i64 n] F M (Same F M (.bool (knownB l (n - 1)))):=by
 refine qZ hm Tryz.func66 e66 (Nat.le_of_ble_eq_true rfl) ?_
 rw [there_known hp]
 have hl:=h.1
 by_cases h0:l.length=0
 ·have e0:(l.length:Int)=0:=by omega
  simp only [c66,go_sem,e0]
  exact qW ⟨by simp [h0],rfl,rfl⟩
 have hi:l.length - 1 < l.length:=by omega
 have e0:¬(l.length:Int)=0:=by omega
 have ew:IntKind.i64.wrap ((l.length:Int) - 1)=((l.length - 1:Nat):Int):=by rw [w64 (by omega) (by omega)]; omega
 have hi0:(0:Int)≤((l.length - 1:Nat):Int):=by omega
 have hil:((l.length - 1:Nat):Int) < l.length:=by omega
 obtain ⟨b,o,cs,rfl,hb,d1,d2⟩:=RdG.at h hi
 obtain ⟨d3,_⟩:=ba_row d1 d2
 have eg:(l.getLast?.map (·.b)).getD 0=l[l.length - 1].b:=by
  rw [List.getLast?_eq_getElem?,List.getElem?_eq_getElem hi]; rfl
 generalize l[l.length - 1]=x at *
 rw [eg]
 simp only [c66,go_sem,e0,ew,hi0,hil,Int.toNat_natCast,Nat.add_zero,hb,d3]
 exact qW ⟨by simp [h0],rfl,rfl⟩
def ixEn (l:List En)(p:En→Bool)(F0:Fz)(M0:Hp)(i:Nat)(σ:Env)(F:Fz)(M:Hp):Prop:=
 F0=F∧M0=M∧Ax.look σ 8=some (.int .i64 i)∧(l.take i).any p=false
theorem k116 (ad:Option Addr)(cap:Nat)(l:List En)(g:Nat)(ca:List Value)(p:En→Bool)(h:RdG 3 En.cs F M (.slice ad l.length cap) l)
  (hp:∀v∈l,CallsA Tryz.prog g ([v.val]++ca) F M (Same F M (.bool (p v)))) :
  CallsA Tryz.prog 116 [.slice ad l.length cap,.func (.func g) #[] ca.toArray] F M fun r F' M'=>F'=F∧M'=M∧((l.any p=false∧r=.int .i64 (-1))∨∃i:Nat,r=.int .i64 i∧∃hi:i < l.length,p l[i]=true∧(l.take i).any p=false):=by
 refine qZ hm Tryz.func116 e116 (Nat.le_of_ble_eq_true rfl) ?_
 simp only [c116,go_sem]
 refine yX l.length (ixEn l p F M) ⟨rfl,rfl,(by simp only [go_sem, *] <;> rfl),rfl⟩ ?_
 rintro i σ F' M' hi hs ⟨rfl,rfl,h8,ha⟩
 have s0:=hs 0 rfl
 have s1:=hs 1 rfl
 have s7:=hs 7 rfl
 simp only [go_sem] at s0 s1 s7
 clear hs
 by_cases hil:(i:Int) < l.length
 ·have hi0:(0:Int)≤i:=by omega
  have hil':i < l.length:=by omega
  have hle:=h.1
  have ei:IntKind.i64.wrap ((i:Int)+1)=i+1:=w64 (by omega) (by omega)
  have t1:=List.take_succ_eq_append_getElem hil'
  have hfin:p l[i]=true→(l.any p=false∧Value.int .i64 (i:Int)=.int .i64 (-1))∨∃j:Nat,Value.int .i64 (i:Int)=.int .i64 j∧∃hi:j < l.length,p l[j]=true∧(l.take j).any p=false:=fun hv=>.inr ⟨i,rfl,hil',hv,ha⟩
  obtain ⟨b,o,cs,rfl,hb,d1,d2⟩:=RdG.at h hil'
  have hq:=hp l[i] (List.getElem_mem _)
  generalize l[i]=v at *
  simp only [go_sem,s0,s1,s7,h8,hil,hi0,Int.toNat_natCast,hb,d1,d2]
  refine qQ hq ?_
  cases hv:p v
  ·simp only [go_sem,h8,ei]
   exact ⟨hil',rfl,rfl,(by simp only [go_sem, *] <;> rfl),by rw [t1,List.any_append,ha]; simp [hv]⟩
  ·simp only [go_sem]
   exact qW ⟨rfl,rfl,hfin hv⟩
 ·rw [List.take_of_length_le (by omega)] at ha
  simp only [go_sem,s7,h8,hil]
  exact qW ⟨rfl,rfl,.inl ⟨ha,rfl⟩⟩
theorem k69 (ad:Option Addr)(cap:Nat)(l:List En)(g:Nat)(ca:List Value)(p:En→Bool)(h:RdG 3 En.cs F M (.slice ad l.length cap) l)
  (hp:∀v∈l,CallsA Tryz.prog g ([v.val]++ca) F M (Same F M (.bool (p v)))) :
  CallsA Tryz.prog 69 [.slice ad l.length cap,.func (.func g) #[] ca.toArray] F M (Same F M (.bool (l.any p))):=by
 refine qZ hm Tryz.func69 e69 (Nat.le_of_ble_eq_true rfl) ?_
 simp only [c69,go_sem]
 refine qY (k116 F M ad cap l g ca p h hp) ?_
 rintro r G M' ⟨hG,hM,hz⟩
 rw [hG,hM]
 refine ⟨(fun h=>by cases h),?_⟩
 rcases hz with ⟨hz,rfl⟩ | ⟨i,rfl,hi,hz,_⟩
 ·simp only [go_sem]
  exact qW ⟨by rw [hz],rfl,rfl⟩
 ·have:l.any p=true:=List.any_eq_true.2 ⟨_,List.getElem_mem hi,hz⟩
  have hi0:(0:Int)≤i:=by omega
  simp only [go_sem,hi0]
  exact qW ⟨by rw [this],rfl,rfl⟩
theorem k119 (p:Pg)(sa:Option Addr)(sc:Nat)(sz:List Int)(c:Cl)(hs:intR F M sa sc sz)(hsz:∀b,0≤szAt sz b∧szAt sz b≤32)(hp:p.ptr=2∨p.ptr=4)(h:c.rd F M) :
  CallsA Tryz.prog 119 [p.val,.slice sa sz.length sc,c.val] F M (Same F M (.bool (cellB p.ptr sz c.pc))):=by
 refine qZ hm Tryz.func119 e119 (Nat.le_of_ble_eq_true rfl) ?_
 have hsl:=hs.1
 have ew:IntKind.i64.wrap ((sz.length:Int) - 1)=sz.length - 1:=w64 (by omega) (by omega)
 simp only [c119,go_sem]
 intro r3 hF3 hM3
 simp only [go_sem]
 intro r5 hF5 hM5
 simp only [wW] at hM5
 have h5:c.rd F ((M.upd r3 ⟨p.cs,28,7⟩).upd r5 ⟨c.cs,84,10⟩):=RdG.new (RdG.new h hF3 hM3) hF5 (by simp only [wW,not_false_eq_true,and_self, *])
 have k1:=k167 F _ c h5
 have k2:=k41 F _ c.lA c.lC c.l ((sz.length:Int) - 1) h5
 cases hc:yD c.pc
 ·simp only [go_sem]
  refine qQ k1 ?_
  rw [hc]
  simp only [go_sem]
  all_goals (refine qX (M:=M) (by repeat' first | exact Keep.refl _ | (refine Keep.new ?_ (by simp only [*]))) ⟨?_,rfl,rfl⟩)
  simp [cellB,hc]
 have hk:c.k=0∨c.k=11∨isS c.k=true:=content_kind hc
 obtain ⟨n1,n4⟩:=jX hp hk
 have k3:=k129 F ((M.upd r3 ⟨p.cs,28,7⟩).upd r5 ⟨c.cs,84,10⟩) p.big p.ptr c.k hk
 have hR:cellB p.ptr sz c.pc=((decide (1≤c.b) && decide (c.b < sz.length)) && decide (0≤c.p) && knownB c.l ((sz.length:Int) - 1) && decide (c.p.tmod (wX p.ptr c.k)=0) && decide (c.p≤szAt sz c.b - wX p.ptr c.k)):=by
  unfold cellB; rw [hc]; rfl
 rw [hR]
 have en:¬wX p.ptr c.k=0:=by omega
 have ez:=hsz c.b
 have ew2:IntKind.i64.wrap (szAt sz c.b - wX p.ptr c.k)=szAt sz c.b - wX p.ptr c.k:=w64 (by omega) (by omega)
 rw [hc] at k1
 generalize wX p.ptr c.k=n at *
 by_cases hb:1≤c.b∧c.b < sz.length
 rotate_left
 ·clear k2 k3 h5 h hs hsz hk hR hc
  repeat' first
  | simp only [go_sem,Nat.add_zero, *]
  | (with_reducible first | apply cD | apply cN | apply cB | apply cO | apply tD | apply fD | apply tN | apply fN | apply tB | apply fB | apply tO | apply fO) <;> intro hc
  | (intro rx hFx hMx; (try simp only [wW] at hMx))
   | with_reducible refine qQ k1 ?_
  all_goals try (exfalso; omega)
  all_goals (refine qX (M:=M) (by repeat' first | exact Keep.refl _ | (refine Keep.new ?_ (by simp only [*]))) ⟨?_,rfl,rfl⟩)
  all_goals clear k1
  all_goals (refine congrArg Value.bool ?_; first | rfl | ((try simp only [Bool.and_eq_true,Bool.or_eq_true,decide_eq_true_eq,Bool.and_eq_false_iff,Bool.or_eq_false_iff,decide_eq_false_iff_not,Bool.not_eq_true',Bool.not_eq_false',Bool.and_eq_false_imp] at *); rw [Bool.eq_iff_iff]; (try simp [*]); (try first | omega | (intros; omega) | (intros; exfalso; omega) | (simp_all; done) | (simp_all; omega))))
 obtain ⟨i,hi⟩:=Int.eq_ofNat_of_zero_le (by omega:0≤c.b)
 have hil:i < sz.length:=by omega
 have hi0:(0:Int)≤i:=by omega
 have hil':(i:Int) < sz.length:=by omega
 obtain ⟨b,o,cs,rfl,hb',d1⟩:=Ax.gH hs hil
 have es:=szAt_get hil
 rw [hi] at ez ew2
 rw [es] at ez ew2
 obtain ⟨hb1,hb2⟩:=hb
 have e1:¬c.b < 1:=by omega
 have e2:¬(sz.length:Int)≤c.b:=by omega
 have hR2:((decide (1≤c.b) && decide (c.b < sz.length)) && decide (0≤c.p) && knownB c.l ((sz.length:Int) - 1) && decide (c.p.tmod n=0) && decide (c.p≤szAt sz c.b - n))=(decide (0≤c.p) && knownB c.l ((sz.length:Int) - 1) && decide (c.p.tmod n=0) && decide (c.p≤sz[i] - n)):=by
  rw [decide_eq_true hb1,decide_eq_true hb2,hi,es]; rfl
 rw [hR2]
 generalize sz[i]=z at *
 rw [hi] at e1 e2
 clear hR hR2 hsz hs h h5 hb1 hb2 es hk hc ez
 repeat' first
  | simp only [go_sem,yG,Option.isSome_some,Int.toNat_natCast,Nat.add_zero, *]
  | (with_reducible first | apply cD | apply cN | apply cB | apply cO | apply tD | apply fD | apply tN | apply fN | apply tB | apply fB | apply tO | apply fO) <;> intro hc
  | (intro rx hFx hMx; (try simp only [wW] at hMx))
  | with_reducible refine qQ k1 ?_
  | with_reducible refine qQ k2 ?_
  | with_reducible refine qQ k3 ?_
 all_goals (refine qX (M:=M) (by repeat' first | exact Keep.refl _ | (refine Keep.new ?_ (by simp only [*]))) ⟨?_,rfl,rfl⟩)
 all_goals clear k1 k2 k3
 all_goals (refine congrArg Value.bool ?_; first | rfl | ((try simp only [Bool.and_eq_true,Bool.or_eq_true,decide_eq_true_eq,Bool.and_eq_false_iff,Bool.or_eq_false_iff,decide_eq_false_iff_not,Bool.not_eq_true',Bool.not_eq_false',Bool.and_eq_false_imp] at *); rw [Bool.eq_iff_iff]; (try simp [*]); (try first | omega | (intros; omega) | (intros; exfalso; omega) | (simp_all; done) | (simp_all; omega))))
theorem k117 (n:Int):CallsA Tryz.prog 117 [.int .i64 n] F M (Same F M (.bool (!inB n))):=by
 refine qZ hm Tryz.func117 e117 (Nat.le_of_ble_eq_true rfl) ?_
 simp only [c117,go_sem]
 repeat' first
  | simp only [go_sem, *]
  | (with_reducible first | apply cD | apply cN | apply cB | apply cO | apply tD | apply fD | apply tN | apply fN | apply tB | apply fB | apply tO | apply fO) <;> intro hc
  | (intro rx hFx hMx; (try simp only [wW] at hMx))
 all_goals (refine qX (M:=M) (by repeat' first | exact Keep.refl _ | (refine Keep.new ?_ (by simp only [*]))) ⟨?_,rfl,rfl⟩)
 all_goals (refine congrArg Value.bool ?_; first | rfl | ((try simp only [Bool.and_eq_true,Bool.or_eq_true,decide_eq_true_eq,Bool.and_eq_false_iff,Bool.or_eq_false_iff,decide_eq_false_iff_not,Bool.not_eq_true',Bool.not_eq_false',Bool.and_eq_false_imp] at *); rw [Bool.eq_iff_iff]; (try simp [inB, *]); (try first | omega | (intros; omega) | (intros; exfalso; omega) | (simp_all; done) | (simp_all; omega))))
def envI (p:Pg)(e:En)(F:Fz)(M1:Hp)(i:Nat)(σ:Env)(F':Fz)(M':Hp):Prop:=
 F=F'∧Keep M1 M'∧Old F M'∧Ax.look σ 39=some (.int .i64 i)∧cellsUp p.ptr (wJ p) e.pe.cells i=true
theorem k71 (p:Pg)(e:En)(hp:p.rd F)(hold:Old F M)(hc:yK p=true)(h:e.rd F M)(hfe:e.cells.length≤100000∧e.news.length≤100000):CallsA Tryz.prog 71 [p.val,e.val] F M (Same F M (.bool (envB p e.pe))):=by
 refine qZ hm Tryz.func71 e71 (Nat.le_of_ble_eq_true rfl) ?_
 have hfew:=hp.few
 have hl1:=h.cells.1
 have hl2:=h.news.1
 have hpre:=jW hc
 have hsl:=sizes_len p
 simp only [c71,go_sem]
 intro r2 hF2 hM2
 simp only [go_sem]
 intro r3 hF3 hM3
 simp only [wW] at hM3
 have old3:Old F ((M.upd r2 ⟨p.cs,28,7⟩).upd r3 ⟨e.cs,46,3⟩):=(by repeat' first | assumption | (refine Old.upd ?_ (by assumption)))
 have f2:((M.upd r2 ⟨p.cs,28,7⟩).upd r3 ⟨e.cs,46,3⟩) r2=some ⟨p.cs,28,7⟩:=by rw [Hp.qK hM3.1.2]; exact Hp.qJ _ _ _
 have f3:((M.upd r2 ⟨p.cs,28,7⟩).upd r3 ⟨e.cs,46,3⟩) r3=some ⟨e.cs,46,3⟩:=Hp.qJ _ _ _
 have kp3:Keep M ((M.upd r2 ⟨p.cs,28,7⟩).upd r3 ⟨e.cs,46,3⟩):=(by repeat' first | exact Keep.refl _ | (refine Keep.new ?_ (by simp only [*])))
 generalize (M.upd r2 ⟨p.cs,28,7⟩).upd r3 ⟨e.cs,46,3⟩=M1 at *
 have h1:=h.keep kp3 old3
 have b2:=qG (F:=F) f2
 have b3:=qG (F:=F) f3
 clear hM2 hM3 hF2 hF3
 have no:∀v:Bool,envB p e.pe=v→∀M',Keep M1 M'→endK F M' (Same F M (.bool (envB p e.pe))) (.bool v):=fun v h M' k=>qX (kp3.trans k) ⟨by rw [h],rfl,rfl⟩
 have hlen:e.pe.cells.length=e.cells.length:=by simp [En.pe]
 by_cases hno:e.no=true
 ·have ew:IntKind.i64.wrap ((e.cells.length:Int)+e.news.length)=e.cells.length+e.news.length:=w64 (by omega) (by omega)
  simp only [go_sem,b3,hno,ew]
  refine no _ ?_ _ (Keep.refl _)
  have:e.pe.no=true:=hno
  unfold envB
  rw [if_pos this,hlen]
  show (decide (e.cells.length=0) && decide (e.news.length=0))=_
  by_cases h0:e.cells.length=0
  ·by_cases h1:e.news.length=0
   ·simp [h0,h1]
   ·simp [h0,h1]
  ·have:¬(e.cells.length:Int)+e.news.length=0:=by omega
   simp [h0,this]
 have hno':e.no=false:=by simpa using hno
 have hR:envB p e.pe=(decide (e.cells.length≤200) && decide (e.news.length=p.news.length) && e.news.all inB && cellsUp p.ptr (wJ p) e.pe.cells e.cells.length):=by
  have:¬e.pe.no=true:=hno
  unfold envB
  rw [if_neg this,hlen]; rfl
 by_cases h200:(200:Int) < e.cells.length
 ·have:¬e.cells.length≤200:=by omega
  simp only [go_sem,b3,hno',h200]
  exact no _ (by rw [hR]; simp [this]) _ (Keep.refl _)
 have h200':e.cells.length≤200:=by omega
 by_cases hnn:(e.news.length:Int)=p.news.length
 rotate_left
 ·have:¬e.news.length=p.news.length:=by omega
  simp only [go_sem,b2,b3,hno',h200,hnn]
  exact no _ (by rw [hR]; simp [this]) _ (Keep.refl _)
 have hnn':e.news.length=p.news.length:=by omega
 rw [decide_eq_true h200',decide_eq_true hnn'] at hR
 have kn:=k98 F M1 e.newsA e.newsC e.news _ [] (fun v=>!inB v) h1.news (fun v _=>k117 F M1 v)
 have e9:(e.news.any fun v=>!inB v) = !e.news.all inB:=(List.not_all_eq_any_not).symm
 rw [e9] at kn
 simp only [go_sem,b2,b3,hno',h200,hnn]
 refine qQ kn ?_
 cases hall:e.news.all inB
 ·simp only [go_sem]
  exact no _ (by rw [hR,hall]; simp) _ (Keep.refl _)
 rw [hall,Bool.true_and,Bool.true_and] at hR
 simp only [go_sem,b2]
 refine qY (k118 F M1 p hp old3) ?_
 rintro u G M2 hq
 obtain ⟨hG,le,kq,oq,aq,cq,rfl,rdq⟩:=hq.le wD (by omega)
 rw [hG]
 refine ⟨(fun h=>by cases h),?_⟩
 have old2:=oq old3
 have h2:=h1.keep kq old2
 have b2':=qG (F:=F) (kq _ _ f2)
 have b3':=qG (F:=F) (kq _ _ f3)
 have g2:=kq _ _ f2
 have g3:=kq _ _ f3
 clear le oq hq hG e9 kn h1 old3
 simp only [go_sem,b3']
 refine yX e.cells.length (envI p e F M2) ⟨rfl,Keep.refl _,old2,(by simp only [go_sem, *] <;> rfl),rfl⟩ ?_
 rintro i σ F' M3 hi hs ⟨rfl,kp,old,q39,he⟩
 have q2:=hs 2 rfl
 have q3:=hs 3 rfl
 have q5:=hs 5 rfl
 have q37:=hs 37 rfl
 have q38:=hs 38 rfl
 simp only [go_sem] at q2 q3 q5 q37 q38
 clear hs
 by_cases hil:(i:Int) < e.cells.length
 rotate_left
 ·have hx:i=e.cells.length:=by omega
  simp only [go_sem,q38,q39,hil]
  exact no _ (by rw [hR,←hx,he]; rfl) _ (kq.trans kp)
 have hi0:(0:Int)≤i:=by omega
 have hi1:i < e.cells.length:=by omega
 have ei:IntKind.i64.wrap ((i:Int)+1)=i+1:=w64 (by omega) (by omega)
 obtain ⟨b,o,cs,ea,hb,rows⟩:=(h2.cells.keep kp old).rows (by omega)
 obtain ⟨d1,d2⟩:=rows i hi1
 have rz:=rdq.keep kp old
 have hci:e.cells[i].rd F M3:=RdG.keep (h2.ptrs _ (List.getElem_mem hi1)) kp old
 have hup:upAt p.ptr (wJ p) e.pe.cells i=(cellB p.ptr (wJ p) e.cells[i].pc && (decide (i=0) || prevOk e.pe.cells i e.cells[i].pc)):=by
  have:e.pe.cells[i]? = some e.cells[i].pc:=by simp [En.pe,List.getElem?_eq_getElem hi1]
  exact upAt_get this
 have hno2:upAt p.ptr (wJ p) e.pe.cells i=false→envB p e.pe=false:=fun h=>by rw [hR,cellsUp_no hi1 h]; rfl
 have hpr:∀hi2:0 < i,∃y:Cl,(cs.drop (o+(i - 1) * 10)).take 10=y.cs∧o+(i - 1) * 10+10≤cs.length∧prevOk e.pe.cells i e.cells[i].pc=beforeB y.pc e.cells[i].pc:=fun hi2=>by
  have hi3:i - 1 < e.cells.length:=by omega
  obtain ⟨d3,d4⟩:=rows (i - 1) hi3
  exact ⟨e.cells[i - 1],d4,d3,prevOk_get (by simp [En.pe,List.getElem?_eq_getElem hi3])⟩
 clear rows
 generalize e.cells[i]=x at *
 have no3:upAt p.ptr (wJ p) e.pe.cells i=false→∀M',Keep M3 M'→endK F M' (Same F M (.bool (envB p e.pe))) (.bool false):=fun h M' k=>no _ (hno2 h) _ ((kq.trans kp).trans k)
 have yes:upAt p.ptr (wJ p) e.pe.cells i=true→∀σ' M',Keep M3 M'→Old F M'→Ax.look σ' 39=some (.int .i64 ((i+1:Nat):Int))→Nxt (envI p e F M2) e.cells.length i σ' F M':=
  fun h σ' M' k o e39=>⟨hi1,rfl,kp.trans k,o,e39,by rw [cellsUp_succ,he,h]; rfl⟩
 rw [hup] at no3 yes
 have g2':=kp _ _ g2
 have g3':=kp _ _ g3
 clear hup hno2 he hR no
 simp only [go_sem,q37,q38,q39,hil,hi0,ea,Int.toNat_natCast,hb,d1,d2]
 intro r7 hF7 hM7
 have n2:=qH hM7 g2'
 have n3:=qH hM7 g3'
 have nb:=ne_of_blk hb hF7 hM7
 have kp7:Keep M3 (M3.upd r7 ⟨x.cs,84,10⟩):=(Keep.refl M3).new hM7
 have old7:Old F (M3.upd r7 ⟨x.cs,84,10⟩):=old.upd hF7
 have g2'':=kp7 _ _ g2'
 have g3'':=kp7 _ _ g3'
 have b2'':=qG (F:=F) g2''
 have b3'':=qG (F:=F) g3''
 have b7:=qG (F:=F) (Hp.qJ M3 r7 ⟨x.cs,84,10⟩)
 have kc:=k119 F _ p _ _ _ x (rz.keep kp7 old7) (sizes_in hc) hpre.1 (RdG.keep hci kp7 old7)
 have hb7:=blk_keep hb kp7 old7
 simp only [setH,Hp.wG,go_sem]
 generalize M3.upd r7 ⟨x.cs,84,10⟩=M7 at *
 simp only [go_sem,q2,q5,b2'',b7]
 refine qQ kc ?_
 cases hcb:cellB p.ptr (wJ p) x.pc
 ·simp only [go_sem]
  exact no3 (by rw [hcb]; rfl) _ kp7
 rw [hcb,Bool.true_and] at no3 yes
 by_cases hz:(0:Int) < i
 rotate_left
 ·have hz':i=0:=by omega
  simp only [go_sem,q39,hz,ei]
  exact yes (by rw [hz']; rfl) _ _ kp7 old7 (by simp only [go_sem, *] <;> rfl)
 have hz':0 < i:=by omega
 have hz0:¬i=0:=by omega
 obtain ⟨y,d3,d4,hy⟩:=hpr hz'
 rw [hy,decide_eq_false hz0,Bool.false_or] at no3 yes
 have ej:IntKind.i64.wrap ((i:Int) - 1)=((i - 1:Nat):Int):=by rw [w64 (by omega) (by omega)]; omega
 have hj0:(0:Int)≤((i - 1:Nat):Int):=by omega
 have hjl:((i - 1:Nat):Int) < e.cells.length:=by omega
 simp only [go_sem,q3,hz,b3'',b7,ej,hj0,hjl,ea,Int.toNat_natCast,hb7,d3,d4]
 refine qQ (k120 F M7 y x) ?_
 have ho:=ord_before y.pc x.pc
 cases hbf:beforeB y.pc x.pc
 ·have:(0:Int)≤ordV y.pc x.pc:=by rw [hbf] at ho; simpa using ho
  simp only [go_sem,this]
  exact no3 hbf _ kp7
 ·have:¬(0:Int)≤ordV y.pc x.pc:=by rw [hbf] at ho; simpa using ho
  simp only [go_sem,this,q39,ei]
  exact yes hbf _ _ kp7 old7 (by simp only [go_sem, *] <;> rfl)
theorem k70 (p:Pg)(e:En)(r2:Nat)(e2:Ent)(h2:M r2=some e2)(c2:e2.cells=p.cs)(hp:p.rd F)(hold:Old F M)(hc:yK p=true)(h:e.rd F M)(hfe:e.cells.length≤100000∧e.news.length≤100000) :
  CallsA Tryz.prog 70 [e.val,.pointer (some ⟨r2,0,none⟩)] F M (Same F M (.bool (!envB p e.pe))):=by
 refine qZ hm Tryz.func70 e70 (Nat.le_of_ble_eq_true rfl) ?_
 have b2:=qG (F:=F) h2
 rw [c2] at b2
 simp only [c70,go_sem]
 intro r3 hF3 hM3
 have n2:=qH hM3 h2
 simp only [go_sem,n2,b2]
 refine qQ (k71 F _ p e hp (hold.upd hF3) hc (h.new hF3 hM3) hfe) ?_
 simp only [go_sem]
 all_goals (refine qX (M:=M) (by repeat' first | exact Keep.refl _ | (refine Keep.new ?_ (by simp only [*]))) ⟨?_,rfl,rfl⟩)
 rfl
theorem k37 (p:Pg)(a:Option Addr)(c:Nat)(l:List En)(hp:p.rd F)(hold:Old F M)(hl:RdG 3 En.cs F M (.slice a l.length c) l)(h:∀e∈l,e.rd F M)(hfe:∀e∈l,e.cells.length≤100000∧e.news.length≤100000) :
  CallsA Tryz.prog 37 [p.val,.slice a l.length c] F M (Same F M (.bool (yK p && l.all fun e=>envB p e.pe))):=by
 refine qZ hm Tryz.func37 e37 (Nat.le_of_ble_eq_true rfl) ?_
 simp only [c37,go_sem]
 intro r2 hF2 hM2
 have old2:=hold.upd (e:=⟨p.cs,28,7⟩) hF2
 simp only [go_sem]
 refine qQ (k58 F _ p hp old2) ?_
 cases hc:yK p
 ·simp only [go_sem]
  all_goals (refine qX (M:=M) (by repeat' first | exact Keep.refl _ | (refine Keep.new ?_ (by simp only [*]))) ⟨?_,rfl,rfl⟩)
  rfl
 have kc:=k69 F (M.upd r2 ⟨p.cs,28,7⟩) a c l _ [.pointer (some ⟨r2,0,none⟩)] (fun e=>!envB p e.pe) (hl.new hF2 hM2) (fun e he=>k70 F _ p e r2 _ (Hp.qJ _ _ _) rfl hp old2 hc ((h e he).new hF2 hM2) (hfe e he))
 have e9:(l.any fun e=>!envB p e.pe) = !l.all fun e=>envB p e.pe:=(List.not_all_eq_any_not).symm
 rw [e9] at kc
 simp only [go_sem]
 refine qQ kc ?_
 simp only [go_sem]
 all_goals (refine qX (M:=M) (by repeat' first | exact Keep.refl _ | (refine Keep.new ?_ (by simp only [*]))) ⟨?_,rfl,rfl⟩)
 simp
theorem ptrs_nil:jG []=true:=by decide
theorem abs_ptrs {k:Int}{v:V}{l:List Ba}(h:absB k v l=true):jG l=true:=by
 by_cases h7:k=7
 ·simp only [absB,h7,if_true,Bool.and_eq_true] at h; exact h.2
 ·rw [((abs_pre h).2.1 h7).2]; exact ptrs_nil
theorem k31 (p:Pg)(sa:Option Addr)(sc:Nat)(sz:List Int)(c:Cl)(hs:intR F M sa sc sz)(hsz:∀b,0≤szAt sz b∧szAt sz b≤32)(hp:p.ptr=2∨p.ptr=4)(h:c.rd F M) :
  CallsA Tryz.prog 31 [p.val,.slice sa sz.length sc,c.val] F M (Same F M (.bool (cellB p.ptr sz c.pc))):=by
 refine qZ hm Tryz.func31 e31 (Nat.le_of_ble_eq_true rfl) ?_
 have hsl:=hs.1
 have ew:IntKind.i64.wrap ((sz.length:Int) - 1)=sz.length - 1:=w64 (by omega) (by omega)
 simp only [c31,go_sem]
 intro r3 hF3 hM3
 simp only [go_sem]
 intro r5 hF5 hM5
 simp only [wW] at hM5
 have h5:c.rd F ((M.upd r3 ⟨p.cs,28,7⟩).upd r5 ⟨c.cs,84,10⟩):=RdG.new (RdG.new h hF3 hM3) hF5 (by simp only [wW,not_false_eq_true,and_self, *])
 have kB:=fun n l m=>k33 F ((M.upd r3 ⟨p.cs,28,7⟩).upd r5 ⟨c.cs,84,10⟩) n l m
 have kK:=k61 F ((M.upd r3 ⟨p.cs,28,7⟩).upd r5 ⟨c.cs,84,10⟩) c.k
 have kS:=k62 F ((M.upd r3 ⟨p.cs,28,7⟩).upd r5 ⟨c.cs,84,10⟩) p c.k
 have kE:=k63 F ((M.upd r3 ⟨p.cs,28,7⟩).upd r5 ⟨c.cs,84,10⟩) c.v V.zero _ (.slice none 0 0) c.l [] h5 gX
 have kV:=k64 F ((M.upd r3 ⟨p.cs,28,7⟩).upd r5 ⟨c.cs,84,10⟩) c.v
 have kP:=k65 F ((M.upd r3 ⟨p.cs,28,7⟩).upd r5 ⟨c.cs,84,10⟩) _ c.l h5
 have kA:=k67 F ((M.upd r3 ⟨p.cs,28,7⟩).upd r5 ⟨c.cs,84,10⟩) c.k c.v _ c.l h5
 have kT:=fun hp=>k66 F ((M.upd r3 ⟨p.cs,28,7⟩).upd r5 ⟨c.cs,84,10⟩) c.lA c.lC c.l sz.length h5 hp
 have el:decide (c.l=[])=decide (c.l.length=0):=decide_eq_decide.2 (by simp)
 rw [el] at kE
  -- whether block and kind may be
 by_cases hb:1≤c.b∧c.b < sz.length
 rotate_left
 ·have hbf:(decide (1≤c.b) && decide (c.b≤(sz.length:Int) - 1))=false:=by simp; omega
  have hR:cellB p.ptr sz c.pc=false:=by
   have:(decide (1≤c.b) && decide (c.b < sz.length))=false:=by simp; omega
   unfold cellB
   show (yD c.pc && (decide (1≤c.b) && decide (c.b < sz.length)) && _ && _ && _ && _)=false
   rw [this]; simp
  simp only [go_sem,ew]
  refine qQ (kB _ _ _) ?_
  simp only [go_sem,hbf]
  all_goals (refine qX (M:=M) (by repeat' first | exact Keep.refl _ | (refine Keep.new ?_ (by simp only [*]))) ⟨?_,rfl,rfl⟩)
  rw [hR]
 have hbt:(decide (1≤c.b) && decide (c.b≤(sz.length:Int) - 1))=true:=by simp; omega
 by_cases hk:c.k=0∨c.k=11∨isS c.k=true
 rotate_left
 ·have k0:¬c.k=0:=fun e=>hk (.inl e)
  have k11:¬c.k=11:=fun e=>hk (.inr (.inl e))
  have ks:isS c.k=false:=by
   cases h:isS c.k
   ·rfl
   ·exact absurd (.inr (.inr h)) hk
  have hR:cellB p.ptr sz c.pc=false:=by
   have:yD c.pc=false:=by
    cases h:yD c.pc
    ·rfl
    ·exact absurd (content_kind h) hk
   unfold cellB; rw [this]; rfl
  simp only [go_sem,ew]
  refine qQ (kB _ _ _) ?_
  simp only [go_sem,hbt]
  refine qQ kK ?_
  simp only [go_sem,ks,k0,k11]
  all_goals (refine qX (M:=M) (by repeat' first | exact Keep.refl _ | (refine Keep.new ?_ (by simp only [*]))) ⟨?_,rfl,rfl⟩)
  rw [hR]
 have hkc:∀b:Bool,(isS c.k=b)→(!b && !decide (c.k=0) && !decide (c.k=11))=false:=fun b hb=>by
  subst hb
  rcases hk with h | h | h <;> simp [h]
 obtain ⟨n1,n4⟩:=jX hp hk
 have en:¬wX p.ptr c.k=0:=by omega
 have ez:=hsz c.b
 obtain ⟨i,hi⟩:=Int.eq_ofNat_of_zero_le (by omega:0≤c.b)
 have hil:i < sz.length:=by omega
 have hi0:(0:Int)≤i:=by omega
 have hil':(i:Int) < sz.length:=by omega
 obtain ⟨b,o,cs,rfl,hb',d1⟩:=Ax.gH hs hil
 have es:=szAt_get hil
 rw [hi,es] at ez
 have hR:cellB p.ptr sz c.pc=(yD c.pc && decide (0≤c.p) && knownB c.l ((sz.length:Int) - 1) && decide (c.p.tmod (wX p.ptr c.k)=0) && decide (c.p≤sz[i] - wX p.ptr c.k)):=by
  unfold cellB
  show (yD c.pc && (decide (1≤c.b) && decide (c.b < sz.length)) && decide (0≤c.p) && knownB c.l ((sz.length:Int) - 1) && decide (c.p.tmod (wX p.ptr c.k)=0) && decide (c.p≤szAt sz c.b - wX p.ptr c.k))=_
  rw [decide_eq_true hb.1,decide_eq_true hb.2,hi,es]; simp
 generalize cellB p.ptr sz c.pc=R at *
 generalize sz[i]=z at *
 generalize wX p.ptr c.k=n at *
 rw [hi] at hbt
 have ew3:0≤c.p→c.p≤z→IntKind.i64.wrap (z - c.p)=z - c.p:=fun h1 h2=>w64 (by omega) (by omega)
 clear hsz hs h h5 es hb el
 have no:∀M',Keep M M'→(yD c.pc=false∨¬(0≤c.p)∨¬(c.p.tmod n=0)∨¬(c.p≤z - n)∨knownB c.l ((sz.length:Int) - 1)=false)→endK F M' (Same F M (.bool R)) (.bool false):=fun M' k h=>by
  refine qX k ⟨?_,rfl,rfl⟩
  rw [hR]
  rcases h with h | h | h | h | h <;> simp [h]
 have kp5:Keep M ((M.upd r3 ⟨p.cs,28,7⟩).upd r5 ⟨c.cs,84,10⟩):=(by repeat' first | exact Keep.refl _ | (refine Keep.new ?_ (by simp only [*])))
 have go:∀v:Bool,(0≤c.p∧c.p.tmod n=0∧c.p≤z - n)→(yD c.pc && knownB c.l ((sz.length:Int) - 1))=v→endK F ((M.upd r3 ⟨p.cs,28,7⟩).upd r5 ⟨c.cs,84,10⟩) (Same F M (.bool R)) (.bool v):=fun v h e=>by
  refine qX kp5 ⟨?_,rfl,rfl⟩
  rw [←e,hR]
  simp [h.1,h.2.1,h.2.2]
 rcases hk with h | h | h
 ·have e0:decide (c.k=0)=true:=by simp [h]
  have e11:decide (c.k=11)=false:=by simp [h]
  have hks:isS c.k=false:=by simp [h,isS]
  have hcB:yD c.pc=(decide (c.v=V.zero) && decide (c.l.length=0)):=by
   unfold yD
   show (if c.k=0 then _ else _)=_
   rw [if_pos h]; rfl
  clear hkc h
  by_cases p0:0≤c.p
  rotate_left
  ·have p0':c.p < 0:=by omega
   simp only [go_sem,ew,hi]
   refine qQ (kB _ _ _) ?_
   simp only [go_sem,hbt]
   refine qQ kK ?_
   simp only [go_sem,hks,hM5,e0]
   refine qQ kS ?_
   simp only [go_sem,p0']
   exact no _ kp5 (.inr (.inl p0))
  have p0':¬c.p < 0:=by omega
  by_cases pz:z < c.p
  ·simp only [go_sem,ew,hi]
   refine qQ (kB _ _ _) ?_
   simp only [go_sem,hbt]
   refine qQ kK ?_
   simp only [go_sem,hks,hM5,e0]
   refine qQ kS ?_
   simp only [go_sem,hM5,hi,p0',hi0,hil',hb',yG,Option.isSome_some,d1,Int.toNat_natCast,pz,hF3,hM3,hF5]
   exact no _ kp5 (.inr (.inr (.inr (.inl (by omega)))))
  have ew4:=ew3 p0 (by omega)
  by_cases pn:z - c.p < n
  ·simp only [go_sem,ew,hi]
   refine qQ (kB _ _ _) ?_
   simp only [go_sem,hbt]
   refine qQ kK ?_
   simp only [go_sem,hks,hM5,e0]
   refine qQ kS ?_
   simp only [go_sem,hM5,hi,p0',hi0,hil',hb',yG,Option.isSome_some,d1,Int.toNat_natCast,pz,ew4,pn,hF3,hM3,hF5]
   exact no _ kp5 (.inr (.inr (.inr (.inl (by omega)))))
  by_cases pm:c.p.tmod n=0
  rotate_left
  ·simp only [go_sem,ew,hi]
   refine qQ (kB _ _ _) ?_
   simp only [go_sem,hbt]
   refine qQ kK ?_
   simp only [go_sem,hks,hM5,e0]
   refine qQ kS ?_
   simp only [go_sem,hM5,hi,p0',hi0,hil',hb',yG,Option.isSome_some,d1,Int.toNat_natCast,pz,ew4,pn,hF3,hM3,hF5,en,pm]
   exact no _ kp5 (.inr (.inr (.inl pm)))
  have pall:0≤c.p∧c.p.tmod n=0∧c.p≤z - n:=⟨p0,pm,by omega⟩
  simp only [go_sem,ew,hi]
  refine qQ (kB _ _ _) ?_
  simp only [go_sem,hbt]
  refine qQ kK ?_
  simp only [go_sem,hks,hM5,e0]
  refine qQ kS ?_
  simp only [go_sem,hM5,hi,p0',hi0,hil',hb',yG,Option.isSome_some,d1,Int.toNat_natCast,pz,ew4,pn,hF3,hM3,hF5,en,pm,e0]
  refine qQ kE ?_
  simp only [go_sem]
  refine go _ pall ?_
  rw [hcB]
  by_cases hl0:c.l.length=0
  ·have:c.l=[]:=List.eq_nil_of_length_eq_zero hl0
   simp [this,knownB]
  ·simp [hl0]
 ·have e0:decide (c.k=0)=false:=by simp [h]
  have e11:decide (c.k=11)=true:=by simp [h]
  have hks:isS c.k=false:=by simp [h,isS]
  have hcB:yD c.pc=(c.v.ok && decide (c.v.w=8) && jG c.l):=by
   have h0:¬c.k=0:=by omega
   unfold yD
   show (if c.k=0 then _ else if c.k=11 then _ else _)=_
   rw [if_neg h0,if_pos h]; rfl
  clear hkc h
  by_cases p0:0≤c.p
  rotate_left
  ·have p0':c.p < 0:=by omega
   simp only [go_sem,ew,hi]
   refine qQ (kB _ _ _) ?_
   simp only [go_sem,hbt]
   refine qQ kK ?_
   simp only [go_sem,hks,hM5,e0,e11]
   refine qQ kS ?_
   simp only [go_sem,p0']
   exact no _ kp5 (.inr (.inl p0))
  have p0':¬c.p < 0:=by omega
  by_cases pz:z < c.p
  ·simp only [go_sem,ew,hi]
   refine qQ (kB _ _ _) ?_
   simp only [go_sem,hbt]
   refine qQ kK ?_
   simp only [go_sem,hks,hM5,e0,e11]
   refine qQ kS ?_
   simp only [go_sem,hM5,hi,p0',hi0,hil',hb',yG,Option.isSome_some,d1,Int.toNat_natCast,pz,hF3,hM3,hF5]
   exact no _ kp5 (.inr (.inr (.inr (.inl (by omega)))))
  have ew4:=ew3 p0 (by omega)
  by_cases pn:z - c.p < n
  ·simp only [go_sem,ew,hi]
   refine qQ (kB _ _ _) ?_
   simp only [go_sem,hbt]
   refine qQ kK ?_
   simp only [go_sem,hks,hM5,e0,e11]
   refine qQ kS ?_
   simp only [go_sem,hM5,hi,p0',hi0,hil',hb',yG,Option.isSome_some,d1,Int.toNat_natCast,pz,ew4,pn,hF3,hM3,hF5]
   exact no _ kp5 (.inr (.inr (.inr (.inl (by omega)))))
  by_cases pm:c.p.tmod n=0
  rotate_left
  ·simp only [go_sem,ew,hi]
   refine qQ (kB _ _ _) ?_
   simp only [go_sem,hbt]
   refine qQ kK ?_
   simp only [go_sem,hks,hM5,e0,e11]
   refine qQ kS ?_
   simp only [go_sem,hM5,hi,p0',hi0,hil',hb',yG,Option.isSome_some,d1,Int.toNat_natCast,pz,ew4,pn,hF3,hM3,hF5,en,pm]
   exact no _ kp5 (.inr (.inr (.inl pm)))
  have pall:0≤c.p∧c.p.tmod n=0∧c.p≤z - n:=⟨p0,pm,by omega⟩
  simp only [go_sem,ew,hi]
  refine qQ (kB _ _ _) ?_
  simp only [go_sem,hbt]
  refine qQ kK ?_
  simp only [go_sem,hks,hM5,e0,e11]
  refine qQ kS ?_
  simp only [go_sem,hM5,hi,p0',hi0,hil',hb',yG,Option.isSome_some,d1,Int.toNat_natCast,pz,ew4,pn,hF3,hM3,hF5,en,pm,e0,e11]
  refine qQ kV ?_
  cases v1:c.v.ok
  ·simp only [go_sem]
   exact go _ pall (by rw [hcB,v1]; rfl)
  by_cases v2:c.v.w=8
  rotate_left
  ·simp only [go_sem,v2]
   exact go _ pall (by rw [hcB]; simp [v2])
  simp only [go_sem,v2]
  refine qQ kP ?_
  cases v3:jG c.l
  ·simp only [go_sem]
   exact go _ pall (by rw [hcB,v3]; simp)
  simp only [go_sem]
  refine qQ (kT v3) ?_
  simp only [go_sem]
  exact go _ pall (by rw [hcB,v1,v3]; simp [v2])
 ·have e0:decide (c.k=0)=false:=by rw [decide_eq_false]; rintro e; rw [e] at h; cases h
  have e11:decide (c.k=11)=false:=by rw [decide_eq_false]; rintro e; rw [e] at h; cases h
  have hks:isS c.k=true:=h
  have hcB:yD c.pc=(isS c.k && absB c.k c.v c.l):=by
   have h0:¬c.k=0:=by rintro e; rw [e] at h; cases h
   have h1:¬c.k=11:=by rintro e; rw [e] at h; cases h
   unfold yD
   show (if c.k=0 then _ else if c.k=11 then _ else _)=_
   rw [if_neg h0,if_neg h1]; rfl
  clear hkc h
  by_cases p0:0≤c.p
  rotate_left
  ·have p0':c.p < 0:=by omega
   simp only [go_sem,ew,hi]
   refine qQ (kB _ _ _) ?_
   simp only [go_sem,hbt]
   refine qQ kK ?_
   simp only [go_sem,hks,hM5]
   refine qQ kS ?_
   simp only [go_sem,p0']
   exact no _ kp5 (.inr (.inl p0))
  have p0':¬c.p < 0:=by omega
  by_cases pz:z < c.p
  ·simp only [go_sem,ew,hi]
   refine qQ (kB _ _ _) ?_
   simp only [go_sem,hbt]
   refine qQ kK ?_
   simp only [go_sem,hks,hM5]
   refine qQ kS ?_
   simp only [go_sem,hM5,hi,p0',hi0,hil',hb',yG,Option.isSome_some,d1,Int.toNat_natCast,pz,hF3,hM3,hF5]
   exact no _ kp5 (.inr (.inr (.inr (.inl (by omega)))))
  have ew4:=ew3 p0 (by omega)
  by_cases pn:z - c.p < n
  ·simp only [go_sem,ew,hi]
   refine qQ (kB _ _ _) ?_
   simp only [go_sem,hbt]
   refine qQ kK ?_
   simp only [go_sem,hks,hM5]
   refine qQ kS ?_
   simp only [go_sem,hM5,hi,p0',hi0,hil',hb',yG,Option.isSome_some,d1,Int.toNat_natCast,pz,ew4,pn,hF3,hM3,hF5]
   exact no _ kp5 (.inr (.inr (.inr (.inl (by omega)))))
  by_cases pm:c.p.tmod n=0
  rotate_left
  ·simp only [go_sem,ew,hi]
   refine qQ (kB _ _ _) ?_
   simp only [go_sem,hbt]
   refine qQ kK ?_
   simp only [go_sem,hks,hM5]
   refine qQ kS ?_
   simp only [go_sem,hM5,hi,p0',hi0,hil',hb',yG,Option.isSome_some,d1,Int.toNat_natCast,pz,ew4,pn,hF3,hM3,hF5,en,pm]
   exact no _ kp5 (.inr (.inr (.inl pm)))
  have pall:0≤c.p∧c.p.tmod n=0∧c.p≤z - n:=⟨p0,pm,by omega⟩
  simp only [go_sem,ew,hi]
  refine qQ (kB _ _ _) ?_
  simp only [go_sem,hbt]
  refine qQ kK ?_
  simp only [go_sem,hks,hM5]
  refine qQ kS ?_
  simp only [go_sem,hM5,hi,p0',hi0,hil',hb',yG,Option.isSome_some,d1,Int.toNat_natCast,pz,ew4,pn,hF3,hM3,hF5,en,pm,e0,e11]
  refine qQ kA ?_
  cases v3:absB c.k c.v c.l
  ·simp only [go_sem]
   exact go _ pall (by rw [hcB,v3]; simp)
  simp only [go_sem]
  refine qQ (kT (abs_ptrs v3)) ?_
  simp only [go_sem]
  exact go _ pall (by rw [hcB,v3,hks]; simp)
def pagI (p:Pg)(e:En)(F:Fz)(M1:Hp)(i:Nat)(σ:Env)(F':Fz)(M':Hp):Prop:=
 F=F'∧M1=M'∧Ax.look σ 6=some (.int .i64 i)∧cellsUp p.ptr (wJ p) e.pe.cells i=true
def pagN (e:En)(F:Fz)(M1:Hp)(i:Nat)(σ:Env)(F':Fz)(M':Hp):Prop:=
 F=F'∧M1=M'∧Ax.look σ 7=some (.int .i64 i)∧(e.news.take i).all inB=true
theorem k13 (p:Pg)(e:En)(hp:p.rd F)(hold:Old F M)(hc:yK p=true)(h:e.rd F M):CallsA Tryz.prog 13 [p.val,e.val] F M (Same F M (.bool (envB p e.pe))):=by
 refine qZ hm Tryz.func13 e13 (Nat.le_of_ble_eq_true rfl) ?_
 have hfew:=hp.few
 have hl1:=h.cells.1
 have hl2:=h.news.1
 have hpre:=jW hc
 have hsl:=sizes_len p
 simp only [c13,go_sem]
 intro r2 hF2 hM2
 simp only [go_sem]
 intro r3 hF3 hM3
 simp only [wW] at hM3
 have old3:Old F ((M.upd r2 ⟨p.cs,28,7⟩).upd r3 ⟨e.cs,46,3⟩):=(by repeat' first | assumption | (refine Old.upd ?_ (by assumption)))
 have f2:((M.upd r2 ⟨p.cs,28,7⟩).upd r3 ⟨e.cs,46,3⟩) r2=some ⟨p.cs,28,7⟩:=by rw [Hp.qK hM3.1.2]; exact Hp.qJ _ _ _
 have f3:((M.upd r2 ⟨p.cs,28,7⟩).upd r3 ⟨e.cs,46,3⟩) r3=some ⟨e.cs,46,3⟩:=Hp.qJ _ _ _
 have kp3:Keep M ((M.upd r2 ⟨p.cs,28,7⟩).upd r3 ⟨e.cs,46,3⟩):=(by repeat' first | exact Keep.refl _ | (refine Keep.new ?_ (by simp only [*])))
 generalize (M.upd r2 ⟨p.cs,28,7⟩).upd r3 ⟨e.cs,46,3⟩=M1 at *
 have h1:=h.keep kp3 old3
 have b2:=qG (F:=F) f2
 have b3:=qG (F:=F) f3
 clear hM2 hM3 hF2 hF3
 have no:∀v:Bool,envB p e.pe=v→∀M',Keep M1 M'→endK F M' (Same F M (.bool (envB p e.pe))) (.bool v):=fun v h M' k=>qX (kp3.trans k) ⟨by rw [h],rfl,rfl⟩
 have hlen:e.pe.cells.length=e.cells.length:=by simp [En.pe]
 have z1:((e.cells.length:Int)=0)=(e.cells.length=0):=by apply propext; omega
 have z2:((e.news.length:Int)=0)=(e.news.length=0):=by apply propext; omega
 by_cases hno:e.no=true
 ·have hR:envB p e.pe=(decide (e.cells.length=0) && decide (e.news.length=0)):=by
   have:e.pe.no=true:=hno
   unfold envB
   rw [if_pos this,hlen]; rfl
  by_cases h0:(e.cells.length:Int)=0
  ·by_cases h1:(e.news.length:Int)=0
   ·simp only [go_sem,b3,hno,h0,h1]
    exact no _ (by rw [z1] at h0; rw [z2] at h1; rw [hR]; simp [h0,h1]) _ (Keep.refl _)
   ·simp only [go_sem,b3,hno,h0,h1]
    exact no _ (by rw [z2] at h1; rw [hR]; simp [h1]) _ (Keep.refl _)
  ·simp only [go_sem,b3,hno,h0]
   exact no _ (by rw [z1] at h0; rw [hR]; simp [h0]) _ (Keep.refl _)
 clear z1 z2
 have hno':e.no=false:=by simpa using hno
 have hR:envB p e.pe=(decide (e.cells.length≤200) && decide (e.news.length=p.news.length) && e.news.all inB && cellsUp p.ptr (wJ p) e.pe.cells e.cells.length):=by
  have:¬e.pe.no=true:=hno
  unfold envB
  rw [if_neg this,hlen]; rfl
 by_cases h200:(200:Int) < e.cells.length
 ·have:¬e.cells.length≤200:=by omega
  simp only [go_sem,b3,hno',h200]
  exact no _ (by rw [hR]; simp [this]) _ (Keep.refl _)
 have h200':e.cells.length≤200:=by omega
 by_cases hnn:(e.news.length:Int)=p.news.length
 rotate_left
 ·have:¬e.news.length=p.news.length:=by omega
  simp only [go_sem,b2,b3,hno',h200,hnn]
  exact no _ (by rw [hR]; simp [this]) _ (Keep.refl _)
 have hnn':e.news.length=p.news.length:=by omega
 rw [decide_eq_true h200',decide_eq_true hnn'] at hR
 simp only [go_sem,b2,b3,hno',h200,hnn]
 refine qY (k30 F M1 p hp old3) ?_
 rintro u G M2 hq
 obtain ⟨hG,le,kq,oq,aq,cq,rfl,rdq⟩:=hq.le wD (by omega)
 rw [hG]
 refine ⟨(fun h=>by cases h),?_⟩
 have old2:=oq old3
 have h2:=h1.keep kq old2
 have b2':=qG (F:=F) (kq _ _ f2)
 have b3':=qG (F:=F) (kq _ _ f3)
 clear le oq hq hG h1 old3
 simp only [go_sem]
 refine yX e.cells.length (pagI p e F M2) ⟨rfl,rfl,(by simp only [go_sem, *] <;> rfl),rfl⟩ ?_
 rintro i σ F' M3 hi hs ⟨rfl,rfl,q6,he⟩
 have q2:=hs 2 rfl
 have q3:=hs 3 rfl
 have q5:=hs 5 rfl
 simp only [go_sem] at q2 q3 q5
 clear hs
 by_cases hil:(i:Int) < e.cells.length
 ·have hi0:(0:Int)≤i:=by omega
  have hi1:i < e.cells.length:=by omega
  have ei:IntKind.i64.wrap ((i:Int)+1)=i+1:=w64 (by omega) (by omega)
  obtain ⟨b,o,cs,ea,hb,rows⟩:=h2.cells.rows (by omega)
  obtain ⟨d1,d2⟩:=rows i hi1
  have hci:e.cells[i].rd F M2:=h2.ptrs _ (List.getElem_mem hi1)
  have hup:upAt p.ptr (wJ p) e.pe.cells i=(cellB p.ptr (wJ p) e.cells[i].pc && (decide (i=0) || prevOk e.pe.cells i e.cells[i].pc)):=by
   have:e.pe.cells[i]? = some e.cells[i].pc:=by simp [En.pe,List.getElem?_eq_getElem hi1]
   exact upAt_get this
  have hno2:upAt p.ptr (wJ p) e.pe.cells i=false→envB p e.pe=false:=fun h=>by rw [hR,cellsUp_no hi1 h]; simp
  have hpr:∀hi2:0 < i,∃y:Cl,(cs.drop (o+(i - 1) * 10)).take 10=y.cs∧o+(i - 1) * 10+10≤cs.length∧prevOk e.pe.cells i e.cells[i].pc=beforeB y.pc e.cells[i].pc:=fun hi2=>by
   have hi3:i - 1 < e.cells.length:=by omega
   obtain ⟨d3,d4⟩:=rows (i - 1) hi3
   exact ⟨e.cells[i - 1],d4,d3,prevOk_get (by simp [En.pe,List.getElem?_eq_getElem hi3])⟩
  clear rows
  generalize e.cells[i]=x at *
  have no3:upAt p.ptr (wJ p) e.pe.cells i=false→endK F M2 (Same F M (.bool (envB p e.pe))) (.bool false):=fun h=>no _ (hno2 h) _ kq
  have yes:upAt p.ptr (wJ p) e.pe.cells i=true→∀σ',Ax.look σ' 6=some (.int .i64 ((i+1:Nat):Int))→Nxt (pagI p e F M2) e.cells.length i σ' F M2:=
   fun h σ' e39=>⟨hi1,rfl,rfl,e39,by rw [cellsUp_succ,he,h]; rfl⟩
  rw [hup] at no3 yes
  clear hup hno2 he hR no
  simp only [go_sem,q2,q3,q5,q6,hil,hi0,b2',b3',ea,Int.toNat_natCast,hb,d1,d2]
  refine qQ (k31 F _ p _ _ _ x rdq (sizes_in hc) hpre.1 hci) ?_
  cases hcb:cellB p.ptr (wJ p) x.pc
  ·simp only [go_sem]
   exact no3 (by rw [hcb]; rfl)
  rw [hcb,Bool.true_and] at no3 yes
  by_cases hz:(0:Int) < i
  rotate_left
  ·have hz':i=0:=by omega
   simp only [go_sem,q6,hz,ei]
   exact yes (by rw [hz']; rfl) _ (by simp only [go_sem, *] <;> rfl)
  have hz':0 < i:=by omega
  have hz0:¬i=0:=by omega
  obtain ⟨y,d3,d4,hy⟩:=hpr hz'
  rw [hy,decide_eq_false hz0,Bool.false_or] at no3 yes
  have ej:IntKind.i64.wrap ((i:Int) - 1)=((i - 1:Nat):Int):=by rw [w64 (by omega) (by omega)]; omega
  have hj0:(0:Int)≤((i - 1:Nat):Int):=by omega
  have hjl:((i - 1:Nat):Int) < e.cells.length:=by omega
  simp only [go_sem,q3,q6,hz,b3',ej,hj0,hjl,hi0,hil,ea,Int.toNat_natCast,hb,d1,d2,d3,d4]
  refine qQ (k32 F M2 y x) ?_
  cases hbf:beforeB y.pc x.pc
  ·simp only [go_sem]
   exact no3 hbf
  ·simp only [go_sem,q6,ei]
   exact yes hbf _ (by simp only [go_sem, *] <;> rfl)
 have hx:i=e.cells.length:=by omega
 rw [hx] at he
 rw [he,Bool.and_true,Bool.true_and,Bool.true_and] at hR
 simp only [go_sem,q3,q6,hil,b3']
 refine yX e.news.length (pagN e F M2) ⟨rfl,rfl,(by simp only [go_sem, *] <;> rfl),rfl⟩ ?_
 rintro k σ3 F' M3 hk hs ⟨rfl,rfl,q7,he3⟩
 have t3:=hs 3 rfl
 simp only [go_sem,q3] at t3
 clear hs
 by_cases hkl:(k:Int) < e.news.length
 ·have hk0:(0:Int)≤k:=by omega
  have hk1:k < e.news.length:=by omega
  have ek:IntKind.i64.wrap ((k:Int)+1)=k+1:=w64 (by omega) (by omega)
  obtain ⟨b4,o4,cs4,ea4,hb4,e1⟩:=Ax.gH h2.news hk1
  have t1:=List.take_succ_eq_append_getElem hk1
  have hbad:inB e.news[k]=false→envB p e.pe=false:=fun h=>by
   rw [hR,List.all_eq_false]; exact ⟨_,List.getElem_mem hk1,by simp [h]⟩
  generalize e.news[k]=y at *
  simp only [go_sem,t3,q7,hkl,hk0,b3',ea4,Int.toNat_natCast,hb4,e1]
  refine qQ (k33 F M2 y 1 15) ?_
  cases hy:inB y
  ·have hy':(decide (1≤y) && decide (y≤15))=false:=hy
   simp only [go_sem,hy']
   exact no _ (hbad hy) _ kq
  ·have hy':(decide (1≤y) && decide (y≤15))=true:=hy
   simp only [go_sem,hy',q7,ek]
   exact ⟨hk1,rfl,rfl,(by simp only [go_sem, *] <;> rfl),by rw [t1,List.all_append,he3]; simp [hy]⟩
 have hall:e.news.all inB=true:=by rw [List.take_of_length_le (by omega)] at he3; exact he3
 simp only [go_sem,t3,q7,hkl,b3']
 exact no _ (by rw [hR,hall]) _ kq
end Go.Proofs.Tryz.K
