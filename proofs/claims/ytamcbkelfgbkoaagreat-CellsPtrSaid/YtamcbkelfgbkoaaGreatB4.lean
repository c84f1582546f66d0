/- Parts B4: the machine's runs of small codes, contracts of functions, plain facts. -/
import Derived.Test.YtamcbkelfgbkoaaGreatB3
set_option maxRecDepth 100000
set_option linter.unusedSimpArgs false
set_option linter.unusedVariables false
set_option maxHeartbeats 8000000
namespace Go.Proofs.Tryz.K
open Go Go.Ax Go.Proofs.Tryz.S
variable (F:Fz) (M:Hp)
theorem k219 (v:V)(h0:0≤v.w)(hw:v.w≤62):CallsA Tryz.prog 219 [v.val] F M fun u F' M'=>F'=F∧∃r,F r=none∧M r=none∧
  ((v.low≤v.high∧u=.slice (some ⟨r,0,none⟩) 1 1∧M'=M.upd r ⟨[.int .i64 v.low,.int .i64 v.high],246,2⟩)∨
   (¬v.low≤v.high∧u=.slice (some ⟨r,0,none⟩) 2 2∧M'=M.upd r ⟨[.int .i64 0,.int .i64 v.high,.int .i64 v.low,.int .i64 (wH v.w)],246,4⟩)):=by
 refine qZ hm Tryz.func219 e219 (Nat.le_of_ble_eq_true rfl) ?_
 simp only [c219,go_sem]
 intro r hF hM
 simp only [go_sem]
 by_cases hlh:v.low≤v.high
 ·simp only [go_sem,hlh]
  intro r1 hF1 hM1
  have g:=wV hM1
  simp only [go_sem]
  refine endK_comm g.2.1 (qV (by rw [upd_none]; exact ⟨g.2.1,hM⟩) (qW ⟨rfl,r1,hF1,g.2.2,.inl ⟨rfl,rfl⟩⟩))
 ·simp only [go_sem,hlh]
  refine qQ (k170 F _ v.w h0 hw) ?_
  simp only [go_sem]
  intro r1 hF1 hM1
  have g:=wV hM1
  simp only [go_sem]
  refine endK_comm g.2.1 (qV (by rw [upd_none]; exact ⟨g.2.1,hM⟩) (qW ⟨rfl,r1,hF1,g.2.2,rfl,rfl⟩))
def fromI (v:V)(n:Int)(F:Fz)(M:Hp)(r r1 len:Nat)(cells:List Value)(m:Nat)(σ:Env)(F':Fz)(M':Hp):Prop:=
 F'=F∧M' r=some ⟨v.cs,59,6⟩∧M' r1=some ⟨cells,246,cells.length⟩∧Wk F M' F M∧Ax.look σ 1=some (.int .i64 n)∧Ax.look σ 2=some (.pointer (some ⟨r,0,none⟩))∧
  Ax.look σ 18=some (.slice (some ⟨r1,0,none⟩) len len)∧Ax.look σ 19=some (.int .i64 len)∧
  (m=len∧Ax.look σ 20=some (.int .i64 0)∨m+1=len∧Ax.look σ 20=some (.int .i64 1)∧v.tryP n v.p0=none∨len=2∧m=0∧Ax.look σ 20=some (.int .i64 2)∧v.tryP n v.p0=none∧v.tryP n v.p1=none)
theorem k172 (v:V)(n:Int)(hv:v.ok=true):CallsA Tryz.prog 172 [v.val,.int .i64 n] F M (Same F M (.int .i64 (v.wQ n))):=by
 refine qZ hm Tryz.func172 e172 (Nat.le_of_ble_eq_true rfl) ?_
 have hl:=gQ (ok_isW hv)
 simp only [c172,go_sem]
 intro r hF hM
 simp only [go_sem]
 cases hno:v.no
 rotate_left
 ·simp only [go_sem]
  exact qV hM (qW ⟨by simp [V.wQ,hno],rfl,rfl⟩)
 simp only [go_sem]
 refine qQ (k170 F _ v.w hl.1 hl.2) ?_
 by_cases hbig:wH v.w < n
 ·simp only [go_sem,hbig]
  exact qV hM (qW ⟨by rw [V.wQ,if_pos (.inr (by unfold wH at hbig; omega))],rfl,rfl⟩)
 have hc:¬(v.no=true∨2 ^ v.w.toNat≤n):=by unfold wH at hbig; simp [hno]; omega
 obtain ⟨hp0,hp1,hq0,hq1⟩:=parts_in hv hno
 simp only [go_sem,hbig]
 refine qY (k219 F _ v hl.1 hl.2) ?_
 rintro u G' M' ⟨hG,r1,hF1,hM1,⟨hlh,rfl,rfl⟩ | ⟨hlh,rfl,rfl⟩⟩ <;> rw [hG]
 ·have g1:=wV hM1
  refine ⟨(fun h=>by cases h),?_⟩
  simp only [go_sem]
  refine loop_of (fromI v n F M r r1 1 [.int .i64 v.p0.1,.int .i64 v.p0.2]) 1 ?_ ?_
  ·exact ⟨rfl,by rw [Hp.qK g1.2.1]; exact Hp.qJ _ _ _,(Hp.qJ _ _ _).trans (by simp [V.p0,hlh]),(Wk.drop hM1).trans (Wk.drop hM),by simp only [go_sem],by simp only [go_sem],by simp only [go_sem],by simp only [go_sem],.inl ⟨rfl,by simp only [go_sem]⟩⟩
  rintro m σ F' M' ⟨rfl,f1,f2,hk,h1,h2,h18,h19,h20⟩
  have b1:=qG (F:=F') f1
  have b2:=qG (F:=F') f2
  rcases h20 with ⟨rfl,h20⟩ | ⟨hm1,h20,t0⟩ | ⟨hcf,_⟩
  ·simp only [go_sem,h18,h19,b2,h20]
   intro rp hFp hMp
   have g2:=qH hMp f1
   have g3:=qH hMp f2
   simp only [go_sem,h1]
   by_cases a1:v.p0.2 < n
   ·simp only [go_sem,h20,a1]
    have t0:v.tryP n v.p0=none:=tryP_out (.inl a1)
    exact ⟨0,by omega,rfl,by rw [Hp.qK g2.1]; exact f1,by rw [Hp.qK g3.1]; exact f2,(Wk.drop hMp).trans hk,by simp only [go_sem,h1],by simp only [go_sem,h2],by simp only [go_sem,h18],by simp only [go_sem,h19],.inr (.inl ⟨rfl,by simp only [go_sem],t0⟩)⟩
   ·have hle:v.p0.1≤v.p0.2:=hp0
    have hmx:=mx_in (n:=n) (p:=v.p0) a1 hle
    have hfm:=fillF_eq hv hno (n:=mx n v.p0.1) (by have:=hq0; omega) (by have:=hq0; omega)
    simp only [go_sem,h1,h2,b1,g2,a1]
    refine qQ (k220 _ _ v (mx n v.p0.1) hl.2) ?_
    rw [hfm]
    by_cases a2:0≤v.jH (mx n v.p0.1)
    ·simp only [go_sem,a2]
     by_cases a3:v.jH (mx n v.p0.1)≤v.p0.2
     ·simp only [go_sem,a3]
      have q:v.tryP n v.p0=some (v.jH (mx n v.p0.1)):=tryP_hit hmx.2 a2 a3
      exact ⟨_,_,(Wk.drop hMp).trans hk,by simp [V.wQ,hc,q],rfl,rfl⟩
     ·simp only [go_sem,h20,a3]
      have t0:v.tryP n v.p0=none:=tryP_out (.inr (.inr a3))
      exact ⟨0,by omega,rfl,by rw [Hp.qK g2.1]; exact f1,by rw [Hp.qK g3.1]; exact f2,(Wk.drop hMp).trans hk,by simp only [go_sem,h1],by simp only [go_sem,h2],by simp only [go_sem,h18],by simp only [go_sem,h19],.inr (.inl ⟨rfl,by simp only [go_sem],t0⟩)⟩
    ·simp only [go_sem,h20,a2]
     have t0:v.tryP n v.p0=none:=tryP_out (.inr (.inl a2))
     exact ⟨0,by omega,rfl,by rw [Hp.qK g2.1]; exact f1,by rw [Hp.qK g3.1]; exact f2,(Wk.drop hMp).trans hk,by simp only [go_sem,h1],by simp only [go_sem,h2],by simp only [go_sem,h18],by simp only [go_sem,h19],.inr (.inl ⟨rfl,by simp only [go_sem],t0⟩)⟩
  ·obtain rfl:m=0:=by omega
   simp only [go_sem,h19,h20]
   have t1:v.tryP n v.p1=none:=by rw [show v.p1=(0,-1) by simp [V.p1,hlh]]; exact tryP_void
   exact ⟨_,_,hk,by simp [V.wQ,hc,t0,t1],rfl,rfl⟩
  ·simp at hcf
 ·have g1:=wV hM1
  refine ⟨(fun h=>by cases h),?_⟩
  simp only [go_sem]
  refine loop_of (fromI v n F M r r1 2 [.int .i64 v.p0.1,.int .i64 v.p0.2,.int .i64 v.p1.1,.int .i64 v.p1.2]) 2 ?_ ?_
  ·exact ⟨rfl,by rw [Hp.qK g1.2.1]; exact Hp.qJ _ _ _,(Hp.qJ _ _ _).trans (by simp [V.p0,V.p1,hlh]),(Wk.drop hM1).trans (Wk.drop hM),by simp only [go_sem],by simp only [go_sem],by simp only [go_sem],by simp only [go_sem],.inl ⟨rfl,by simp only [go_sem]⟩⟩
  rintro m σ F' M' ⟨rfl,f1,f2,hk,h1,h2,h18,h19,h20⟩
  have b1:=qG (F:=F') f1
  have b2:=qG (F:=F') f2
  rcases h20 with ⟨rfl,h20⟩ | ⟨hm1,h20,t0⟩ | ⟨_,rfl,h20,t0,t1⟩
  ·simp only [go_sem,h18,h19,b2,h20]
   intro rp hFp hMp
   have g2:=qH hMp f1
   have g3:=qH hMp f2
   simp only [go_sem,h1]
   by_cases a1:v.p0.2 < n
   ·simp only [go_sem,h20,a1]
    have t0:v.tryP n v.p0=none:=tryP_out (.inl a1)
    exact ⟨1,by omega,rfl,by rw [Hp.qK g2.1]; exact f1,by rw [Hp.qK g3.1]; exact f2,(Wk.drop hMp).trans hk,by simp only [go_sem,h1],by simp only [go_sem,h2],by simp only [go_sem,h18],by simp only [go_sem,h19],.inr (.inl ⟨rfl,by simp only [go_sem],t0⟩)⟩
   ·have hle:v.p0.1≤v.p0.2:=hp0
    have hmx:=mx_in (n:=n) (p:=v.p0) a1 hle
    have hfm:=fillF_eq hv hno (n:=mx n v.p0.1) (by have:=hq0; omega) (by have:=hq0; omega)
    simp only [go_sem,h1,h2,b1,g2,a1]
    refine qQ (k220 _ _ v (mx n v.p0.1) hl.2) ?_
    rw [hfm]
    by_cases a2:0≤v.jH (mx n v.p0.1)
    ·simp only [go_sem,a2]
     by_cases a3:v.jH (mx n v.p0.1)≤v.p0.2
     ·simp only [go_sem,a3]
      have q:v.tryP n v.p0=some (v.jH (mx n v.p0.1)):=tryP_hit hmx.2 a2 a3
      exact ⟨_,_,(Wk.drop hMp).trans hk,by simp [V.wQ,hc,q],rfl,rfl⟩
     ·simp only [go_sem,h20,a3]
      have t0:v.tryP n v.p0=none:=tryP_out (.inr (.inr a3))
      exact ⟨1,by omega,rfl,by rw [Hp.qK g2.1]; exact f1,by rw [Hp.qK g3.1]; exact f2,(Wk.drop hMp).trans hk,by simp only [go_sem,h1],by simp only [go_sem,h2],by simp only [go_sem,h18],by simp only [go_sem,h19],.inr (.inl ⟨rfl,by simp only [go_sem],t0⟩)⟩
    ·simp only [go_sem,h20,a2]
     have t0:v.tryP n v.p0=none:=tryP_out (.inr (.inl a2))
     exact ⟨1,by omega,rfl,by rw [Hp.qK g2.1]; exact f1,by rw [Hp.qK g3.1]; exact f2,(Wk.drop hMp).trans hk,by simp only [go_sem,h1],by simp only [go_sem,h2],by simp only [go_sem,h18],by simp only [go_sem,h19],.inr (.inl ⟨rfl,by simp only [go_sem],t0⟩)⟩
  ·obtain rfl:m=1:=by omega
   simp only [go_sem,h18,h19,b2,h20]
   intro rp hFp hMp
   have g2:=qH hMp f1
   have g3:=qH hMp f2
   simp only [go_sem,h1]
   by_cases a1:v.p1.2 < n
   ·simp only [go_sem,h20,a1]
    have t1:v.tryP n v.p1=none:=tryP_out (.inl a1)
    exact ⟨0,by omega,rfl,by rw [Hp.qK g2.1]; exact f1,by rw [Hp.qK g3.1]; exact f2,(Wk.drop hMp).trans hk,by simp only [go_sem,h1],by simp only [go_sem,h2],by simp only [go_sem,h18],by simp only [go_sem,h19],.inr (.inr ⟨rfl,rfl,by simp only [go_sem],t0,t1⟩)⟩
   ·have hle:v.p1.1≤v.p1.2:=hp1 hlh
    have hmx:=mx_in (n:=n) (p:=v.p1) a1 hle
    have hfm:=fillF_eq hv hno (n:=mx n v.p1.1) (by have:=hq1; omega) (by have:=hq1; omega)
    simp only [go_sem,h1,h2,b1,g2,a1]
    refine qQ (k220 _ _ v (mx n v.p1.1) hl.2) ?_
    rw [hfm]
    by_cases a2:0≤v.jH (mx n v.p1.1)
    ·simp only [go_sem,a2]
     by_cases a3:v.jH (mx n v.p1.1)≤v.p1.2
     ·simp only [go_sem,a3]
      have q:v.tryP n v.p1=some (v.jH (mx n v.p1.1)):=tryP_hit hmx.2 a2 a3
      exact ⟨_,_,(Wk.drop hMp).trans hk,by simp [V.wQ,hc,q,t0],rfl,rfl⟩
     ·simp only [go_sem,h20,a3]
      have t1:v.tryP n v.p1=none:=tryP_out (.inr (.inr a3))
      exact ⟨0,by omega,rfl,by rw [Hp.qK g2.1]; exact f1,by rw [Hp.qK g3.1]; exact f2,(Wk.drop hMp).trans hk,by simp only [go_sem,h1],by simp only [go_sem,h2],by simp only [go_sem,h18],by simp only [go_sem,h19],.inr (.inr ⟨rfl,rfl,by simp only [go_sem],t0,t1⟩)⟩
    ·simp only [go_sem,h20,a2]
     have t1:v.tryP n v.p1=none:=tryP_out (.inr (.inl a2))
     exact ⟨0,by omega,rfl,by rw [Hp.qK g2.1]; exact f1,by rw [Hp.qK g3.1]; exact f2,(Wk.drop hMp).trans hk,by simp only [go_sem,h1],by simp only [go_sem,h2],by simp only [go_sem,h18],by simp only [go_sem,h19],.inr (.inr ⟨rfl,rfl,by simp only [go_sem],t0,t1⟩)⟩
  ·simp only [go_sem,h19,h20]
   exact ⟨_,_,hk,by simp [V.wQ,hc,t0,t1],rfl,rfl⟩
def matchI (v:V)(n:Int)(F:Fz)(M:Hp)(r:Nat)(m:Nat)(σ:Env)(F':Fz)(M':Hp):Prop:=
 F'=F∧M'=M.upd r ⟨v.cs,59,6⟩∧∃j:Nat,j+m=v.w.toNat∧Ax.look σ 1=some (.int .i64 n)∧Ax.look σ 2=some (.pointer (some ⟨r,0,none⟩))∧Ax.look σ 5=some (.int .i64 j)∧v.matchGo n m j=v.jH n
theorem k150 (v:V)(n:Int)(hw:v.w≤62):CallsA Tryz.prog 150 [v.val,.int .i64 n] F M (Same F M (.int .i64 (v.jH n))):=by
 refine qZ hm Tryz.func150 e150 (Nat.le_of_ble_eq_true rfl) ?_
 simp only [c150,go_sem]
 intro r hF hM
 simp only [go_sem]
 by_cases hb:bclr .i64 n v.free=v.bits
 ·simp only [go_sem,hb]
  exact qV hM (qW ⟨by simp [V.jH,hb],rfl,rfl⟩)
 simp only [go_sem,hb]
 refine loop_of (matchI v n F M r) v.w.toNat ?_ ?_
 ·exact ⟨rfl,rfl,0,by omega,by simp only [go_sem],by simp only [go_sem],by simp only [go_sem],by simp [V.jH,hb]⟩
 ·rintro m σ F' M' ⟨rfl,rfl,j,hj,h1,h2,h5,hg⟩
  by_cases hjw:(j:Int) < v.w
  ·obtain ⟨f,rfl⟩:∃f,m=f+1:=⟨m - 1,by omega⟩
   have e1:IntKind.i64.wrap ((j:Int)+1)=j+1:=w64 (by omega) (by omega)
   have e2:¬((j:Int)+1 < 0):=by omega
   have e3:¬((j:Int) < 0):=by omega
   have e4:shlv .i64 1 (j:Int)=2 ^ j:=by rw [shl1 (by omega) (by omega)]; simp
   have e5:IntKind.i64.wrap ((2:Int) ^ j - 1)=2 ^ j - 1:=by
    have:=most_wrap (w:=(j:Int)) (by omega) (by omega)
    simpa [wH] using this
   simp only [go_sem,h1,h2,h5,hjw,e1,e2]
   simp only [V.matchGo] at hg
   by_cases a1:shrv .i64 (bxor .i64 (bclr .i64 n v.free) v.bits) (j+1)=0
   ·simp only [go_sem,e3,h1,h5,a1]
    by_cases a2:band .i64 (shrv .i64 n j) 1=0
    ·simp only [go_sem,e3,h2,h5,a2]
     by_cases a3:band .i64 (shrv .i64 v.free j) 1=1
     ·simp only [go_sem,e1,e2,e3,e4,e5,h1,h2,h5,a3]
      exact qV hM (qW ⟨by rw [←hg,V.matchStep,if_pos ⟨a1,a2,.inl a3⟩],rfl,rfl⟩)
     ·simp only [go_sem,e3,h2,h5,a3]
      by_cases a4:band .i64 (shrv .i64 v.bits j) 1=1
      ·simp only [go_sem,e1,e2,e3,e4,e5,h1,h2,h5,a4]
       exact qV hM (qW ⟨by rw [←hg,V.matchStep,if_pos ⟨a1,a2,.inr a4⟩],rfl,rfl⟩)
      ·simp only [go_sem,e1,h5,a4]
       exact ⟨f,by omega,rfl,rfl,j+1,by omega,by simp only [go_sem,h1],by simp only [go_sem,h2],by simp only [go_sem]; rfl,by rw [←hg,V.matchStep,if_neg (by simp [a3,a4])]⟩
    ·simp only [go_sem,e1,h5,a2]
     exact ⟨f,by omega,rfl,rfl,j+1,by omega,by simp only [go_sem,h1],by simp only [go_sem,h2],by simp only [go_sem]; rfl,by rw [←hg,V.matchStep,if_neg (by simp [a2])]⟩
   ·simp only [go_sem,e1,h5,a1]
    exact ⟨f,by omega,rfl,rfl,j+1,by omega,by simp only [go_sem,h1],by simp only [go_sem,h2],by simp only [go_sem]; rfl,by rw [←hg,V.matchStep,if_neg (by simp [a1])]⟩
  ·simp only [go_sem,h2,h5,hjw]
   obtain rfl:m=0:=by omega
   exact qV hM (qW ⟨by rw [←hg]; rfl,rfl,rfl⟩)
def nextI (v:V)(n:Int)(F:Fz)(M:Hp)(r ra rb:Nat)(m:Nat)(σ:Env)(F':Fz)(M':Hp):Prop:=
 F'=F∧M'=M∧Ax.look σ 1=some (.int .i64 n)∧Ax.look σ 2=some (.pointer (some ⟨r,0,none⟩))∧
  Ax.look σ 5=some (.slice (some ⟨ra,0,none⟩) 2 2)∧Ax.look σ 6=some (.slice (some ⟨rb,0,none⟩) 2 2)∧
  (m=2∧Ax.look σ 7=some (.int .i64 0)∨m=1∧Ax.look σ 7=some (.int .i64 1)∧v.tryP n v.p0=none∨m=0∧Ax.look σ 7=some (.int .i64 2)∧v.tryP n v.p0=none∧v.tryP n v.p1=none)
theorem k92 (v:V)(n:Int)(h0:0≤v.w)(hw:v.w≤62):CallsA Tryz.prog 92 [v.val,.int .i64 n] F M (Same F M (.int .i64 (v.wQ n))):=by
 refine qZ hm Tryz.func92 e92 (Nat.le_of_ble_eq_true rfl) ?_
 simp only [c92,go_sem]
 intro r hF hM
 simp only [go_sem]
 have w0:¬v.w < 0:=by omega
 cases hno:v.no
 rotate_left
 ·simp only [go_sem]
  exact qV hM (qW ⟨by simp [V.wQ,hno],rfl,rfl⟩)
 by_cases hbig:2 ^ v.w.toNat≤n
 ·simp only [go_sem,w0,shl1 h0 hw,hbig]
  exact qV hM (qW ⟨by simp [V.wQ,hbig],rfl,rfl⟩)
 have hc:¬(v.no=true∨2 ^ v.w.toNat≤n):=by simp [hno]; omega
 simp only [go_sem,w0,shl1 h0 hw,hbig]
 by_cases hlh:v.high < v.low
 ·have hlh':¬v.low≤v.high:=by omega
  intro rx hFx hMx
  have gx:=wV hMx
  simp only [go_sem,gx]
  intro ry hFy hMy
  have gy:=wV hMy
  have gy':=wV gy.2.2
  simp only [go_sem,gx,gy',hlh,w0,shl1 h0 hw,most_wrap h0 hw]
  intro ra hFa hMa
  simp only [go_sem]
  intro rb hFb hMb
  have ga:=wV hMa
  have ga':=wV ga.2.2
  have ga'':=wV ga'.2.2
  have gb:=wV hMb
  have gb':=wV gb.2.2
  have gb'':=wV gb'.2.2
  have gb3:=wV gb''.2.2
  simp only [go_sem]
  have hk:Wk F (((((M.upd r ⟨v.cs,59,6⟩).upd rx ⟨[.int .i64 v.low,.int .i64 0],3,2⟩).upd ry ⟨[.int .i64 v.high,.int .i64 (-1)],3,2⟩).upd ra ⟨[.int .i64 0,.int .i64 v.low],3,2⟩).upd rb ⟨[.int .i64 v.high,.int .i64 (wH v.w)],3,2⟩) F M:=(Wk.drop hMb).trans ((Wk.drop hMa).trans ((Wk.drop hMy).trans ((Wk.drop hMx).trans (Wk.drop hM))))
  generalize hM':((((M.upd r ⟨v.cs,59,6⟩).upd rx ⟨[.int .i64 v.low,.int .i64 0],3,2⟩).upd ry ⟨[.int .i64 v.high,.int .i64 (-1)],3,2⟩).upd ra ⟨[.int .i64 0,.int .i64 v.low],3,2⟩).upd rb ⟨[.int .i64 v.high,.int .i64 (wH v.w)],3,2⟩=M' at *
  have f1:M' r=some ⟨v.cs,59,6⟩:=by subst hM'; simp only [go_sem,gx,gy',ga'',gb3]
  have f2:M' ra=some ⟨[.int .i64 v.p0.1,.int .i64 v.p1.1],3,2⟩:=by subst hM'; simp only [go_sem,gb,V.p0,V.p1,hlh']
  have f3:M' rb=some ⟨[.int .i64 v.p0.2,.int .i64 v.p1.2],3,2⟩:=by subst hM'; simp only [go_sem,V.p0,V.p1,hlh']
  clear hM'
  have b1:=qG (F:=F) f1
  have b2:=qG (F:=F) f2
  have b3:=qG (F:=F) f3
  refine loop_of (nextI v n F M' r ra rb) 2 ?_ ?_
  ·exact ⟨rfl,rfl,by simp only [go_sem],by simp only [go_sem],by simp only [go_sem],by simp only [go_sem],.inl ⟨rfl,by simp only [go_sem]⟩⟩
  ·rintro m σ F'' M'' ⟨rfl,rfl,h1,h2,h5,h6,h7⟩
   rcases h7 with ⟨rfl,h7⟩ | ⟨rfl,h7,t0⟩ | ⟨rfl,h7,t0,t1⟩
   ·simp only [go_sem,b2,b3,h1,h5,h6,h7]
    by_cases a1:v.p0.2 < mx n v.p0.1
    ·simp only [go_sem,h7,a1]
     have t0:v.tryP n v.p0=none:=by simp [V.tryP,a1]
     exact ⟨1,by omega,rfl,rfl,by simp only [go_sem,h1],by simp only [go_sem,h2],by simp only [go_sem,h5],by simp only [go_sem,h6],by simp only [go_sem,t0]⟩
    ·simp only [go_sem,b1,b2,h1,h2,h5,h7,a1]
     refine qQ (k150 _ _ v (mx n v.p0.1) hw) ?_
     by_cases a2:0≤v.jH (mx n v.p0.1)
     ·simp only [go_sem,b3,h6,h7,a2]
      by_cases a3:v.jH (mx n v.p0.1)≤v.p0.2
      ·simp only [go_sem,a3]
       have q:v.tryP n v.p0=some (v.jH (mx n v.p0.1)):=by simp [V.tryP,a1,a2,a3]
       exact ⟨_,_,hk,by simp [V.wQ,hc,q],rfl,rfl⟩
      ·simp only [go_sem,h7,a3]
       have t0:v.tryP n v.p0=none:=by simp [V.tryP,a1,a2,a3]
       exact ⟨1,by omega,rfl,rfl,by simp only [go_sem,h1],by simp only [go_sem,h2],by simp only [go_sem,h5],by simp only [go_sem,h6],by simp only [go_sem,t0]⟩
     ·simp only [go_sem,h7,a2]
      have t0:v.tryP n v.p0=none:=by simp [V.tryP,a1,a2]
      exact ⟨1,by omega,rfl,rfl,by simp only [go_sem,h1],by simp only [go_sem,h2],by simp only [go_sem,h5],by simp only [go_sem,h6],by simp only [go_sem,t0]⟩
   ·simp only [go_sem,b2,b3,h1,h5,h6,h7]
    by_cases a1:v.p1.2 < mx n v.p1.1
    ·simp only [go_sem,h7,a1]
     have t1:v.tryP n v.p1=none:=by simp [V.tryP,a1]
     exact ⟨0,by omega,rfl,rfl,by simp only [go_sem,h1],by simp only [go_sem,h2],by simp only [go_sem,h5],by simp only [go_sem,h6],by simp only [go_sem,t1,t0]⟩
    ·simp only [go_sem,b1,b2,h1,h2,h5,h7,a1]
     refine qQ (k150 _ _ v (mx n v.p1.1) hw) ?_
     by_cases a2:0≤v.jH (mx n v.p1.1)
     ·simp only [go_sem,b3,h6,h7,a2]
      by_cases a3:v.jH (mx n v.p1.1)≤v.p1.2
      ·simp only [go_sem,a3]
       have q:v.tryP n v.p1=some (v.jH (mx n v.p1.1)):=by simp [V.tryP,a1,a2,a3]
       exact ⟨_,_,hk,by simp [V.wQ,hc,q,t0],rfl,rfl⟩
      ·simp only [go_sem,h7,a3]
       have t1:v.tryP n v.p1=none:=by simp [V.tryP,a1,a2,a3]
       exact ⟨0,by omega,rfl,rfl,by simp only [go_sem,h1],by simp only [go_sem,h2],by simp only [go_sem,h5],by simp only [go_sem,h6],by simp only [go_sem,t1,t0]⟩
     ·simp only [go_sem,h7,a2]
      have t1:v.tryP n v.p1=none:=by simp [V.tryP,a1,a2]
      exact ⟨0,by omega,rfl,rfl,by simp only [go_sem,h1],by simp only [go_sem,h2],by simp only [go_sem,h5],by simp only [go_sem,h6],by simp only [go_sem,t1,t0]⟩
   ·simp only [go_sem,h7]
    exact ⟨_,_,hk,by simp [V.wQ,hc,t0,t1],rfl,rfl⟩
 ·have hlh':v.low≤v.high:=by omega
  intro ra hFa hMa
  have ga:=wV hMa
  simp only [go_sem,ga]
  intro rb hFb hMb
  have gb:=wV hMb
  have gb':=wV gb.2.2
  simp only [go_sem,ga,gb',hlh]
  have hk:Wk F (((M.upd r ⟨v.cs,59,6⟩).upd ra ⟨[.int .i64 v.low,.int .i64 0],3,2⟩).upd rb ⟨[.int .i64 v.high,.int .i64 (-1)],3,2⟩) F M:=(Wk.drop hMb).trans ((Wk.drop hMa).trans (Wk.drop hM))
  generalize hM':((M.upd r ⟨v.cs,59,6⟩).upd ra ⟨[.int .i64 v.low,.int .i64 0],3,2⟩).upd rb ⟨[.int .i64 v.high,.int .i64 (-1)],3,2⟩=M' at *
  have f1:M' r=some ⟨v.cs,59,6⟩:=by subst hM'; simp only [go_sem,ga,gb']
  have f2:M' ra=some ⟨[.int .i64 v.p0.1,.int .i64 v.p1.1],3,2⟩:=by subst hM'; simp only [go_sem,gb,V.p0,V.p1,hlh']
  have f3:M' rb=some ⟨[.int .i64 v.p0.2,.int .i64 v.p1.2],3,2⟩:=by subst hM'; simp only [go_sem,V.p0,V.p1,hlh']
  clear hM'
  have b1:=qG (F:=F) f1
  have b2:=qG (F:=F) f2
  have b3:=qG (F:=F) f3
  refine loop_of (nextI v n F M' r ra rb) 2 ?_ ?_
  ·exact ⟨rfl,rfl,by simp only [go_sem],by simp only [go_sem],by simp only [go_sem],by simp only [go_sem],.inl ⟨rfl,by simp only [go_sem]⟩⟩
  ·rintro m σ F'' M'' ⟨rfl,rfl,h1,h2,h5,h6,h7⟩
   rcases h7 with ⟨rfl,h7⟩ | ⟨rfl,h7,t0⟩ | ⟨rfl,h7,t0,t1⟩
   ·simp only [go_sem,b2,b3,h1,h5,h6,h7]
    by_cases a1:v.p0.2 < mx n v.p0.1
    ·simp only [go_sem,h7,a1]
     have t0:v.tryP n v.p0=none:=by simp [V.tryP,a1]
     exact ⟨1,by omega,rfl,rfl,by simp only [go_sem,h1],by simp only [go_sem,h2],by simp only [go_sem,h5],by simp only [go_sem,h6],by simp only [go_sem,t0]⟩
    ·simp only [go_sem,b1,b2,h1,h2,h5,h7,a1]
     refine qQ (k150 _ _ v (mx n v.p0.1) hw) ?_
     by_cases a2:0≤v.jH (mx n v.p0.1)
     ·simp only [go_sem,b3,h6,h7,a2]
      by_cases a3:v.jH (mx n v.p0.1)≤v.p0.2
      ·simp only [go_sem,a3]
       have q:v.tryP n v.p0=some (v.jH (mx n v.p0.1)):=by simp [V.tryP,a1,a2,a3]
       exact ⟨_,_,hk,by simp [V.wQ,hc,q],rfl,rfl⟩
      ·simp only [go_sem,h7,a3]
       have t0:v.tryP n v.p0=none:=by simp [V.tryP,a1,a2,a3]
       exact ⟨1,by omega,rfl,rfl,by simp only [go_sem,h1],by simp only [go_sem,h2],by simp only [go_sem,h5],by simp only [go_sem,h6],by simp only [go_sem,t0]⟩
     ·simp only [go_sem,h7,a2]
      have t0:v.tryP n v.p0=none:=by simp [V.tryP,a1,a2]
      exact ⟨1,by omega,rfl,rfl,by simp only [go_sem,h1],by simp only [go_sem,h2],by simp only [go_sem,h5],by simp only [go_sem,h6],by simp only [go_sem,t0]⟩
   ·simp only [go_sem,b2,b3,h1,h5,h6,h7]
    by_cases a1:v.p1.2 < mx n v.p1.1
    ·simp only [go_sem,h7,a1]
     have t1:v.tryP n v.p1=none:=by simp [V.tryP,a1]
     exact ⟨0,by omega,rfl,rfl,by simp only [go_sem,h1],by simp only [go_sem,h2],by simp only [go_sem,h5],by simp only [go_sem,h6],by simp only [go_sem,t1,t0]⟩
    ·simp only [go_sem,b1,b2,h1,h2,h5,h7,a1]
     refine qQ (k150 _ _ v (mx n v.p1.1) hw) ?_
     by_cases a2:0≤v.jH (mx n v.p1.1)
     ·simp only [go_sem,b3,h6,h7,a2]
      by_cases a3:v.jH (mx n v.p1.1)≤v.p1.2
      ·simp only [go_sem,a3]
       have q:v.tryP n v.p1=some (v.jH (mx n v.p1.1)):=by simp [V.tryP,a1,a2,a3]
       exact ⟨_,_,hk,by simp [V.wQ,hc,q,t0],rfl,rfl⟩
      ·simp only [go_sem,h7,a3]
       have t1:v.tryP n v.p1=none:=by simp [V.tryP,a1,a2,a3]
       exact ⟨0,by omega,rfl,rfl,by simp only [go_sem,h1],by simp only [go_sem,h2],by simp only [go_sem,h5],by simp only [go_sem,h6],by simp only [go_sem,t1,t0]⟩
     ·simp only [go_sem,h7,a2]
      have t1:v.tryP n v.p1=none:=by simp [V.tryP,a1,a2]
      exact ⟨0,by omega,rfl,rfl,by simp only [go_sem,h1],by simp only [go_sem,h2],by simp only [go_sem,h5],by simp only [go_sem,h6],by simp only [go_sem,t1,t0]⟩
   ·simp only [go_sem,h7]
    exact ⟨_,_,hk,by simp [V.wQ,hc,t0,t1],rfl,rfl⟩
def onlyA (v:V):Value:=.tuple #[.int .i64 (v.wQ 0),.bool (decide (0≤v.wQ 0) && decide (v.wQ (v.wQ 0+1) < 0))]
theorem k93 (v:V)(hv:v.ok=true):CallsA Tryz.prog 93 [v.val] F M (Same F M (onlyA v)):=by
 refine qZ hm Tryz.func93 e93 (Nat.le_of_ble_eq_true rfl) ?_
 have hl:=gQ (ok_isW hv)
 have hn:=nextR_le hv 0
 have hm:=mostV_pos hl.2
 have e1:IntKind.i64.wrap (v.wQ 0+1)=v.wQ 0+1:=w64 (by omega) (by omega)
 simp only [c93,go_sem]
 intro r hF hM
 simp only [go_sem]
 refine qQ (k92 F _ v 0 hl.1 hl.2) ?_
 simp only [go_sem]
 by_cases h0:0≤v.wQ 0
 ·simp only [go_sem,h0,e1]
  refine qQ (k92 F _ v (v.wQ 0+1) hl.1 hl.2) ?_
  simp only [go_sem]
  exact qV hM (qW ⟨by simp [onlyA,h0],rfl,rfl⟩)
 ·simp only [go_sem,h0]
  exact qV hM (qW ⟨by simp [onlyA,h0],rfl,rfl⟩)
def nextA (v:V)(n:Int):Value:=if v.ok && isN n v.w then (if v.wQ n < 0 then .tuple #[.int .i64 0,.int .i64 3] else .tuple #[.int .i64 (v.wQ n),.int .i64 0]) else .tuple #[.int .i64 0,.int .i64 1]
theorem k128 (v:V)(hv:v.ok=true):CallsA Tryz.prog 128 [v.val] F M (Same F M (.bool (decide (v.wQ 0 < 0)))):=by
 refine qZ hm Tryz.func128 e128 (Nat.le_of_ble_eq_true rfl) ?_
 simp only [c128,go_sem]
 intro r hF hM
 simp only [go_sem]
 refine qQ (k172 F _ v 0 hv) ?_
 simp only [go_sem]
 exact qV hM (qW ⟨rfl,rfl,rfl⟩)
def memI (v:V)(most:Nat)(F:Fz)(M:Hp)(r:Nat)(m:Nat)(σ:Env)(F':Fz)(M':Hp):Prop:=
 F'=F∧Keep M M'∧M' r=some ⟨v.cs,59,6⟩∧Ax.look σ 1=some (.int .i64 most)∧Ax.look σ 2=some (.pointer (some ⟨r,0,none⟩))∧
 ∃(l:List Int) (p:Int),l.length+m=most+1∧0 < m∧l++v.mem m p=v.members most∧Ax.look σ 6=some (.int .i64 (v.wQ p))∧
  (l=[]∧Ax.look σ 4=some (.slice none 0 0)∨∃g cap,F g=none∧M g=none∧Ax.look σ 4=some (.slice (some ⟨g,0,none⟩) l.length cap)∧M' g=some ⟨l.map intV,3,cap * 1⟩∧l.length≤cap∧cap≤maxLen)
def vG (v:V)(most:Nat)(F:Fz)(M:Hp)(u:Value)(F':Fz)(M':Hp):Prop:=
 F'=F∧((v.members most).length≤most∧((v.members most=[]∧u=.tuple #[.slice none 0 0,.bool true]∧M'=M)∨
   ∃g cap,F g=none∧M g=none∧u=.tuple #[.slice (some ⟨g,0,none⟩) (v.members most).length cap,.bool true]∧M'=M.upd g ⟨(v.members most).map intV,3,cap * 1⟩)∨
  (most < (v.members most).length∧u=.tuple #[.slice none 0 0,.bool false]∧M'=M))
theorem k218 (v:V)(most:Nat)(hv:v.ok=true)(hmost:most≤1000):CallsA Tryz.prog 218 [v.val,.int .i64 most] F M (vG v most F M):=by
 refine qZ hm Tryz.func218 e218 (Nat.le_of_ble_eq_true rfl) ?_
 have hl:=gQ (ok_isW hv)
 have hmo:=mostV_pos hl.2
 simp only [c218,go_sem]
 intro r hF hM
 simp only [go_sem]
 refine qQ (k172 F _ v 0 hv) ?_
 simp only [go_sem]
 refine loop_of (memI v most F M r) (most+1) ?_ ?_
 ·exact ⟨rfl,(Keep.refl M).new hM,Hp.qJ _ _ _,by simp only [go_sem],by simp only [go_sem],[],0,by simp,by omega,rfl,by simp only [go_sem],.inl ⟨rfl,by simp only [go_sem]⟩⟩
 ·rintro m σ F' M' ⟨rfl,hk,f1,h1,h2,l,p,hlm,hm0,hlp,h6,h4⟩
  have b1:=qG (F:=F') f1
  have hp:=nextR_le hv p
  obtain ⟨m,rfl⟩:∃k,m=k+1:=⟨m - 1,by omega⟩
  by_cases hn:0≤v.wQ p
  ·have hn':¬v.wQ p < 0:=by omega
   have hmem:v.mem (m+1) p=v.wQ p :: v.mem m (v.wQ p+1):=by rw [V.mem,if_neg hn']
   have e1:IntKind.i64.wrap (v.wQ p+1)=v.wQ p+1:=w64 (by omega) (by omega)
   rcases h4 with ⟨hl0,h4⟩ | ⟨g,cap,hFg,hMg,h4,f4,hc1,hc2⟩
   ·have hll:l.length=0:=by rw [hl0]; rfl
    by_cases hfull:most=0
    ·subst hfull
     simp only [go_sem,h1,h4,h6,hn,Int.cast_ofNat_Int]
     exact qX hk ⟨rfl,.inr ⟨by rw [←hlp,hl0,hmem]; simp,rfl,rfl⟩⟩
    ·have hfull:¬(0:Int)=most:=by omega
     simp only [go_sem,h1,h4,h6,hn,hfull]
     intro r1 hF1 hM1
     have g1:=qH hM1 f1
     simp only [go_sem]
     refine apK_of (n:=l.length) (xs:=l.map intV) (m:=1) (ys:=[v.wQ p].map intV) (by rw [hll,hl0]; exact ⟨rfl,.inl ⟨rfl,rfl⟩⟩) ⟨rfl,.inr ⟨⟨r1,0,none⟩,1,rfl,.inr ⟨r1,0,_,rfl,wY,rfl⟩⟩⟩ (plain_ints _) (by simp only [maxLen]; omega) (by omega) ?_
     rintro v' M3 (⟨_,h0,_⟩ | ⟨g',cap',hg',rfl,hc3,hc4,rfl⟩)
     ·cases h0
     rw [←List.map_append]
     have hl3:(l++[v.wQ p]).length=l.length+1:=by simp
     have key:F' g'=none∧M g'=none∧Keep M ((M'.upd r1 ⟨[.int .i64 (v.wQ p)],3,1⟩).upd g' ⟨(l++[v.wQ p]).map intV,3,cap' * 1⟩)∧¬r=g':=by
      rcases hg' with ⟨c,hx⟩ | ⟨hx,hy⟩
      ·cases hx
      ·have hz:=(wV hy)
       exact ⟨hx,hk.free hz.2.2,(hk.new (hk.free hM1)).new (hk.free hz.2.2),(qH hz.2.2 f1).1⟩
     have hne:=key.2.2.2
     have f3:((M'.upd r1 ⟨[.int .i64 (v.wQ p)],3,1⟩).upd g' ⟨(l++[v.wQ p]).map intV,3,cap' * 1⟩) r=some ⟨v.cs,59,6⟩:=by
      rw [Hp.qK hne,Hp.qK g1.1]; exact f1
     have b3:=qG (F:=F') f3
     simp only [go_sem,h2,h6,b3,e1]
     refine qQ (k172 F' _ v (v.wQ p+1) hv) ?_
     simp only [go_sem]
     have hm1:0 < m:=by omega
     exact ⟨m,by omega,rfl,key.2.2.1,f3,by simp only [go_sem,h1],by simp only [go_sem,h2],l++[v.wQ p],v.wQ p+1,by omega,hm1,by rw [List.append_assoc,List.singleton_append,←hmem]; exact hlp,by simp only [go_sem],
      .inr ⟨g',cap',key.1,key.2.1,by simp only [go_sem,hl3],Hp.qJ _ _ _,by omega,hc4⟩⟩
   ·by_cases hfull:l.length=most
    ·simp only [go_sem,h1,h4,h6,hn,hfull]
     exact qX hk ⟨rfl,.inr ⟨by rw [←hlp,hmem]; simp; omega,rfl,rfl⟩⟩
    ·have hfull:¬(l.length:Int)=most:=by omega
     have hrg:¬(some ⟨v.cs,59,6⟩:Option Ent)=some ⟨l.map intV,3,cap * 1⟩:=by
      intro e
      have:=congrArg (fun x=>x.map (·.elem)) e
      simp at this
     simp only [go_sem,h1,h4,h6,hn,hfull]
     intro r1 hF1 hM1
     have g1:=qH hM1 f1
     simp only [go_sem]
     refine apK_of (n:=l.length) (xs:=l.map intV) (m:=1) (ys:=[v.wQ p].map intV) ⟨by simp,.inr ⟨g,cap,rfl,(Hp.upd_ne (qH hM1 f4).1).trans f4,hc1,hc2⟩⟩ ⟨rfl,.inr ⟨⟨r1,0,none⟩,1,rfl,.inr ⟨r1,0,_,rfl,wY,rfl⟩⟩⟩ (plain_ints _) (by simp only [maxLen]; omega) (by omega) ?_
     rintro v' M3 (⟨_,h0,_⟩ | ⟨g',cap',hg',rfl,hc3,hc4,rfl⟩)
     ·cases h0
     rw [←List.map_append]
     have hl3:(l++[v.wQ p]).length=l.length+1:=by simp
     have key:F' g'=none∧M g'=none∧Keep M ((M'.upd r1 ⟨[.int .i64 (v.wQ p)],3,1⟩).upd g' ⟨(l++[v.wQ p]).map intV,3,cap' * 1⟩)∧¬r=g':=by
      rcases hg' with ⟨c,hx⟩ | ⟨hx,hy⟩
      ·cases hx
       refine ⟨hFg,hMg,(hk.new (hk.free hM1)).new hMg,?_⟩
       rintro rfl
       rw [f1] at f4
       exact hrg f4
      ·have hz:=(wV hy)
       exact ⟨hx,hk.free hz.2.2,(hk.new (hk.free hM1)).new (hk.free hz.2.2),(qH hz.2.2 f1).1⟩
     have hne:=key.2.2.2
     have f3:((M'.upd r1 ⟨[.int .i64 (v.wQ p)],3,1⟩).upd g' ⟨(l++[v.wQ p]).map intV,3,cap' * 1⟩) r=some ⟨v.cs,59,6⟩:=by
      rw [Hp.qK hne,Hp.qK g1.1]; exact f1
     have b3:=qG (F:=F') f3
     simp only [go_sem,h2,h6,b3,e1]
     refine qQ (k172 F' _ v (v.wQ p+1) hv) ?_
     simp only [go_sem]
     have hm1:0 < m:=by omega
     exact ⟨m,by omega,rfl,key.2.2.1,f3,by simp only [go_sem,h1],by simp only [go_sem,h2],l++[v.wQ p],v.wQ p+1,by omega,hm1,by rw [List.append_assoc,List.singleton_append,←hmem]; exact hlp,by simp only [go_sem],
      .inr ⟨g',cap',key.1,key.2.1,by simp only [go_sem,hl3],Hp.qJ _ _ _,by omega,hc4⟩⟩
  ·have hn':v.wQ p < 0:=by omega
   have hmem:v.mem (m+1) p=[]:=by rw [V.mem,if_pos hn']
   rw [hmem,List.append_nil] at hlp
   subst hlp
   rcases h4 with ⟨h0,h4⟩ | ⟨g,cap,hFg,hMg,h4,f4,hc1,hc2⟩
   ·simp only [go_sem,h4,h6,hn]
    exact qX hk ⟨rfl,.inl ⟨by omega,.inl ⟨h0,rfl,rfl⟩⟩⟩
   ·simp only [go_sem,h4,h6,hn]
    exact qX (hk.one f4) ⟨rfl,.inl ⟨by omega,.inr ⟨g,cap,hFg,hMg,rfl,rfl⟩⟩⟩
def loneA (v:V):Value:=.tuple #[.int .i64 (if v.is1 then v.wQ 0 else 0),.bool v.is1]
theorem k171 (v:V)(hv:v.ok=true):CallsA Tryz.prog 171 [v.val] F M (Same F M (loneA v)):=by
 refine qZ hm Tryz.func171 e171 (Nat.le_of_ble_eq_true rfl) ?_
 simp only [c171,go_sem]
 intro r hF hM
 simp only [go_sem]
 refine qY (k218 F _ v 1 hv (by omega)) ?_
 rintro u G M' ⟨hG,⟨hlen,⟨hnil,rfl,rfl⟩ | ⟨g,cap,hFg,hMg,rfl,rfl⟩⟩ | ⟨hlen,rfl,rfl⟩⟩ <;> rw [hG] <;> refine ⟨(fun h=>by cases h),?_⟩
 ·have e:v.is1=false:=by
   rw [V.members1] at hnil
   split at hnil
   ·simp [V.is1]; omega
   ·cases hnil
  simp only [go_sem]
  exact qV hM (qW ⟨by simp [loneA,e],rfl,rfl⟩)
 ·by_cases hx:v.wQ 0 < 0
  ·have e:v.is1=false:=by simp [V.is1]; omega
   have hm:v.members 1=[]:=by rw [V.members1,if_pos hx]
   simp only [hm,go_sem]
   exact qV hMg (qV hM (qW ⟨by simp [loneA,e],rfl,rfl⟩))
  ·by_cases hy:v.wQ (v.wQ 0+1) < 0
   ·have e:v.is1=true:=by simp [V.is1,hy]; omega
    have hm:v.members 1=[v.wQ 0]:=by rw [V.members1,if_neg hx,if_pos hy]
    simp only [hm,go_sem,List.map_cons,List.map_nil,intV]
    exact qV hMg (qV hM (qW ⟨by simp [loneA,e],rfl,rfl⟩))
   ·rw [V.members1,if_neg hx,if_neg hy] at hlen
    simp at hlen
 ·have e:v.is1=false:=by
   rw [V.members1] at hlen
   split at hlen
   ·simp at hlen
   ·split at hlen
    ·simp at hlen
    ·rename_i hy
     simp [V.is1,hy]
  simp only [go_sem]
  exact qV hM (qW ⟨by simp [loneA,e],rfl,rfl⟩)
theorem onlyA_eq (v:V):onlyA v=.tuple #[.int .i64 (v.wQ 0),.bool v.is1]:=rfl
theorem k246 (n w:Int)(h0:0≤w)(h1:w≤62):CallsA Tryz.prog 246 [.int .i64 n,.int .i64 w] F M (Same F M (.int .i64 (n % 2 ^ w.toNat))):=by
 refine qZ hm Tryz.func246 e246 (Nat.le_of_ble_eq_true rfl) ?_
 simp only [c246,go_sem]
 refine qQ (k170 F _ w h0 h1) ?_
 simp only [go_sem,band_mostV n h1]
 exact qW ⟨rfl,rfl,rfl⟩
theorem k252 (v:V)(h:v.In):CallsA Tryz.prog 252 [v.val] F M (Same F M (.int .i64 v.len)):=by
 refine qZ hm Tryz.func252 e252 (Nat.le_of_ble_eq_true rfl) ?_
 have hl:=gQ h.w
 have hb:=h.big
 have h1:=h.low
 have h2:=h.high
 have e:IntKind.i64.wrap (v.high - v.low)=v.high - v.low:=w64 (by omega) (by omega)
 simp only [c252,go_sem]
 intro r hF hM
 simp only [go_sem,e]
 refine qQ (k246 F _ _ v.w hl.1 hl.2) ?_
 simp only [go_sem]
 exact qV hM (qW ⟨rfl,rfl,rfl⟩)
theorem k251 (a b:V)(ha:a.In)(hb:b.In):CallsA Tryz.prog 251 [a.val,b.val] F M (Same F M (.bool (a.inside b))):=by
 refine qZ hm Tryz.func251 e251 (Nat.le_of_ble_eq_true rfl) ?_
 have la:=gQ ha.w
 have lb:=gQ hb.w
 have ga:=ha.big
 have gb:=hb.big
 have a1:=ha.low
 have b1:=hb.low
 have e1:IntKind.i64.wrap (a.low - b.low)=a.low - b.low:=w64 (by omega) (by omega)
 have f0:=Int.emod_nonneg (a.low - b.low) (show (2:Int) ^ a.w.toNat≠0 by omega)
 have f1:=Int.emod_lt_of_pos (a.low - b.low) (show 0 < (2:Int) ^ a.w.toNat by omega)
 have l0:=Int.emod_nonneg (b.high - b.low) (show (2:Int) ^ b.w.toNat≠0 by omega)
 have l1:=Int.emod_lt_of_pos (b.high - b.low) (show 0 < (2:Int) ^ b.w.toNat by omega)
 have e2:IntKind.i64.wrap (b.len - a.from b)=b.len - a.from b:=by unfold V.len V.from; exact w64 (by omega) (by omega)
 simp only [c251,go_sem]
 intro r hF hM
 simp only [go_sem]
 intro r1 hF1 hM1
 have g:=wV hM1
 simp only [go_sem,g,e1]
 refine qQ (k246 F _ _ a.w la.1 la.2) ?_
 have ef:(a.low - b.low) % 2 ^ a.w.toNat=a.from b:=rfl
 simp only [go_sem,ef]
 refine qQ (k252 F _ b hb) ?_
 simp only [go_sem]
 refine qQ (k170 F _ b.w lb.1 lb.2) ?_
 by_cases c1:b.len=wH b.w
 ·simp only [go_sem,c1]
  exact qV hM1 (qV hM (qW ⟨by simp [V.inside,c1],rfl,rfl⟩))
 ·simp only [go_sem,c1]
  refine qQ (k252 F _ b hb) ?_
  by_cases c2:a.from b≤b.len
  ·simp only [go_sem,g,c2]
   refine qQ (k252 F _ a ha) ?_
   simp only [go_sem]
   refine qQ (k252 F _ b hb) ?_
   simp only [go_sem,e2]
   exact qV hM1 (qV hM (qW ⟨by simp [V.inside,c1,c2],rfl,rfl⟩))
  ·simp only [go_sem,c2]
   exact qV hM1 (qV hM (qW ⟨by simp [V.inside,c1,c2],rfl,rfl⟩))
theorem k203 (v:V)(hv:v.ok=true):CallsA Tryz.prog 203 [v.val] F M (Same F M v.tidy.val):=by
 refine qZ hm Tryz.func203 e203 (Nat.le_of_ble_eq_true rfl) ?_
 simp only [c203,go_sem]
 intro r hF hM
 simp only [go_sem]
 intro r1 hF1 hM1
 have gr:=wV hM1
 simp only [go_sem,gr]
 refine qY (k218 F _ v 1 hv (by omega)) ?_
 have m1:=v.members1
 rintro u G M' ⟨hG,⟨hlen,⟨hnil,rfl,rfl⟩ | ⟨g,cap,hFg,hMg,rfl,rfl⟩⟩ | ⟨hlen,rfl,rfl⟩⟩ <;> rw [hG] <;> refine ⟨(fun h=>by cases h),?_⟩
 ·have e:v.wQ 0 < 0:=by
   rw [m1] at hnil
   split at hnil
   ·assumption
   ·cases hnil
  simp only [go_sem,gr]
  refine qQ (k122 F _ v.w) ?_
  simp only [go_sem]
  exact qV hM1 (qV hM (qW ⟨by simp [V.tidy,e],rfl,rfl⟩))
 ·have g1:=wV hMg
  have g2:=wV g1.2.2
  by_cases hx:v.wQ 0 < 0
  ·have hm:v.members 1=[]:=by rw [m1,if_pos hx]
   simp only [hm,go_sem,gr,g2]
   refine qQ (k122 F _ v.w) ?_
   simp only [go_sem,g1]
   refine qX ?_ ⟨by simp [V.tidy,hx],rfl,rfl⟩
   exact (((Keep.refl M).new hM).new gr.2.2).new g2.2.2
  ·by_cases hy:v.wQ (v.wQ 0+1) < 0
   ·have e:v.is1=true:=by simp [V.is1,hy]; omega
    have hm:v.members 1=[v.wQ 0]:=by rw [m1,if_neg hx,if_pos hy]
    simp only [hm,go_sem,gr,g2,List.map_cons,List.map_nil,intV]
    refine qQ (k166 F _ v.w (v.wQ 0)) ?_
    simp only [go_sem,g1]
    refine qX ?_ ⟨by simp [V.tidy,hx,e],rfl,rfl⟩
    exact (((Keep.refl M).new hM).new gr.2.2).new g2.2.2
   ·rw [m1,if_neg hx,if_neg hy] at hlen
    simp at hlen
 ·have e:v.is1=false∧¬v.wQ 0 < 0:=by
   rw [m1] at hlen
   split at hlen
   ·simp at hlen
   ·split at hlen
    ·simp at hlen
    ·rename_i hx hy
     exact ⟨by simp [V.is1,hy],hx⟩
  simp only [go_sem,gr]
  exact qV hM1 (qV hM (qW ⟨by simp [V.tidy,e.1,e.2],rfl,rfl⟩))
structure CovM (a b:V)(M:Hp)(ra rb rz:Nat)(M':Hp)(l h:Int):Prop where
 keep:Keep M M'
 fa:M' ra=some ⟨a.cs,59,6⟩
 fb:M' rb=some ⟨b.cs,59,6⟩
 fz:M' rz=some ⟨(V.mk a.w false l h 0 0).cs,59,6⟩
 nz:M rz=none
 na:¬ra=rz
 nb:¬rb=rz
 cov:Cov a b l h
theorem CovM.new {a b:V}{M M':Hp}{ra rb rz:Nat}{l h:Int}(c:CovM a b M ra rb rz M' l h){r:Nat}{e:Ent}(hr:M' r=none):CovM a b M ra rb rz (M'.upd r e) l h:=
 ⟨c.keep.new (c.keep.free hr),by rw [Hp.qK (qH hr c.fa).1]; exact c.fa,by rw [Hp.qK (qH hr c.fb).1]; exact c.fb,by rw [Hp.qK (qH hr c.fz).1]; exact c.fz,c.nz,c.na,c.nb,c.cov⟩
theorem CovM.set {a b:V}{M M':Hp}{ra rb rz:Nat}{l h l' h':Int}(c:CovM a b M ra rb rz M' l h)(k:Cov a b l' h'):CovM a b M ra rb rz (M'.upd rz ⟨(V.mk a.w false l' h' 0 0).cs,59,6⟩) l' h':=
 ⟨c.keep.new c.nz,by rw [Hp.qK c.na]; exact c.fa,by rw [Hp.qK c.nb]; exact c.fb,Hp.qJ _ _ _,c.nz,c.na,c.nb,k⟩
def outI (a b:V)(F0:Fz)(M:Hp)(ra rb rz r20:Nat)(m:Nat)(σ:Env)(F':Fz)(M':Hp):Prop:=
 F'=F0∧¬r20=rz∧M' r20=some ⟨a.cs++b.cs,59,12⟩∧(∃l h,CovM a b M ra rb rz M' l h)∧
 Ax.look σ 2=some (.pointer (some ⟨ra,0,none⟩))∧Ax.look σ 3=some (.pointer (some ⟨rb,0,none⟩))∧Ax.look σ 6=some (.pointer (some ⟨rz,0,none⟩))∧
 Ax.look σ 20=some (.slice (some ⟨r20,0,none⟩) 2 2)∧Ax.look σ 21=some (.int .i64 2)∧(m=2∧Ax.look σ 22=some (.int .i64 0)∨m=1∧Ax.look σ 22=some (.int .i64 1)∨m=0∧Ax.look σ 22=some (.int .i64 2))
def inI (a b x:V)(i:Int)(F0:Fz)(M:Hp)(ra rb rz r20 rx r28:Nat)(m:Nat)(σ:Env)(F':Fz)(M':Hp):Prop:=
 F'=F0∧(¬r20=rz∧¬r28=rz∧¬rx=rz)∧M' r20=some ⟨a.cs++b.cs,59,12⟩∧M' r28=some ⟨a.cs++b.cs,59,12⟩∧M' rx=some ⟨x.cs,59,6⟩∧(∃l h,CovM a b M ra rb rz M' l h)∧
 Ax.look σ 2=some (.pointer (some ⟨ra,0,none⟩))∧Ax.look σ 3=some (.pointer (some ⟨rb,0,none⟩))∧Ax.look σ 6=some (.pointer (some ⟨rz,0,none⟩))∧
 Ax.look σ 20=some (.slice (some ⟨r20,0,none⟩) 2 2)∧Ax.look σ 21=some (.int .i64 2)∧Ax.look σ 22=some (.int .i64 i)∧Ax.look σ 8=some (.pointer (some ⟨rx,0,none⟩))∧
 Ax.look σ 28=some (.slice (some ⟨r28,0,none⟩) 2 2)∧Ax.look σ 29=some (.int .i64 2)∧(m=2∧Ax.look σ 30=some (.int .i64 0)∨m=1∧Ax.look σ 30=some (.int .i64 1)∨m=0∧Ax.look σ 30=some (.int .i64 2))
theorem k204 (a b:V)(ha:a.In)(hb:b.In)(hw:b.w=a.w):CallsA Tryz.prog 204 [a.val,b.val] F M fun u F' M'=>F'=F∧M'=M∧∃l h,u=.tuple #[.int .i64 l,.int .i64 h]∧Cov a b l h:=by
 refine qZ hm Tryz.func204 e204 (Nat.le_of_ble_eq_true rfl) ?_
 have la:=gQ ha.w
 simp only [c204,go_sem]
 intro ra hFa hMa
 simp only [go_sem]
 intro rb hFb hMb
 have gb:=wV hMb
 simp only [go_sem,gb]
 refine qQ (k170 F _ a.w la.1 la.2) ?_
 simp only [go_sem]
 intro rz hFz hMz
 have gz:=wV hMz
 have gz2:=wV gz.2.2
 simp only [go_sem,gb,gz,gz2]
 intro r20 hF20 hM20
 have g20:=wV hM20
 have c0:CovM a b M ra rb rz (((M.upd ra ⟨a.cs,59,6⟩).upd rb ⟨b.cs,59,6⟩).upd rz ⟨(V.mk a.w false 0 (wH a.w) 0 0).cs,59,6⟩) 0 (wH a.w):=by
  refine ⟨(((Keep.refl M).new hMa).new gb.2.2).new gz2.2.2,?_,?_,Hp.qJ _ _ _,gz2.2.2,gz2.2.1,gz.2.1,cov_all ha⟩
  ·rw [Hp.qK gz2.2.1,Hp.qK gb.2.1]; exact Hp.qJ _ _ _
  ·rw [Hp.qK gz.2.1]; exact Hp.qJ _ _ _
 simp only [go_sem]
 refine loop_of (outI a b F M ra rb rz r20) 2 ?_ ?_
 ·exact ⟨rfl,g20.1,Hp.qJ _ _ _,⟨_,_,c0.new hM20⟩,by simp only [go_sem],by simp only [go_sem],by simp only [go_sem],by simp only [go_sem],by simp only [go_sem],.inl ⟨rfl,by simp only [go_sem]⟩⟩
 clear c0 hM20 g20 hMz gz gz2 hFz hF20
 rintro mo σ F' M' ⟨rfl,n20,f20,⟨l,h,c⟩,h2,h3,h6,h20,h21,h22⟩
 have b2:=qG (F:=F') c.fa
 have b3:=qG (F:=F') c.fb
 have b6:=qG (F:=F') c.fz
 have b20:=qG (F:=F') f20
 rcases h22 with ⟨rfl,h22⟩ | ⟨rfl,h22⟩ | ⟨rfl,h22⟩
 ·simp only [go_sem,h20,h21,h22,b20]
  intro rx hFx hMx
  have o1:=qH hMx c.fa
  have o2:=qH hMx c.fb
  have o3:=qH hMx c.fz
  have o4:=qH hMx f20
  simp only [go_sem,h2,h3,o1,o2,b2,b3]
  intro r28 hF28 hM28
  have p1:=wV hM28
  have p4:=qH p1.2.2 f20
  have p3:=qH p1.2.2 c.fz
  simp only [go_sem]
  refine loop_of (inI a b a 0 F' M ra rb rz r20 rx r28) 2 ?_ ?_
  ·exact ⟨rfl,⟨n20,p3.2,o3.2⟩,by rw [Hp.qK p4.1,Hp.qK o4.1]; exact f20,Hp.qJ _ _ _,by rw [Hp.qK p1.2.1]; exact Hp.qJ _ _ _,⟨_,_,(c.new hMx).new hM28⟩,
    by simp only [go_sem,h2],by simp only [go_sem,h3],by simp only [go_sem,h6],by simp only [go_sem,h20],by simp only [go_sem,h21],by simp only [go_sem,h22],by simp only [go_sem],by simp only [go_sem],by simp only [go_sem],.inl ⟨rfl,by simp only [go_sem]⟩⟩
  have hx:a.In:=ha
  have hxw:a.w=a.w:=rfl
  clear h2 h3 h6 h20 h21 h22 b2 b3 b6 b20 f20 hM28 p1 p3 p4 o1 o2 o3 o4 hMx
  clear c
  clear l h
  clear hFx hF28
  rintro m σ F'' M'' ⟨rfl,nn,f20,f28,fx,⟨l,h,c⟩,h2,h3,h6,h20,h21,h22,h8,h28,h29,h30⟩
  have b2:=qG (F:=F'') c.fa
  have b3:=qG (F:=F'') c.fb
  have b6:=qG (F:=F'') c.fz
  have b8:=qG (F:=F'') fx
  have b28:=qG (F:=F'') f28
  rcases h30 with ⟨rfl,h30⟩ | ⟨rfl,h30⟩ | ⟨rfl,h30⟩
  ·simp only [go_sem,h28,h29,h30,b28]
   intro ry hFy hMy
   have q1:=qH hMy c.fa
   have q2:=qH hMy c.fb
   have q3:=qH hMy c.fz
   have q4:=qH hMy fx
   have q5:=qH hMy f20
   have q6:=qH hMy f28
   simp only [go_sem,h2,h8,b2,b8,q1,q4]
   intro rw' hFw hMw
   have w1:=wV hMw
   have u1:=qH w1.2.2 c.fa
   have u2:=qH w1.2.2 c.fb
   have u3:=qH w1.2.2 c.fz
   have ux:=qH w1.2.2 fx
   have q7:=qH w1.2.2 f20
   have u28:=qH w1.2.2 f28
   have hz:(V.mk a.w false a.low a.high 0 0).In:=span_in ha hx ha hxw rfl
   simp only [go_sem,h2,b2,q1,u1]
   refine qQ (k251 _ _ a (V.mk a.w false a.low a.high 0 0) ha hz) ?_
   cases i1:a.inside (V.mk a.w false a.low a.high 0 0)
   ·simp only [go_sem,h30]
    exact ⟨1,by omega,rfl,nn,by rw [Hp.qK q7.1,Hp.qK q5.1]; exact f20,by rw [Hp.qK u28.1,Hp.qK q6.1]; exact f28,by rw [Hp.qK ux.1,Hp.qK q4.1]; exact fx,⟨_,_,(c.new hMy).new hMw⟩,by simp only [go_sem,h2],by simp only [go_sem,h3],by simp only [go_sem,h6],by simp only [go_sem,h20],by simp only [go_sem,h21],by simp only [go_sem,h22],by simp only [go_sem,h8],by simp only [go_sem,h28],by simp only [go_sem,h29],(.inr (.inl ⟨rfl,by simp only [go_sem]⟩))⟩
   simp only [go_sem,h3,b3,q2,u2]
   refine qQ (k251 _ _ b (V.mk a.w false a.low a.high 0 0) hb hz) ?_
   cases i2:b.inside (V.mk a.w false a.low a.high 0 0)
   ·simp only [go_sem,h30]
    exact ⟨1,by omega,rfl,nn,by rw [Hp.qK q7.1,Hp.qK q5.1]; exact f20,by rw [Hp.qK u28.1,Hp.qK q6.1]; exact f28,by rw [Hp.qK ux.1,Hp.qK q4.1]; exact fx,⟨_,_,(c.new hMy).new hMw⟩,by simp only [go_sem,h2],by simp only [go_sem,h3],by simp only [go_sem,h6],by simp only [go_sem,h20],by simp only [go_sem,h21],by simp only [go_sem,h22],by simp only [go_sem,h8],by simp only [go_sem,h28],by simp only [go_sem,h29],(.inr (.inl ⟨rfl,by simp only [go_sem]⟩))⟩
   simp only [go_sem,h6,b6,q3,u3]
   refine qQ (k252 _ _ _ hz) ?_
   simp only [go_sem]
   refine qQ (k252 _ _ _ c.cov.1) ?_
   by_cases hlt:(V.mk a.w false a.low a.high 0 0).len < (V.mk a.w false l h 0 0).len
   ·simp only [go_sem,h6,h30,q3,u3,hlt,c.fz]
    exact ⟨1,by omega,rfl,nn,by rw [Hp.qK q7.1,Hp.qK q5.1,setH,Hp.qK nn.1]; exact f20,by rw [Hp.qK u28.1,Hp.qK q6.1,setH,Hp.qK nn.2.1]; exact f28,by rw [Hp.qK ux.1,Hp.qK q4.1,setH,Hp.qK nn.2.2]; exact fx,⟨_,_,((c.set ⟨hz,i1,i2⟩).new (by rw [upd_none]; exact ⟨q3.2,hMy⟩)).new (by rw [upd_none,upd_none]; exact ⟨w1.1,u3.2,w1.2.2⟩)⟩,by simp only [go_sem,h2],by simp only [go_sem,h3],by simp only [go_sem,h6],by simp only [go_sem,h20],by simp only [go_sem,h21],by simp only [go_sem,h22],by simp only [go_sem,h8],by simp only [go_sem,h28],by simp only [go_sem,h29],(.inr (.inl ⟨rfl,by simp only [go_sem]⟩))⟩
   ·simp only [go_sem,h30,hlt]
    exact ⟨1,by omega,rfl,nn,by rw [Hp.qK q7.1,Hp.qK q5.1]; exact f20,by rw [Hp.qK u28.1,Hp.qK q6.1]; exact f28,by rw [Hp.qK ux.1,Hp.qK q4.1]; exact fx,⟨_,_,(c.new hMy).new hMw⟩,by simp only [go_sem,h2],by simp only [go_sem,h3],by simp only [go_sem,h6],by simp only [go_sem,h20],by simp only [go_sem,h21],by simp only [go_sem,h22],by simp only [go_sem,h8],by simp only [go_sem,h28],by simp only [go_sem,h29],(.inr (.inl ⟨rfl,by simp only [go_sem]⟩))⟩
  ·simp only [go_sem,h28,h29,h30,b28]
   intro ry hFy hMy
   have q1:=qH hMy c.fa
   have q2:=qH hMy c.fb
   have q3:=qH hMy c.fz
   have q4:=qH hMy fx
   have q5:=qH hMy f20
   have q6:=qH hMy f28
   simp only [go_sem,h2,h8,b2,b8,q1,q4]
   intro rw' hFw hMw
   have w1:=wV hMw
   have u1:=qH w1.2.2 c.fa
   have u2:=qH w1.2.2 c.fb
   have u3:=qH w1.2.2 c.fz
   have ux:=qH w1.2.2 fx
   have q7:=qH w1.2.2 f20
   have u28:=qH w1.2.2 f28
   have hz:(V.mk a.w false a.low b.high 0 0).In:=span_in ha hx hb hxw hw
   simp only [go_sem,h2,b2,q1,u1]
   refine qQ (k251 _ _ a (V.mk a.w false a.low b.high 0 0) ha hz) ?_
   cases i1:a.inside (V.mk a.w false a.low b.high 0 0)
   ·simp only [go_sem,h30]
    exact ⟨0,by omega,rfl,nn,by rw [Hp.qK q7.1,Hp.qK q5.1]; exact f20,by rw [Hp.qK u28.1,Hp.qK q6.1]; exact f28,by rw [Hp.qK ux.1,Hp.qK q4.1]; exact fx,⟨_,_,(c.new hMy).new hMw⟩,by simp only [go_sem,h2],by simp only [go_sem,h3],by simp only [go_sem,h6],by simp only [go_sem,h20],by simp only [go_sem,h21],by simp only [go_sem,h22],by simp only [go_sem,h8],by simp only [go_sem,h28],by simp only [go_sem,h29],(.inr (.inr ⟨rfl,by simp only [go_sem]⟩))⟩
   simp only [go_sem,h3,b3,q2,u2]
   refine qQ (k251 _ _ b (V.mk a.w false a.low b.high 0 0) hb hz) ?_
   cases i2:b.inside (V.mk a.w false a.low b.high 0 0)
   ·simp only [go_sem,h30]
    exact ⟨0,by omega,rfl,nn,by rw [Hp.qK q7.1,Hp.qK q5.1]; exact f20,by rw [Hp.qK u28.1,Hp.qK q6.1]; exact f28,by rw [Hp.qK ux.1,Hp.qK q4.1]; exact fx,⟨_,_,(c.new hMy).new hMw⟩,by simp only [go_sem,h2],by simp only [go_sem,h3],by simp only [go_sem,h6],by simp only [go_sem,h20],by simp only [go_sem,h21],by simp only [go_sem,h22],by simp only [go_sem,h8],by simp only [go_sem,h28],by simp only [go_sem,h29],(.inr (.inr ⟨rfl,by simp only [go_sem]⟩))⟩
   simp only [go_sem,h6,b6,q3,u3]
   refine qQ (k252 _ _ _ hz) ?_
   simp only [go_sem]
   refine qQ (k252 _ _ _ c.cov.1) ?_
   by_cases hlt:(V.mk a.w false a.low b.high 0 0).len < (V.mk a.w false l h 0 0).len
   ·simp only [go_sem,h6,h30,q3,u3,hlt,c.fz]
    exact ⟨0,by omega,rfl,nn,by rw [Hp.qK q7.1,Hp.qK q5.1,setH,Hp.qK nn.1]; exact f20,by rw [Hp.qK u28.1,Hp.qK q6.1,setH,Hp.qK nn.2.1]; exact f28,by rw [Hp.qK ux.1,Hp.qK q4.1,setH,Hp.qK nn.2.2]; exact fx,⟨_,_,((c.set ⟨hz,i1,i2⟩).new (by rw [upd_none]; exact ⟨q3.2,hMy⟩)).new (by rw [upd_none,upd_none]; exact ⟨w1.1,u3.2,w1.2.2⟩)⟩,by simp only [go_sem,h2],by simp only [go_sem,h3],by simp only [go_sem,h6],by simp only [go_sem,h20],by simp only [go_sem,h21],by simp only [go_sem,h22],by simp only [go_sem,h8],by simp only [go_sem,h28],by simp only [go_sem,h29],(.inr (.inr ⟨rfl,by simp only [go_sem]⟩))⟩
   ·simp only [go_sem,h30,hlt]
    exact ⟨0,by omega,rfl,nn,by rw [Hp.qK q7.1,Hp.qK q5.1]; exact f20,by rw [Hp.qK u28.1,Hp.qK q6.1]; exact f28,by rw [Hp.qK ux.1,Hp.qK q4.1]; exact fx,⟨_,_,(c.new hMy).new hMw⟩,by simp only [go_sem,h2],by simp only [go_sem,h3],by simp only [go_sem,h6],by simp only [go_sem,h20],by simp only [go_sem,h21],by simp only [go_sem,h22],by simp only [go_sem,h8],by simp only [go_sem,h28],by simp only [go_sem,h29],(.inr (.inr ⟨rfl,by simp only [go_sem]⟩))⟩
  ·simp only [go_sem,h22,h29,h30]
   exact ⟨1,by omega,rfl,nn.1,f20,⟨_,_,c⟩,by simp only [go_sem,h2],by simp only [go_sem,h3],by simp only [go_sem,h6],by simp only [go_sem,h20],by simp only [go_sem,h21],.inr (.inl ⟨rfl,by simp only [go_sem]⟩)⟩
 ·simp only [go_sem,h20,h21,h22,b20]
  intro rx hFx hMx
  have o1:=qH hMx c.fa
  have o2:=qH hMx c.fb
  have o3:=qH hMx c.fz
  have o4:=qH hMx f20
  simp only [go_sem,h2,h3,o1,o2,b2,b3]
  intro r28 hF28 hM28
  have p1:=wV hM28
  have p4:=qH p1.2.2 f20
  have p3:=qH p1.2.2 c.fz
  simp only [go_sem]
  refine loop_of (inI a b b 1 F' M ra rb rz r20 rx r28) 2 ?_ ?_
  ·exact ⟨rfl,⟨n20,p3.2,o3.2⟩,by rw [Hp.qK p4.1,Hp.qK o4.1]; exact f20,Hp.qJ _ _ _,by rw [Hp.qK p1.2.1]; exact Hp.qJ _ _ _,⟨_,_,(c.new hMx).new hM28⟩,
    by simp only [go_sem,h2],by simp only [go_sem,h3],by simp only [go_sem,h6],by simp only [go_sem,h20],by simp only [go_sem,h21],by simp only [go_sem,h22],by simp only [go_sem],by simp only [go_sem],by simp only [go_sem],.inl ⟨rfl,by simp only [go_sem]⟩⟩
  have hx:b.In:=hb
  have hxw:b.w=a.w:=hw
  clear h2 h3 h6 h20 h21 h22 b2 b3 b6 b20 f20 hM28 p1 p3 p4 o1 o2 o3 o4 hMx
  clear c
  clear l h
  clear hFx hF28
  rintro m σ F'' M'' ⟨rfl,nn,f20,f28,fx,⟨l,h,c⟩,h2,h3,h6,h20,h21,h22,h8,h28,h29,h30⟩
  have b2:=qG (F:=F'') c.fa
  have b3:=qG (F:=F'') c.fb
  have b6:=qG (F:=F'') c.fz
  have b8:=qG (F:=F'') fx
  have b28:=qG (F:=F'') f28
  rcases h30 with ⟨rfl,h30⟩ | ⟨rfl,h30⟩ | ⟨rfl,h30⟩
  ·simp only [go_sem,h28,h29,h30,b28]
   intro ry hFy hMy
   have q1:=qH hMy c.fa
   have q2:=qH hMy c.fb
   have q3:=qH hMy c.fz
   have q4:=qH hMy fx
   have q5:=qH hMy f20
   have q6:=qH hMy f28
   simp only [go_sem,h2,h8,b2,b8,q1,q4]
   intro rw' hFw hMw
   have w1:=wV hMw
   have u1:=qH w1.2.2 c.fa
   have u2:=qH w1.2.2 c.fb
   have u3:=qH w1.2.2 c.fz
   have ux:=qH w1.2.2 fx
   have q7:=qH w1.2.2 f20
   have u28:=qH w1.2.2 f28
   have hz:(V.mk a.w false b.low a.high 0 0).In:=span_in ha hx ha hxw rfl
   simp only [go_sem,h2,b2,q1,u1]
   refine qQ (k251 _ _ a (V.mk a.w false b.low a.high 0 0) ha hz) ?_
   cases i1:a.inside (V.mk a.w false b.low a.high 0 0)
   ·simp only [go_sem,h30]
    exact ⟨1,by omega,rfl,nn,by rw [Hp.qK q7.1,Hp.qK q5.1]; exact f20,by rw [Hp.qK u28.1,Hp.qK q6.1]; exact f28,by rw [Hp.qK ux.1,Hp.qK q4.1]; exact fx,⟨_,_,(c.new hMy).new hMw⟩,by simp only [go_sem,h2],by simp only [go_sem,h3],by simp only [go_sem,h6],by simp only [go_sem,h20],by simp only [go_sem,h21],by simp only [go_sem,h22],by simp only [go_sem,h8],by simp only [go_sem,h28],by simp only [go_sem,h29],(.inr (.inl ⟨rfl,by simp only [go_sem]⟩))⟩
   simp only [go_sem,h3,b3,q2,u2]
   refine qQ (k251 _ _ b (V.mk a.w false b.low a.high 0 0) hb hz) ?_
   cases i2:b.inside (V.mk a.w false b.low a.high 0 0)
   ·simp only [go_sem,h30]
    exact ⟨1,by omega,rfl,nn,by rw [Hp.qK q7.1,Hp.qK q5.1]; exact f20,by rw [Hp.qK u28.1,Hp.qK q6.1]; exact f28,by rw [Hp.qK ux.1,Hp.qK q4.1]; exact fx,⟨_,_,(c.new hMy).new hMw⟩,by simp only [go_sem,h2],by simp only [go_sem,h3],by simp only [go_sem,h6],by simp only [go_sem,h20],by simp only [go_sem,h21],by simp only [go_sem,h22],by simp only [go_sem,h8],by simp only [go_sem,h28],by simp only [go_sem,h29],(.inr (.inl ⟨rfl,by simp only [go_sem]⟩))⟩
   simp only [go_sem,h6,b6,q3,u3]
   refine qQ (k252 _ _ _ hz) ?_
   simp only [go_sem]
   refine qQ (k252 _ _ _ c.cov.1) ?_
   by_cases hlt:(V.mk a.w false b.low a.high 0 0).len < (V.mk a.w false l h 0 0).len
   ·simp only [go_sem,h6,h30,q3,u3,hlt,c.fz]
    exact ⟨1,by omega,rfl,nn,by rw [Hp.qK q7.1,Hp.qK q5.1,setH,Hp.qK nn.1]; exact f20,by rw [Hp.qK u28.1,Hp.qK q6.1,setH,Hp.qK nn.2.1]; exact f28,by rw [Hp.qK ux.1,Hp.qK q4.1,setH,Hp.qK nn.2.2]; exact fx,⟨_,_,((c.set ⟨hz,i1,i2⟩).new (by rw [upd_none]; exact ⟨q3.2,hMy⟩)).new (by rw [upd_none,upd_none]; exact ⟨w1.1,u3.2,w1.2.2⟩)⟩,by simp only [go_sem,h2],by simp only [go_sem,h3],by simp only [go_sem,h6],by simp only [go_sem,h20],by simp only [go_sem,h21],by simp only [go_sem,h22],by simp only [go_sem,h8],by simp only [go_sem,h28],by simp only [go_sem,h29],(.inr (.inl ⟨rfl,by simp only [go_sem]⟩))⟩
   ·simp only [go_sem,h30,hlt]
    exact ⟨1,by omega,rfl,nn,by rw [Hp.qK q7.1,Hp.qK q5.1]; exact f20,by rw [Hp.qK u28.1,Hp.qK q6.1]; exact f28,by rw [Hp.qK ux.1,Hp.qK q4.1]; exact fx,⟨_,_,(c.new hMy).new hMw⟩,by simp only [go_sem,h2],by simp only [go_sem,h3],by simp only [go_sem,h6],by simp only [go_sem,h20],by simp only [go_sem,h21],by simp only [go_sem,h22],by simp only [go_sem,h8],by simp only [go_sem,h28],by simp only [go_sem,h29],(.inr (.inl ⟨rfl,by simp only [go_sem]⟩))⟩
  ·simp only [go_sem,h28,h29,h30,b28]
   intro ry hFy hMy
   have q1:=qH hMy c.fa
   have q2:=qH hMy c.fb
   have q3:=qH hMy c.fz
   have q4:=qH hMy fx
   have q5:=qH hMy f20
   have q6:=qH hMy f28
   simp only [go_sem,h2,h8,b2,b8,q1,q4]
   intro rw' hFw hMw
   have w1:=wV hMw
   have u1:=qH w1.2.2 c.fa
   have u2:=qH w1.2.2 c.fb
   have u3:=qH w1.2.2 c.fz
   have ux:=qH w1.2.2 fx
   have q7:=qH w1.2.2 f20
   have u28:=qH w1.2.2 f28
   have hz:(V.mk a.w false b.low b.high 0 0).In:=span_in ha hx hb hxw hw
   simp only [go_sem,h2,b2,q1,u1]
   refine qQ (k251 _ _ a (V.mk a.w false b.low b.high 0 0) ha hz) ?_
   cases i1:a.inside (V.mk a.w false b.low b.high 0 0)
   ·simp only [go_sem,h30]
    exact ⟨0,by omega,rfl,nn,by rw [Hp.qK q7.1,Hp.qK q5.1]; exact f20,by rw [Hp.qK u28.1,Hp.qK q6.1]; exact f28,by rw [Hp.qK ux.1,Hp.qK q4.1]; exact fx,⟨_,_,(c.new hMy).new hMw⟩,by simp only [go_sem,h2],by simp only [go_sem,h3],by simp only [go_sem,h6],by simp only [go_sem,h20],by simp only [go_sem,h21],by simp only [go_sem,h22],by simp only [go_sem,h8],by simp only [go_sem,h28],by simp only [go_sem,h29],(.inr (.inr ⟨rfl,by simp only [go_sem]⟩))⟩
   simp only [go_sem,h3,b3,q2,u2]
   refine qQ (k251 _ _ b (V.mk a.w false b.low b.high 0 0) hb hz) ?_
   cases i2:b.inside (V.mk a.w false b.low b.high 0 0)
   ·simp only [go_sem,h30]
    exact ⟨0,by omega,rfl,nn,by rw [Hp.qK q7.1,Hp.qK q5.1]; exact f20,by rw [Hp.qK u28.1,Hp.qK q6.1]; exact f28,by rw [Hp.qK ux.1,Hp.qK q4.1]; exact fx,⟨_,_,(c.new hMy).new hMw⟩,by simp only [go_sem,h2],by simp only [go_sem,h3],by simp only [go_sem,h6],by simp only [go_sem,h20],by simp only [go_sem,h21],by simp only [go_sem,h22],by simp only [go_sem,h8],by simp only [go_sem,h28],by simp only [go_sem,h29],(.inr (.inr ⟨rfl,by simp only [go_sem]⟩))⟩
   simp only [go_sem,h6,b6,q3,u3]
   refine qQ (k252 _ _ _ hz) ?_
   simp only [go_sem]
   refine qQ (k252 _ _ _ c.cov.1) ?_
   by_cases hlt:(V.mk a.w false b.low b.high 0 0).len < (V.mk a.w false l h 0 0).len
   ·simp only [go_sem,h6,h30,q3,u3,hlt,c.fz]
    exact ⟨0,by omega,rfl,nn,by rw [Hp.qK q7.1,Hp.qK q5.1,setH,Hp.qK nn.1]; exact f20,by rw [Hp.qK u28.1,Hp.qK q6.1,setH,Hp.qK nn.2.1]; exact f28,by rw [Hp.qK ux.1,Hp.qK q4.1,setH,Hp.qK nn.2.2]; exact fx,⟨_,_,((c.set ⟨hz,i1,i2⟩).new (by rw [upd_none]; exact ⟨q3.2,hMy⟩)).new (by rw [upd_none,upd_none]; exact ⟨w1.1,u3.2,w1.2.2⟩)⟩,by simp only [go_sem,h2],by simp only [go_sem,h3],by simp only [go_sem,h6],by simp only [go_sem,h20],by simp only [go_sem,h21],by simp only [go_sem,h22],by simp only [go_sem,h8],by simp only [go_sem,h28],by simp only [go_sem,h29],(.inr (.inr ⟨rfl,by simp only [go_sem]⟩))⟩
   ·simp only [go_sem,h30,hlt]
    exact ⟨0,by omega,rfl,nn,by rw [Hp.qK q7.1,Hp.qK q5.1]; exact f20,by rw [Hp.qK u28.1,Hp.qK q6.1]; exact f28,by rw [Hp.qK ux.1,Hp.qK q4.1]; exact fx,⟨_,_,(c.new hMy).new hMw⟩,by simp only [go_sem,h2],by simp only [go_sem,h3],by simp only [go_sem,h6],by simp only [go_sem,h20],by simp only [go_sem,h21],by simp only [go_sem,h22],by simp only [go_sem,h8],by simp only [go_sem,h28],by simp only [go_sem,h29],(.inr (.inr ⟨rfl,by simp only [go_sem]⟩))⟩
  ·simp only [go_sem,h22,h29,h30]
   exact ⟨0,by omega,rfl,nn.1,f20,⟨_,_,c⟩,by simp only [go_sem,h2],by simp only [go_sem,h3],by simp only [go_sem,h6],by simp only [go_sem,h20],by simp only [go_sem,h21],.inr (.inr ⟨rfl,by simp only [go_sem]⟩)⟩
 ·simp only [go_sem,h6,h21,h22,b6]
  exact qX c.keep ⟨rfl,rfl,l,h,rfl,c.cov⟩
theorem k146 (a b:V)(ha:a.ok=true)(hb:b.ok=true)(hw:b.w=a.w):CallsA Tryz.prog 146 [a.val,b.val] F M fun u F' M'=>F'=F∧M'=M∧∃z,u=V.val z∧BothR a b z:=by
 refine qZ hm Tryz.func146 e146 (Nat.le_of_ble_eq_true rfl) ?_
 simp only [c146,go_sem]
 intro ra hFa hMa
 simp only [go_sem]
 intro rb hFb hMb
 have gb:=wV hMb
 simp only [go_sem]
 intro rz hFz hMz
 have gz:=wV hMz
 have gz2:=wV gz.2.2
 simp only [go_sem,gb,gz2]
 refine qQ (k128 F _ a ha) ?_
 by_cases h0:a.wQ 0 < 0
 ·simp only [go_sem,gz,h0]
  refine qQ (k203 F _ b hb) ?_
  simp only [go_sem]
  exact qX ((((Keep.refl M).new hMa).new gb.2.2).new gz2.2.2) ⟨rfl,rfl,_,rfl,both_void ha hb hw h0⟩
 simp only [go_sem,gz,h0]
 refine qQ (k128 F _ b hb) ?_
 by_cases h1:b.wQ 0 < 0
 ·simp only [go_sem,gb,gz2,h1]
  refine qQ (k203 F _ a ha) ?_
  simp only [go_sem]
  exact qX ((((Keep.refl M).new hMa).new gb.2.2).new gz2.2.2) ⟨rfl,rfl,_,rfl,both_void' ha hb hw h1⟩
 simp only [go_sem,gb,gz,gz2,h1]
 by_cases hab:a=b
 ·subst hab
  simp only [go_sem,gb,gz2,eq_self]
  exact qX ((((Keep.refl M).new hMa).new gb.2.2).new gz2.2.2) ⟨rfl,rfl,_,rfl,both_same ha⟩
 simp only [go_sem,gb,gz,gz2,hab]
 refine qQ (k203 F _ a ha) ?_
 simp only [go_sem]
 refine qQ (k203 F _ b hb) ?_
 simp only [go_sem,gb,gz,gz2]
 have ta:=tidy_spec ha
 have tb:=tidy_spec hb
 refine qY (k204 F _ a.tidy b.tidy (ok_in ta.ok) (ok_in tb.ok) (by rw [ta.w,tb.w,hw])) ?_
 rintro u G M' ⟨hG,rfl,l,h,rfl,c⟩
 rw [hG]
 refine ⟨(fun h=>by cases h),?_⟩
 have hz:=both_mix ha hb hw h0 h1 c
 have em:bor .i64 (bor .i64 a.tidy.free b.tidy.free) (bxor .i64 a.tidy.bits b.tidy.bits)=a.tidy.mix b.tidy:=rfl
 simp only [go_sem,gb,gz,gz2,em]
 refine qQ (k203 F _ _ hz.1) ?_
 simp only [go_sem]
 exact qX ((((Keep.refl M).new hMa).new gb.2.2).new gz2.2.2) ⟨rfl,rfl,_,rfl,hz.2⟩
theorem k14 (n w:Int)(h0:0≤w)(h1:w≤62):CallsA Tryz.prog 14 [.int .i64 n,.int .i64 w] F M (Same F M (.int .i64 (n % 2 ^ w.toNat))):=by
 refine qZ hm Tryz.func14 e14 (Nat.le_of_ble_eq_true rfl) ?_
 have:¬w < 0:=by omega
 simp only [c14,go_sem,this,shl1 h0 h1,most_wrap h0 h1,band_mostV n h1]
 exact qW ⟨rfl,rfl,rfl⟩
theorem k44 (w n:Int):CallsA Tryz.prog 44 [.int .i64 w,.int .i64 n] F M (Same F M (V.just w n).val):=by
 refine qZ hm Tryz.func44 e44 (Nat.le_of_ble_eq_true rfl) ?_
 simp only [c44,go_sem]
 intro r hF hM
 simp only [go_sem]
 exact qV hM (qW ⟨rfl,rfl,rfl⟩)
theorem k72 (k:Int):CallsA Tryz.prog 72 [.int .i64 k] F M (Same F M (.bool (isK k))):=by
 refine qZ hm Tryz.func72 e72 (Nat.le_of_ble_eq_true rfl) ?_
 by_cases h1:1≤k
 ·by_cases h2:k≤6
  ·simp only [c72,go_sem,h1,h2]
   exact qW ⟨by simp [isK,h1,h2],rfl,rfl⟩
  ·simp only [c72,go_sem,h1,h2]
   exact qW ⟨by simp [isK,h1,h2],rfl,rfl⟩
 ·simp only [c72,go_sem,h1]
  exact qW ⟨by simp [isK,h1],rfl,rfl⟩
theorem k74 (k:Int)(hk:isK k=true):CallsA Tryz.prog 74 [.int .i64 k] F M (Same F M (.int .i64 (ofW k))):=by
 refine qZ hm Tryz.func74 e74 (Nat.le_of_ble_eq_true rfl) ?_
 have q0:(0:Int).tdiv 2=0:=by decide
 have q1:(1:Int).tdiv 2=0:=by decide
 have q2:(2:Int).tdiv 2=1:=by decide
 have q3:(3:Int).tdiv 2=1:=by decide
 have q4:(4:Int).tdiv 2=2:=by decide
 have q5:(5:Int).tdiv 2=2:=by decide
 have w0:IntKind.i64.wrap 0=0:=by decide
 have w1:IntKind.i64.wrap 1=1:=by decide
 have w2:IntKind.i64.wrap 2=2:=by decide
 have w3:IntKind.i64.wrap 3=3:=by decide
 have w4:IntKind.i64.wrap 4=4:=by decide
 have w5:IntKind.i64.wrap 5=5:=by decide
 have s0:shlv .i64 8 0=8:=by decide +kernel
 have s1:shlv .i64 8 1=16:=by decide +kernel
 have s2:shlv .i64 8 2=32:=by decide +kernel
 have n2:¬(2:Int)=0:=by decide
 rcases isK_cases hk with rfl | rfl | rfl | rfl | rfl | rfl <;>
  simp only [c74,go_sem,w0,w1,w2,w3,w4,w5,q0,q1,q2,q3,q4,q5,s0,s1,s2,n2,not_false_eq_true,Int.sub_self] <;>
  exact qW ⟨rfl,rfl,rfl⟩
theorem k283 (k:Int):CallsA Tryz.prog 283 [.int .i64 k] F M (Same F M (.bool (sgn k))):=by
 refine qZ hm Tryz.func283 e283 (Nat.le_of_ble_eq_true rfl) ?_
 by_cases h1:k=2
 ·simp only [c283,go_sem,h1]
  exact qW ⟨rfl,rfl,rfl⟩
 by_cases h2:k=4
 ·simp only [c283,go_sem,h2]
  exact qW ⟨rfl,rfl,rfl⟩
 simp only [c283,go_sem,h1,h2]
 exact qW ⟨by simp [sgn,h1,h2],rfl,rfl⟩
theorem k15 (k:Int):CallsA Tryz.prog 15 [.int .i64 k] F M (Same F M (.int .i64 (wK k))):=by
 refine qZ hm Tryz.func15 e15 (Nat.le_of_ble_eq_true rfl) ?_
 by_cases h:isK k=true
 ·rcases isK_cases h with rfl | rfl | rfl | rfl | rfl | rfl <;>
   simp only [c15,go_sem] <;>
   exact qW ⟨rfl,rfl,rfl⟩
 ·have hn:¬k=1∧¬k=2∧¬k=3∧¬k=4∧¬k=5∧¬k=6:=by simp [isK] at h; omega
  simp only [c15,go_sem,hn]
  exact qW ⟨by simp [wK,h],rfl,rfl⟩
theorem k285 (n w:Int)(hw:isW w=true)(h0:0≤n)(h1:n≤wH w):CallsA Tryz.prog 285 [.int .i64 n,.int .i64 w] F M (Same F M (.int .i64 (lookV n w))):=by
 refine qZ hm Tryz.func285 e285 (Nat.le_of_ble_eq_true rfl) ?_
 have lw:=gQ hw
 have hp:=pow_w hw
 have w1:IntKind.i64.wrap (w - 1)=w - 1:=w64 (by omega) (by omega)
 have s0:¬w - 1 < 0:=by omega
 have s1:¬w < 0:=by omega
 have e1:shlv .i64 1 (w - 1)=halfV w:=shl1 (by omega) (by omega)
 have e2:IntKind.i64.wrap (n - 2 ^ w.toNat)=n - 2 ^ w.toNat:=w64 (by omega) (by omega)
 by_cases h:halfV w≤n
 ·simp only [c285,go_sem,w1,s0,s1,e1,shl1 lw.1 lw.2,h,e2,not_false_eq_true]
  exact qW ⟨by simp [lookV,h],rfl,rfl⟩
 ·simp only [c285,go_sem,w1,s0,e1,h,not_false_eq_true]
  exact qW ⟨by simp [lookV,h],rfl,rfl⟩
theorem wK_of {k:Int}(h:isK k=true):wK k=ofW k:=by simp [wK,h]
theorem sgn_isK {k:Int}(h:sgn k=true):isK k=true:=by
 simp [sgn] at h; simp [isK]; omega
theorem k278 (k n:Int)(h0:0≤n)(h1:n≤wH (ofW k)):CallsA Tryz.prog 278 [.int .i64 k,.int .i64 n] F M (Same F M (.int .i64 (gG k n))):=by
 refine qZ hm Tryz.func278 e278 (Nat.le_of_ble_eq_true rfl) ?_
 simp only [c278,go_sem]
 refine qQ (k283 F _ k) ?_
 cases hs:sgn k
 ·simp only [go_sem]
  exact qW ⟨by simp [gG,hs],rfl,rfl⟩
 ·simp only [go_sem]
  refine qQ (k74 F _ k (sgn_isK hs)) ?_
  simp only [go_sem]
  refine qQ (k285 F _ n _ (gZ k) h0 h1) ?_
  simp only [go_sem]
  exact qW ⟨by simp [gG,hs],rfl,rfl⟩
theorem k243 (k t a:Int)(ht:isK t=true)(a0:0≤a)(a1:a≤wH (ofW k)):CallsA Tryz.prog 243 [.int .i64 k,.int .i64 t,.int .i64 a] F M (Same F M (.int .i64 (gG k a % 2 ^ (ofW t).toNat))):=by
 refine qZ hm Tryz.func243 e243 (Nat.le_of_ble_eq_true rfl) ?_
 have lw:=gQ (gZ t)
 simp only [c243,go_sem]
 refine qQ (k278 F _ k a a0 a1) ?_
 simp only [go_sem]
 refine qQ (k74 F _ t ht) ?_
 simp only [go_sem]
 refine qQ (k246 F _ _ _ lw.1 lw.2) ?_
 simp only [go_sem]
 exact qW ⟨rfl,rfl,rfl⟩
def fitB (k:Int)(v:V):Bool:=isK k && v.ok && decide (v.w=ofW k)
def askB (op k:Int)(a b:V):Bool:=(decide (op=18) || decide (op=19)) && fitB k a && fitB k b
theorem k39 (k:Int):CallsA Tryz.prog 39 [.int .i64 k] F M (Same F M (.bool (isS k))):=by
 refine qZ hm Tryz.func39 e39 (Nat.le_of_ble_eq_true rfl) ?_
 by_cases h1:1≤k
 ·simp only [c39,go_sem,h1]
  exact qW ⟨by simp [isS,h1],rfl,rfl⟩
 ·simp only [c39,go_sem,h1]
  exact qW ⟨by simp [isS,h1],rfl,rfl⟩
theorem k61 (k:Int):CallsA Tryz.prog 61 [.int .i64 k] F M (Same F M (.bool (isS k))):=by
 refine qZ hm Tryz.func61 e61 (Nat.le_of_ble_eq_true rfl) ?_
 simp only [c61,go_sem]
 refine qQ (k33 _ _ k 1 7) ?_
 simp only [go_sem]
 exact qW ⟨rfl,rfl,rfl⟩
theorem k287 (n m:Int):CallsA Tryz.prog 287 [.int .i64 n,.int .i64 m] F M (Same F M (.bool (decide (0≤n) && decide (n≤m)))):=by
 refine qZ hm Tryz.func287 e287 (Nat.le_of_ble_eq_true rfl) ?_
 by_cases h1:0≤n
 ·simp only [c287,go_sem,h1]
  exact qW ⟨by simp [],rfl,rfl⟩
 ·simp only [c287,go_sem,h1]
  exact qW ⟨by simp [],rfl,rfl⟩
theorem not_isK7:isK 7=false:=by decide
theorem k143 (v:V):CallsA Tryz.prog 143 [v.val] F M (Same F M (abV v (.slice none 0 0))):=by
 refine qZ hm Tryz.func143 e143 (Nat.le_of_ble_eq_true rfl) ?_
 simp only [c143,go_sem]
 intro r1 hF1 hM1
 simp only [go_sem]
 intro r2 hF2 hM2
 have g:=wV hM2
 simp only [go_sem,g]
 exact qV hM2 (qV hM1 (qW ⟨rfl,rfl,rfl⟩))
theorem k165 (b o:Int):CallsA Tryz.prog 165 [.int .i64 b,.int .i64 o] F M (abR 102 V.zero [⟨b,V.just 8 o⟩] F M):=by
 refine qZ hm Tryz.func165 e165 (Nat.le_of_ble_eq_true rfl) ?_
 simp only [c165,go_sem]
 intro r4 hF4 hM4
 simp only [go_sem]
 refine qQ (k166 _ _ 8 o) ?_
 simp only [go_sem]
 intro g hFg hMg
 have gg:=wV hMg
 simp only [go_sem,gg]
 refine qX (M:=M.upd g ⟨[Ba.mk b (V.just 8 o)].flatMap Ba.cs,102,1 * 7⟩) ?_ ⟨rfl,.inr ⟨g,1,hFg,gg.2.2,rfl,⟨by simp,by decide⟩,rfl⟩⟩
 exact ((Keep.refl M).new hM4).both
theorem k109 (k:Int)(s:Sc)(hk:k=7∨isK k=true):CallsA Tryz.prog 109 [.int .i64 k,s.val] F M (abR 102 (if k=7 then V.zero else V.just (ofW k) s.n) (if k=7 then [⟨s.b,V.just 8 s.o⟩] else []) F M):=by
 refine qZ hm Tryz.func109 e109 (Nat.le_of_ble_eq_true rfl) ?_
 simp only [c109,go_sem]
 intro r3 hF3 hM3
 simp only [go_sem]
 intro r4 hF4 hM4
 have g4:=wV hM4
 by_cases h7:k=7
 ·simp only [go_sem,g4,h7]
  refine qY (k165 _ _ s.b s.o) ?_
  rintro u G M' ⟨hG,⟨h,_⟩ | ⟨g,cap,hFg,hMg,rfl,hcap,hM'⟩⟩
  ·cases h
  rw [hG,hM']
  refine ⟨(fun h=>by cases h),?_⟩
  have g1:=wV hMg
  have g2:=wV g1.2.2
  simp only [go_sem,g1]
  refine qX (M:=M.upd g ⟨[Ba.mk s.b (V.just 8 s.o)].flatMap Ba.cs,102,cap * 7⟩) ?_ ⟨rfl,.inr ⟨g,cap,hFg,g2.2.2,rfl,hcap,rfl⟩⟩
  exact (((Keep.refl M).new hM3).new g4.2.2).both
 ·have hk':isK k=true:=by rcases hk with h | h; exact absurd h h7; exact h
  simp only [go_sem,g4,h7]
  refine qQ (k74 _ _ k hk') ?_
  simp only [go_sem]
  refine qQ (k166 _ _ (ofW k) s.n) ?_
  simp only [go_sem]
  refine qQ (k143 _ _ _) ?_
  simp only [go_sem]
  exact qX (M:=M) (((Keep.refl M).new hM3).new g4.2.2) ⟨rfl,.inl ⟨rfl,rfl,rfl⟩⟩
def pnI (l:List Ba)(u:Value)(b o:Int)(F0:Fz)(M0:Hp)(m:Nat)(σ:Env)(F:Fz)(M:Hp):Prop:=
 F=F0∧M=M0∧Ax.look σ 0=some u∧Ax.look σ 1=some (.int .i64 b)∧Ax.look σ 2=some (.int .i64 o)∧∃i:Nat,i+m=l.length∧Ax.look σ 7=some (.int .i64 i)∧pointsB l b o=pointsB (l.drop i) b o
theorem k54 (u:Value)(l:List Ba)(b o:Int)(h:RdG 7 Ba.cs F M u l):CallsA Tryz.prog 54 [u,.int .i64 b,.int .i64 o] F M (Same F M (.bool (pointsB l b o))):=by
 refine qZ hm Tryz.func54 e54 (Nat.le_of_ble_eq_true rfl) ?_
 obtain ⟨hl,ad,cap,hlc,rfl,h⟩:=h
 simp only [c54,go_sem]
 refine loop_of (pnI l (.slice ad l.length cap) b o F M) l.length ?_ ?_
 ·exact ⟨rfl,rfl,by simp only [go_sem],by simp only [go_sem],by simp only [go_sem],0,by omega,by simp only [go_sem] <;> rfl,rfl⟩
 rintro m σ F' M' ⟨rfl,rfl,h0,h1,h2,i,hi,h7,ha⟩
 by_cases hil:(i:Int) < l.length
 ·have hi0:(0:Int)≤i:=by omega
  have hil':i < l.length:=by omega
  have ei:IntKind.i64.wrap ((i:Int)+1)=i+1:=w64 (by omega) (by omega)
  rcases h with h | ⟨g,p,cs,rfl,hb,hc⟩
  ·rw [h] at hil'; simp at hil'
  obtain ⟨d1,d2⟩:=hc i hil'
  unfold pointsB at ha
  rw [List.drop_eq_getElem_cons hil',List.any_cons] at ha
  generalize l[i]=x at *
  obtain ⟨r1,r2,r3,r4⟩:=ba_row d1 d2
  by_cases hx:x.b=b
  ·simp only [go_sem,h0,h1,h2,h7,hil,hi0,Int.toNat_natCast,Nat.add_zero,hb,r1,r3,r4,hx]
   refine qQ (k53 _ _ x.v o) ?_
   cases hh:x.v.has o
   ·simp only [go_sem,h7,ei]
    exact ⟨m - 1,by omega,rfl,rfl,by simp only [go_sem,h0],by simp only [go_sem,h1],by simp only [go_sem,h2],i+1,by omega,by simp only [go_sem]; rfl,by unfold pointsB; rw [ha,hh]; simp⟩
   ·simp only [go_sem]
    exact qW ⟨by unfold pointsB; rw [ha,hh]; simp [hx],rfl,rfl⟩
  ·simp only [go_sem,h0,h1,h7,hil,hi0,Int.toNat_natCast,Nat.add_zero,hb,r1,hx,ei]
   exact ⟨m - 1,by omega,rfl,rfl,by simp only [go_sem,h0],by simp only [go_sem,h1],by simp only [go_sem,h2],i+1,by omega,by simp only [go_sem]; rfl,by unfold pointsB; rw [ha]; simp [hx]⟩
 ·have:l.drop i=[]:=List.drop_eq_nil_of_le (by omega)
  rw [this] at ha
  simp only [go_sem,h0,h7,hil]
  exact qW ⟨by rw [ha]; rfl,rfl,rfl⟩
theorem k25 (k:Int)(v:V)(u:Value)(l:List Ba)(s:Sc)(h:RdG 7 Ba.cs F M u l):CallsA Tryz.prog 25 [.int .i64 k,abV v u,s.val] F M (Same F M (.bool (hasB k v l s))):=by
 refine qZ hm Tryz.func25 e25 (Nat.le_of_ble_eq_true rfl) ?_
 have h':=h
 obtain ⟨_,ad,cap,_,rfl,_⟩:=h
 simp only [c25,go_sem]
 intro r4 hF4 hM4
 simp only [go_sem]
 intro r5 hF5 hM5
 have g5:=wV hM5
 have h2:=(h'.new hF4 hM4 (e:=⟨yJ v (.slice ad l.length cap),62,7⟩)).new hF5 hM5 (e:=⟨s.cs,50,4⟩)
 by_cases h7:k=7
 ·simp only [go_sem,g5,h7]
  refine qQ (k54 _ _ _ l s.b s.o h2) ?_
  simp only [go_sem]
  exact qV hM5 (qV hM4 (qW ⟨by simp [hasB],rfl,rfl⟩))
 ·simp only [go_sem,g5,h7]
  refine qQ (k53 _ _ v s.n) ?_
  simp only [go_sem]
  exact qV hM5 (qV hM4 (qW ⟨by simp [hasB,h7],rfl,rfl⟩))
def Old' (F:Fz)(M0 M:Hp):Prop:=∀{u:Value} {l:List Ba},RdG 7 Ba.cs F M0 u l→RdG 7 Ba.cs F M u l
def ptI (l:List Ba)(u:Value)(F0:Fz)(M0:Hp)(m:Nat)(σ:Env)(F:Fz)(M:Hp):Prop:=
 F=F0∧Keep M0 M∧Old' F0 M0 M∧Ax.look σ 0=some u∧∃i:Nat,i+m=l.length∧Ax.look σ 3=some (.int .i64 i)∧∀j,j < i→okAt l j=true
theorem k65 (u:Value)(l:List Ba)(h:RdG 7 Ba.cs F M u l):CallsA Tryz.prog 65 [u] F M (Same F M (.bool (jG l))):=by
 refine qZ hm Tryz.func65 e65 (Nat.le_of_ble_eq_true rfl) ?_
 have h':=h
 obtain ⟨hl,ad,cap,hlc,rfl,_⟩:=h
 simp only [c65,go_sem]
 by_cases hl7:(7:Int) < l.length
 ·simp only [go_sem,hl7]
  exact qW ⟨by simp [jG]; omega,rfl,rfl⟩
 simp only [go_sem,hl7]
 refine loop_of (ptI l (.slice ad l.length cap) F M) l.length ?_ ?_
 ·exact ⟨rfl,Keep.refl _,fun h=>h,by simp only [go_sem],0,by omega,by simp only [go_sem] <;> rfl,by omega⟩
 rintro m σ F' M' ⟨rfl,kp,ro,h0,i,hi,h3,hok⟩
 by_cases hil:(i:Int) < l.length
 rotate_left
 ·simp only [go_sem,h0,h3,hil]
  exact qX kp ⟨by rw [ptrs_yes (by omega) (fun j hj=>hok j (by omega))],rfl,rfl⟩
 have hi0:(0:Int)≤i:=by omega
 have hil':i < l.length:=by omega
 have ei:IntKind.i64.wrap ((i:Int)+1)=i+1:=w64 (by omega) (by omega)
 have ei1:IntKind.i64.wrap ((i:Int) - 1)=i - 1:=w64 (by omega) (by omega)
 obtain ⟨_,_,_,_,eu,hrd⟩:=ro h'
 cases eu
 rcases hrd with h | ⟨g,p,cs,rfl,hb,hc⟩
 ·rw [h] at hil'; simp at hil'
 obtain ⟨d1,d2⟩:=hc i hil'
 have hget:l[i]? = some l[i]:=by simp
 obtain ⟨r1,r2,r3,r4⟩:=ba_row d1 d2
 simp only [go_sem,h0,h3,hil,hi0,Int.toNat_natCast,hb,d1,d2]
 intro r hF hM
 have bg:=blk_ne hb hF hM
 have no:okAt l i=false→jG l=false:=fun h=>ptrs_no hil' h
 have kp2:∀e,Keep M (M'.upd r e):=fun e=>kp.new (kp.free hM)
 have ok1:okAt l i=(baseB l[i] && (decide (i=0) || match l[i - 1]? with | none=>true | some y=>decide (y.b < l[i].b))):=by
  unfold okAt; rw [hget] <;> rfl
 simp only [go_sem]
 refine qQ (k114 _ _ l[i].b 6) ?_
 cases hn:(decide (0≤l[i].b) && decide (l[i].b≤6))
 ·have hno:jG l=false:=no (by rw [ok1]; simp only [baseB,hn]; simp)
  simp only [go_sem]
  exact qX (kp2 _) ⟨by rw [hno],rfl,rfl⟩
  -- the one ahead
 have prev:(0:Int) < i→∃y,l[i - 1]? = some y∧cs[p+(i - 1) * 7]? = some (.int .i64 y.b):=by
  intro hi1
  obtain ⟨e1,e2⟩:=hc (i - 1) (by omega)
  exact ⟨l[i - 1],List.getElem?_eq_getElem (by omega),(ba_row e1 e2).1⟩
 have rest:∀(b2:Bool),(decide (i=0) || match l[i - 1]? with | none=>true | some y=>decide (y.b < l[i].b))=b2→okAt l i=(baseB l[i] && b2):=fun b2 h=>by rw [ok1,h]
 have tail:∀(b2:Bool),(decide (i=0) || match l[i - 1]? with | none=>true | some y=>decide (y.b < l[i].b))=b2→(b2=false→jG l=false)∧(b2=true→okAt l i=baseB l[i]):=fun b2 h=>⟨fun hb=>no (by rw [rest b2 h,hb]; simp),fun hb=>by rw [rest b2 h,hb]; simp⟩
 have nxt:∀σ' e,Ax.look σ' 0=some (.slice (some ⟨g,p,none⟩) l.length cap)→Ax.look σ' 3=some (.int .i64 (i+1))→okAt l i=true→∃m',m' < m∧ptI l (.slice (some ⟨g,p,none⟩) l.length cap) F' M m' σ' F' (M'.upd r e):=by
  intro σ' e q0 q3 hk
  refine ⟨m - 1,by omega,rfl,kp2 e,fun h=>(ro h).new hF hM,q0,i+1,by omega,q3,fun j hj=>?_⟩
  rcases Nat.lt_or_ge j i with h | h
  ·exact hok j h
  ·have:j=i:=by omega
   rw [this]; exact hk
 generalize l[i]=x at *
 by_cases hi1:(0:Int) < i
 ·obtain ⟨y,y1,y2⟩:=prev hi1
  have i1:(0:Int)≤(i:Int) - 1:=by omega
  have i2:(i:Int) - 1 < l.length:=by omega
  have i3:((i:Int) - 1).toNat=i - 1:=by omega
  have hi0':¬i=0:=by omega
  rw [y1] at tail
  by_cases hyx:x.b≤y.b
  ·have hno:=(tail false (by simp [hi0']; omega)).1 rfl
   simp only [go_sem,h0,h3,hi1,ei1,i1,i2,i3,bg,hb,y2,Nat.add_zero,hyx]
   exact qX (kp2 _) ⟨by rw [hno],rfl,rfl⟩
  ·have hk:=(tail true (by simp; omega)).2 rfl
   simp only [go_sem,h0,h3,hi1,ei1,i1,i2,i3,bg,hb,y2,Nat.add_zero,hyx]
   refine qQ (k64 _ _ x.v) ?_
   cases hv:x.v.ok
   ·have hno:jG l=false:=no (by rw [hk]; simp [baseB,hv])
    simp only [go_sem]
    exact qX (kp2 _) ⟨by rw [hno],rfl,rfl⟩
   by_cases hw:x.v.w=8
   rotate_left
   ·have hno:jG l=false:=no (by rw [hk]; simp [baseB,hw])
    simp only [go_sem,hw]
    exact qX (kp2 _) ⟨by rw [hno],rfl,rfl⟩
   simp only [go_sem,hw]
   refine qQ (k93 _ _ x.v hv) ?_
   by_cases hb0:x.b=0
   rotate_left
   ·simp only [onlyA_eq,go_sem,h3,hb0,ei]
    exact nxt _ _ (by simp only [go_sem,h0]) (by simp only [go_sem]) (by rw [hk]; simp only [baseB,hn,hv,hw]; simp [hb0])
   cases h1:x.v.is1
   ·have hno:jG l=false:=no (by rw [hk]; simp [baseB,hb0,h1])
    simp only [onlyA_eq,go_sem,hb0,h1]
    exact qX (kp2 _) ⟨by rw [hno],rfl,rfl⟩
   by_cases hn0:x.v.wQ 0=0
   rotate_left
   ·have hno:jG l=false:=no (by rw [hk]; simp [baseB,hb0,hn0])
    simp only [onlyA_eq,go_sem,hb0,h1,hn0]
    exact qX (kp2 _) ⟨by rw [hno],rfl,rfl⟩
   simp only [onlyA_eq,go_sem,h3,hb0,h1,hn0,ei]
   exact nxt _ _ (by simp only [go_sem,h0]) (by simp only [go_sem]) (by rw [hk]; simp only [baseB,hn,hv,hw,h1,hn0]; simp)
 ·have hi0':i=0:=by omega
  have hk:=(tail true (by simp [hi0'])).2 rfl
  simp only [go_sem,h3,hi1]
  refine qQ (k64 _ _ x.v) ?_
  cases hv:x.v.ok
  ·have hno:jG l=false:=no (by rw [hk]; simp [baseB,hv])
   simp only [go_sem]
   exact qX (kp2 _) ⟨by rw [hno],rfl,rfl⟩
  by_cases hw:x.v.w=8
  rotate_left
  ·have hno:jG l=false:=no (by rw [hk]; simp [baseB,hw])
   simp only [go_sem,hw]
   exact qX (kp2 _) ⟨by rw [hno],rfl,rfl⟩
  simp only [go_sem,hw]
  refine qQ (k93 _ _ x.v hv) ?_
  by_cases hb0:x.b=0
  rotate_left
  ·simp only [onlyA_eq,go_sem,h3,hb0,ei]
   exact nxt _ _ (by simp only [go_sem,h0]) (by simp only [go_sem]) (by rw [hk]; simp only [baseB,hn,hv,hw]; simp [hb0])
  cases h1:x.v.is1
  ·have hno:jG l=false:=no (by rw [hk]; simp [baseB,hb0,h1])
   simp only [onlyA_eq,go_sem,hb0,h1]
   exact qX (kp2 _) ⟨by rw [hno],rfl,rfl⟩
  by_cases hn0:x.v.wQ 0=0
  rotate_left
  ·have hno:jG l=false:=no (by rw [hk]; simp [baseB,hb0,hn0])
   simp only [onlyA_eq,go_sem,hb0,h1,hn0]
   exact qX (kp2 _) ⟨by rw [hno],rfl,rfl⟩
  simp only [onlyA_eq,go_sem,h3,hb0,h1,hn0,ei]
  exact nxt _ _ (by simp only [go_sem,h0]) (by simp only [go_sem]) (by rw [hk]; simp only [baseB,hn,hv,hw,h1,hn0]; simp)
theorem k67 (k:Int)(v:V)(u:Value)(l:List Ba)(h:RdG 7 Ba.cs F M u l):CallsA Tryz.prog 67 [.int .i64 k,abV v u] F M (Same F M (.bool (absB k v l))):=by
 refine qZ hm Tryz.func67 e67 (Nat.le_of_ble_eq_true rfl) ?_
 have h':=h
 obtain ⟨hl,ad,cap,_,rfl,_⟩:=h
 simp only [c67,go_sem]
 intro r3 hF3 hM3
 have h2:=h'.new hF3 hM3 (e:=⟨yJ v (.slice ad l.length cap),62,7⟩)
 by_cases h7:k=7
 ·simp only [go_sem,h7]
  cases hv:decide (v=V.zero)
  ·simp only [go_sem]
   exact qV hM3 (qW ⟨by simp only [absB,hv]; simp,rfl,rfl⟩)
  simp only [go_sem]
  refine qQ (k65 _ _ _ l h2) ?_
  simp only [go_sem]
  exact qV hM3 (qW ⟨by simp only [absB,hv]; simp,rfl,rfl⟩)
 ·simp only [go_sem,h7]
  refine qQ (k15 _ _ k) ?_
  by_cases hw:0 < wK k
  rotate_left
  ·simp only [go_sem,hw]
   exact qV hM3 (qW ⟨by simp [absB,h7,hw],rfl,rfl⟩)
  simp only [go_sem,hw]
  refine qQ (k64 _ _ v) ?_
  cases hv:v.ok
  ·simp only [go_sem]
   exact qV hM3 (qW ⟨by simp [absB,h7,hv],rfl,rfl⟩)
  by_cases hvw:v.w=wK k
  rotate_left
  ·simp only [go_sem,hvw]
   exact qV hM3 (qW ⟨by simp [absB,h7,hvw],rfl,rfl⟩)
  by_cases hl0:(l.length:Int)=0
  ·simp only [go_sem,hvw,hl0]
   have hd:decide (l.length=0)=true:=by rw [decide_eq_true_eq]; omega
   exact qV hM3 (qW ⟨by unfold absB; rw [if_neg h7,hv,hd]; simp [hw,hvw],rfl,rfl⟩)
  ·simp only [go_sem,hvw,hl0]
   have hd:decide (l.length=0)=false:=by rw [decide_eq_false_iff_not]; omega
   exact qV hM3 (qW ⟨by unfold absB; rw [if_neg h7,hv,hd]; simp,rfl,rfl⟩)
def onI (l:List Ba)(ad:Option Addr)(cap:Nat)(v:V)(F0:Fz)(M0:Hp)(r3 r4 r8:Nat)(m:Nat)(σ:Env)(F:Fz)(M:Hp):Prop:=
 F=F0∧Keep M0 M∧M0 r8=none∧M0 r4=none∧¬r3=r8∧¬r4=r8∧M r3=some ⟨yJ v (.slice ad l.length cap),62,7⟩∧M r4=some ⟨(Sc.mk false 0 0 0).cs,50,4⟩∧
 (l=[]∨∃g p cs,ad=some ⟨g,p,none⟩∧blk F0 M g=some cs∧¬g=r8∧∀i (hi:i < l.length),p+i * 7+7≤cs.length∧(cs.drop (p+i * 7)).take 7=(l[i]).cs)∧
 Ax.look σ 3=some (.pointer (some ⟨r3,0,none⟩))∧Ax.look σ 4=some (.pointer (some ⟨r4,0,none⟩))∧Ax.look σ 8=some (.pointer (some ⟨r8,0,none⟩))∧
 ∃(i:Nat) (acc:Sc × Nat),i+m=l.length∧Ax.look σ 10=some (.int .i64 i)∧Ax.look σ 9=some (.int .i64 acc.2)∧M r8=some ⟨acc.1.cs,50,4⟩∧acc.2≤2 * i∧onlyP l=(l.drop i).foldl onlyStep acc
theorem k52 (k:Int)(v:V)(u:Value)(l:List Ba)(h:RdG 7 Ba.cs F M u l)(hs7:l.length≤1000000)(hv:¬k=7→v.ok=true)(hl:∀x∈l,0≤x.v.w∧x.v.w≤62∧x.v.ok=true) :
  CallsA Tryz.prog 52 [.int .i64 k,abV v u] F M (Same F M (.tuple #[(onlyB k v l).1.val,.bool (onlyB k v l).2])):=by
 refine qZ hm Tryz.func52 e52 (Nat.le_of_ble_eq_true rfl) ?_
 have h':=h
 obtain ⟨hle,ad,cap,_,rfl,_⟩:=h
 simp only [c52,go_sem]
 intro r3 hF3 hM3
 simp only [go_sem]
 intro r4 hF4 hM4
 have g4:=wV hM4
 have h2:=(h'.new hF3 hM3 (e:=⟨yJ v (.slice ad l.length cap),62,7⟩)).new hF4 hM4 (e:=⟨(Sc.mk false 0 0 0).cs,50,4⟩)
 by_cases h7:k=7
 rotate_left
 ·simp only [go_sem,g4,h7]
  refine qQ (k93 _ _ v (hv h7)) ?_
  simp only [onlyA_eq,go_sem]
  exact qX (M:=M) (((Keep.refl M).new hM3).new g4.2.2) ⟨by simp [onlyB,h7],rfl,rfl⟩
 simp only [go_sem,h7]
 intro r8 hF8 hM8
 have g8:=wV hM8
 have g82:=wV g8.2.2
 simp only [go_sem]
 refine loop_of (onI l ad cap v F M r3 r4 r8) l.length ?_ ?_
 ·refine ⟨rfl,(((Keep.refl M).new hM3).new g4.2.2).new g82.2.2,g82.2.2,g4.2.2,g82.2.1,g8.2.1,?_,?_,?_,by simp only [go_sem],by simp only [go_sem],by simp only [go_sem],0,(⟨false,0,0,0⟩,0),by omega,by simp only [go_sem] <;> rfl,by simp only [go_sem] <;> rfl,Hp.qJ _ _ _,by omega,rfl⟩
  ·rw [Hp.qK g82.2.1,Hp.qK g4.2.1]; exact Hp.qJ _ _ _
  ·rw [Hp.qK g8.2.1]; exact Hp.qJ _ _ _
  ·obtain ⟨_,ad',cap',_,e,h3⟩:=h2
   cases e
   rcases h3 with h3 | ⟨b,o,cs,e1,e2,e3⟩
   ·exact .inl h3
   ·have:=blk_ne e2 hF8 (by rw [upd_none]; exact ⟨g8.1,by rw [upd_none]; exact ⟨g82.1,g82.2.2⟩⟩)
    exact .inr ⟨b,o,cs,e1,by rw [blk_upd_ne this]; exact e2,this,e3⟩
 clear g4 g8 g82 h2 hM8 hM4 hM3 hF8 hF4 hF3
 rintro m σ F' M' ⟨rfl,kp,n8,n4,n38,n48,f3,f4,hrow,q3,q4,q8,i,acc,hi,q10,q9,f8,ha2,hf⟩
 have b3:=qG (F:=F') f3
 have b8:=qG (F:=F') f8
 by_cases hil:(i:Int) < l.length
 ·have hi0:(0:Int)≤i:=by omega
  have hil':i < l.length:=by omega
  have ei:IntKind.i64.wrap ((i:Int)+1)=i+1:=w64 (by omega) (by omega)
  rcases hrow with hr | ⟨g,p,cs,rfl,hb,ng,hc⟩
  ·rw [hr] at hil'; simp at hil'
  obtain ⟨d1,d2⟩:=hc i hil'
  obtain ⟨w0,w1,xok⟩:=hl l[i] (List.getElem_mem _)
  rw [List.drop_eq_getElem_cons hil',List.foldl_cons] at hf
  generalize l[i]=x at *
  obtain ⟨r1,r2,r3',r4'⟩:=ba_row d1 d2
  have hmp:=mostV_pos w1
  have hnx:=nextR_le xok 0
  simp only [go_sem,q3,q10,hil,hi0,Int.toNat_natCast,b3,hb,r3',r4']
  refine qQ (k92 _ _ x.v 0 w0 w1) ?_
  have e1:IntKind.i64.wrap ((acc.2:Int)+1)=((acc.2+1:Nat):Int):=w64 (by omega) (by omega)
  have e1':IntKind.i64.wrap (((acc.2+1:Nat):Int)+1)=((acc.2+1+1:Nat):Int):=w64 (by omega) (by omega)
  have e2:IntKind.i64.wrap (x.v.wQ 0+1)=x.v.wQ 0+1:=w64 (by omega) (by omega)
  have nxt:∀σ' (M2:Hp) (acc':Sc × Nat),Ax.look σ' 3=Ax.look σ 3→Ax.look σ' 4=Ax.look σ 4→Ax.look σ' 8=Ax.look σ 8→Ax.look σ' 10=some (.int .i64 (i+1))→Ax.look σ' 9=some (.int .i64 acc'.2)→onlyStep acc x=acc'→M2=M'.upd r8 ⟨acc'.1.cs,50,4⟩→
    ∃m',m' < m∧onI l (some ⟨g,p,none⟩) cap v F' M r3 r4 r8 m' σ' F' M2:=by
   intro σ' M2 acc' p3 p4 p8 p10 p9 hs hM2
   subst hM2
   refine ⟨m - 1,by omega,rfl,kp.new n8,n8,n4,n38,n48,by rw [Hp.qK n38]; exact f3,by rw [Hp.qK n48]; exact f4,.inr ⟨g,p,cs,rfl,by rw [blk_upd_ne ng]; exact hb,ng,hc⟩,p3.trans q3,p4.trans q4,p8.trans q8,i+1,acc',by omega,p10,p9,Hp.qJ _ _ _,?_,by rw [hf,hs]⟩
   rw [←hs]; unfold onlyStep; split
   ·omega
   ·simp only; split <;> omega
  have skip:∀σ',Ax.look σ' 3=Ax.look σ 3→Ax.look σ' 4=Ax.look σ 4→Ax.look σ' 8=Ax.look σ 8→Ax.look σ' 10=some (.int .i64 (i+1))→Ax.look σ' 9=Ax.look σ 9→(x.v.wQ 0 < 0∨32 < x.v.wQ 0)→∃m',m' < m∧onI l (some ⟨g,p,none⟩) cap v F' M r3 r4 r8 m' σ' F' M':=by
   intro σ' p3 p4 p8 p10 p9 hs
   exact ⟨m - 1,by omega,rfl,kp,n8,n4,n38,n48,f3,f4,.inr ⟨g,p,cs,rfl,hb,ng,hc⟩,p3.trans q3,p4.trans q4,p8.trans q8,i+1,acc,by omega,p10,p9.trans q9,f8,by omega,by rw [hf,onlyStep,if_pos hs]⟩
  by_cases h1:x.v.wQ 0 < 0
  ·simp only [go_sem,q10,h1,ei]
   exact skip _ (by simp only [go_sem]) (by simp only [go_sem]) (by simp only [go_sem]) (by simp only [go_sem]) (by simp only [go_sem]) (.inl h1)
  by_cases h3:32 < x.v.wQ 0
  ·simp only [go_sem,q10,h1,h3,ei]
   exact skip _ (by simp only [go_sem]) (by simp only [go_sem]) (by simp only [go_sem]) (by simp only [go_sem]) (by simp only [go_sem]) (.inr h3)
  have hs:¬(x.v.wQ 0 < 0∨32 < x.v.wQ 0):=by omega
  simp only [go_sem,q3,q9,q10,h1,h3,hil,hi0,Int.toNat_natCast,b3,hb,r3',r4',e1,e2]
  refine qQ (k92 _ _ x.v _ w0 w1) ?_
  by_cases h4:0≤x.v.wQ (x.v.wQ 0+1)
  ·by_cases h5:x.v.wQ (x.v.wQ 0+1)≤32
   ·simp only [go_sem,q3,q8,q10,h4,h5,hil,hi0,Int.toNat_natCast,Nat.add_zero,b3,hb,r1,e1',f8,ei]
    simp only [setH,go_sem]
    exact nxt _ _ (⟨true,0,x.b,x.v.wQ 0⟩,acc.2+1+1) (by simp only [go_sem]) (by simp only [go_sem]) (by simp only [go_sem]) (by simp only [go_sem]) (by simp only [go_sem]) (by rw [onlyStep,if_neg hs,if_pos ⟨h4,h5⟩]) rfl
   ·simp only [go_sem,q3,q8,q10,h4,h5,hil,hi0,Int.toNat_natCast,Nat.add_zero,b3,hb,r1,f8,ei]
    simp only [setH,go_sem]
    exact nxt _ _ (⟨true,0,x.b,x.v.wQ 0⟩,acc.2+1) (by simp only [go_sem]) (by simp only [go_sem]) (by simp only [go_sem]) (by simp only [go_sem]) (by simp only [go_sem]) (by rw [onlyStep,if_neg hs,if_neg (fun h=>h5 h.2)]) rfl
  ·simp only [go_sem,q3,q8,q10,h4,hil,hi0,Int.toNat_natCast,Nat.add_zero,b3,hb,r1,f8,ei]
   simp only [setH,go_sem]
   exact nxt _ _ (⟨true,0,x.b,x.v.wQ 0⟩,acc.2+1) (by simp only [go_sem]) (by simp only [go_sem]) (by simp only [go_sem]) (by simp only [go_sem]) (by simp only [go_sem]) (by rw [onlyStep,if_neg hs,if_neg (fun h=>h4 h.1)]) rfl
 ·have:l.drop i=[]:=List.drop_eq_nil_of_le (by omega)
  rw [this] at hf
  simp only [List.foldl_nil] at hf
  simp only [go_sem,q3,q4,q8,q9,q10,hil,b3,b8,f4]
  simp only [setH,go_sem]
  refine qX (M:=M) (kp.new n4) ⟨?_,rfl,rfl⟩
  simp only [onlyB,if_true,hf]
  congr 2
  simp
  omega
def ixB (l:List Ba)(p:Ba→Bool)(u f:Value)(F0:Fz)(M0:Hp)(m:Nat)(σ:Env)(F:Fz)(M:Hp):Prop:=
 F=F0∧M=M0∧Ax.look σ 0=some u∧Ax.look σ 1=some f∧Ax.look σ 7=some (.int .i64 l.length)∧∃i:Nat,i+m=l.length∧Ax.look σ 8=some (.int .i64 i)∧l.any p=(l.drop i).any p
theorem k125 (u:Value)(l:List Ba)(g:Nat)(ca:List Value)(p:Ba→Bool)(h:RdG 7 Ba.cs F M u l)
  (hp:∀v∈l,CallsA Tryz.prog g ([v.val]++ca) F M (Same F M (.bool (p v)))) :
  CallsA Tryz.prog 125 [u,.func (.func g) #[] ca.toArray] F M fun r F' M'=>F'=F∧M'=M∧∃z:Int,r=.int .i64 z∧(0≤z↔l.any p=true):=by
 refine qZ hm Tryz.func125 e125 (Nat.le_of_ble_eq_true rfl) ?_
 obtain ⟨hl,ad,cap,hlc,rfl,h⟩:=h
 simp only [c125,go_sem]
 refine loop_of (ixB l p (.slice ad l.length cap) (.func (.func g) #[] ca.toArray) F M) l.length ?_ ?_
 ·exact ⟨rfl,rfl,by simp only [go_sem],by simp only [go_sem],by simp only [go_sem],0,by omega,by simp only [go_sem] <;> rfl,rfl⟩
 rintro m σ F' M' ⟨rfl,rfl,h0,h1,h7,i,hi,h8,ha⟩
 by_cases hil:(i:Int) < l.length
 ·have hi0:(0:Int)≤i:=by omega
  have hil':i < l.length:=by omega
  have ei:IntKind.i64.wrap ((i:Int)+1)=i+1:=w64 (by omega) (by omega)
  rcases h with h | ⟨b,o,cs,rfl,hb,hc⟩
  ·rw [h] at hil'; simp at hil'
  obtain ⟨d1,d2⟩:=hc i hil'
  rw [List.drop_eq_getElem_cons hil',List.any_cons] at ha
  have hq:=hp l[i] (List.getElem_mem _)
  generalize l[i]=v at *
  simp only [go_sem,h0,h1,h7,h8,hil,hi0,Int.toNat_natCast,hb,d1,d2]
  refine qQ hq ?_
  cases hv:p v
  ·rw [hv,Bool.false_or] at ha
   simp only [go_sem,h8,ei]
   exact ⟨m - 1,by omega,rfl,rfl,by simp only [go_sem,h0],by simp only [go_sem,h1],by simp only [go_sem,h7],i+1,by omega,by simp only [go_sem]; rfl,ha⟩
  ·rw [hv,Bool.true_or] at ha
   simp only [go_sem]
   exact qW ⟨rfl,rfl,_,rfl,by simp [ha]⟩
 ·have:l.drop i=[]:=List.drop_eq_nil_of_le (by omega)
  rw [this] at ha
  simp only [go_sem,h7,h8,hil]
  exact qW ⟨rfl,rfl,_,rfl,by rw [ha]; simp⟩
theorem k76 (u:Value)(l:List Ba)(g:Nat)(ca:List Value)(p:Ba→Bool)(h:RdG 7 Ba.cs F M u l)
  (hp:∀v∈l,CallsA Tryz.prog g ([v.val]++ca) F M (Same F M (.bool (p v)))) :
  CallsA Tryz.prog 76 [u,.func (.func g) #[] ca.toArray] F M (Same F M (.bool (l.any p))):=by
 refine qZ hm Tryz.func76 e76 (Nat.le_of_ble_eq_true rfl) ?_
 simp only [c76,go_sem]
 refine qY (k125 F M u l g ca p h hp) ?_
 rintro r G M' ⟨hG,rfl,z,rfl,hz⟩
 rw [hG]
 refine ⟨(fun h=>by cases h),?_⟩
 simp only [go_sem]
 have:decide (0≤z)=l.any p:=by
  cases hq:l.any p
  ·rw [hq] at hz; simp at hz; simp; omega
  ·simp [hz.2 hq]
 exact qW ⟨by rw [←this],rfl,rfl⟩
theorem k237 (x:Ba)(b o:Int)(p4 p5:Nat)(e4 e5:Ent)(h4:M p4=some e4)(c4:e4.cells=[.int .i64 b])(h5:M p5=some e5)(c5:e5.cells=[.int .i64 o]) :
  CallsA Tryz.prog 237 [x.val,.pointer (some ⟨p4,0,none⟩),.pointer (some ⟨p5,0,none⟩)] F M (Same F M (.bool (decide (x.b=b) && x.v.has o))):=by
 refine qZ hm Tryz.func237 e237 (Nat.le_of_ble_eq_true rfl) ?_
 have b4:=qG (F:=F) h4
 have b5:=qG (F:=F) h5
 rw [c4] at b4
 rw [c5] at b5
 simp only [c237,go_sem]
 intro r3 hF3 hM3
 have g4:=qH hM3 h4
 have g5:=qH hM3 h5
 by_cases hx:x.b=b
 ·simp only [go_sem,g4,g5,b4,b5,hx]
  refine qQ (k206 _ _ x.v o) ?_
  simp only [go_sem]
  exact qV hM3 (qW ⟨by simp,rfl,rfl⟩)
 ·simp only [go_sem,g4,b4,hx]
  exact qV hM3 (qW ⟨by simp,rfl,rfl⟩)
theorem k188 (u:Value)(l:List Ba)(b o:Int)(h:RdG 7 Ba.cs F M u l):CallsA Tryz.prog 188 [u,.int .i64 b,.int .i64 o] F M (Same F M (.bool (decide (o≤32) && pointsB l b o))):=by
 refine qZ hm Tryz.func188 e188 (Nat.le_of_ble_eq_true rfl) ?_
 have h':=h
 obtain ⟨_,ad,cap,_,rfl,_⟩:=h
 simp only [c188,go_sem]
 intro r4 hF4 hM4
 simp only [go_sem]
 intro r5 hF5 hM5
 have g5:=wV hM5
 by_cases ho:o≤32
 ·have h2:=(h'.new hF4 hM4 (e:=⟨[.int .i64 b],3,1⟩)).new hF5 hM5 (e:=⟨[.int .i64 o],3,1⟩)
  simp only [go_sem,ho]
  refine qQ (k76 F _ _ l _ [.pointer (some ⟨r4,0,none⟩),.pointer (some ⟨r5,0,none⟩)] (fun x=>decide (x.b=b) && x.v.has o) h2 ?_) ?_
  ·intro x hx
   exact k237 F _ x b o r4 r5 _ _ (by rw [Hp.qK g5.2.1]; exact Hp.qJ _ _ _) rfl (Hp.qJ _ _ _) rfl
  simp only [go_sem]
  exact qV hM5 (qV hM4 (qW ⟨by simp [pointsB],rfl,rfl⟩))
 ·simp only [go_sem,ho]
  exact qV hM5 (qV hM4 (qW ⟨by simp,rfl,rfl⟩))
def holdsB (k:Int)(v:V)(l:List Ba)(s:Sc):Bool:=if k=7 then decide (s.o≤32) && pointsB l s.b s.o else v.has s.n
theorem k207 (k:Int)(v:V)(u:Value)(l:List Ba)(s:Sc)(h:RdG 7 Ba.cs F M u l):CallsA Tryz.prog 207 [.int .i64 k,abV v u,s.val] F M (Same F M (.bool (holdsB k v l s))):=by
 refine qZ hm Tryz.func207 e207 (Nat.le_of_ble_eq_true rfl) ?_
 have h':=h
 obtain ⟨_,ad,cap,_,rfl,_⟩:=h
 simp only [c207,go_sem]
 intro r4 hF4 hM4
 simp only [go_sem]
 intro r5 hF5 hM5
 have g5:=wV hM5
 have h2:=(h'.new hF4 hM4 (e:=⟨yJ v (.slice ad l.length cap),62,7⟩)).new hF5 hM5 (e:=⟨s.cs,50,4⟩)
 by_cases h7:k=7
 ·simp only [go_sem,g5,h7]
  refine qQ (k188 _ _ _ l s.b s.o h2) ?_
  simp only [go_sem]
  exact qV hM5 (qV hM4 (qW ⟨by simp [holdsB],rfl,rfl⟩))
 ·simp only [go_sem,g5,h7]
  refine qQ (k206 _ _ v s.n) ?_
  simp only [go_sem]
  exact qV hM5 (qV hM4 (qW ⟨by simp [holdsB,h7],rfl,rfl⟩))
theorem baseB_eq (x:Ba):baseB x=((decide (0≤x.b) && decide (x.b≤6)) && x.v.ok && decide (x.v.w=8) && (decide (0 < x.b) || x.v.is1 && decide (x.v.wQ 0=0))):=by
 unfold baseB
 by_cases h0:0≤x.b
 ·by_cases h1:x.b=0
  ·simp [h1]
  ·have:0 < x.b:=by omega
   simp [h1,this]
 ·simp [h0]
theorem k124 (x:Ba):CallsA Tryz.prog 124 [x.val] F M (Same F M (.bool (baseB x))):=by
 refine qZ hm Tryz.func124 e124 (Nat.le_of_ble_eq_true rfl) ?_
 rw [baseB_eq]
 simp only [c124,go_sem]
 intro r1 hF1 hM1
 by_cases h0:x.b < 0
 ·have:¬0≤x.b:=by omega
  simp only [go_sem,h0]
  exact qV hM1 (qW ⟨by simp [this],rfl,rfl⟩)
 by_cases h6:6 < x.b
 ·have:¬x.b≤6:=by omega
  simp only [go_sem,h0,h6]
  exact qV hM1 (qW ⟨by simp [this],rfl,rfl⟩)
 by_cases hw:x.v.w=8
 rotate_left
 ·simp only [go_sem,h0,h6,hw]
  exact qV hM1 (qW ⟨by simp [],rfl,rfl⟩)
 simp only [go_sem,h0,h6,hw]
 refine qQ (k73 _ _ x.v) ?_
 cases hv:x.v.ok
 ·simp only [go_sem]
  exact qV hM1 (qW ⟨by simp,rfl,rfl⟩)
 have e0:0≤x.b:=by omega
 have e6:x.b≤6:=by omega
 simp only [go_sem]
 refine qQ (k171 _ _ x.v hv) ?_
 by_cases hb:0 < x.b
 ·simp only [loneA,go_sem,hb]
  exact qV hM1 (qW ⟨by simp [e0,e6],rfl,rfl⟩)
 cases h1:x.v.is1
 ·simp only [loneA,go_sem,hb,h1]
  exact qV hM1 (qW ⟨by simp [],rfl,rfl⟩)
 ·simp only [loneA,go_sem,hb,h1]
  exact qV hM1 (qW ⟨by simp [e0,e6],rfl,rfl⟩)
def mpI (l:List Ba)(u:Value)(F0:Fz)(M0:Hp)(m:Nat)(σ:Env)(F:Fz)(M:Hp):Prop:=
 F=F0∧Keep M0 M∧Old' F0 M0 M∧Ax.look σ 0=some u∧Ax.look σ 5=some u∧Ax.look σ 6=some (.int .i64 l.length)∧∃i:Nat,i+m=l.length∧Ax.look σ 7=some (.int .i64 i)∧∀j,j < i→okAt l j=true
theorem k75 (u:Value)(l:List Ba)(h:RdG 7 Ba.cs F M u l):CallsA Tryz.prog 75 [u] F M (Same F M (.bool (jG l))):=by
 refine qZ hm Tryz.func75 e75 (Nat.le_of_ble_eq_true rfl) ?_
 have h':=h
 obtain ⟨hl,ad,cap,hlc,rfl,_⟩:=h
 simp only [c75,go_sem]
 refine loop_of (mpI l (.slice ad l.length cap) F M) l.length ?_ ?_
 ·exact ⟨rfl,Keep.refl _,fun h=>h,by simp only [go_sem],by simp only [go_sem],by simp only [go_sem],0,by omega,by simp only [go_sem] <;> rfl,by omega⟩
 rintro m σ F' M' ⟨rfl,kp,ro,h0,h5,h6,i,hi,h7,hok⟩
 by_cases hil:(i:Int) < l.length
 rotate_left
 ·simp only [go_sem,h6,h7,hil]
  exact qX kp ⟨by rw [ptrs_all (fun j hj=>hok j (by omega))],rfl,rfl⟩
 have hi0:(0:Int)≤i:=by omega
 have hil':i < l.length:=by omega
 have ei:IntKind.i64.wrap ((i:Int)+1)=i+1:=w64 (by omega) (by omega)
 have ei1:IntKind.i64.wrap ((i:Int) - 1)=i - 1:=w64 (by omega) (by omega)
 obtain ⟨_,_,_,_,eu,hrd⟩:=ro h'
 cases eu
 rcases hrd with h | ⟨g,p,cs,rfl,hb,hc⟩
 ·rw [h] at hil'; simp at hil'
 obtain ⟨d1,d2⟩:=hc i hil'
 have hget:l[i]? = some l[i]:=by simp
 simp only [go_sem,h5,h6,h7,hil,hi0,Int.toNat_natCast,hb,d1,d2]
 intro r hF hM
 have bg:=blk_ne hb hF hM
 have no:okAt l i=false→jG l=false:=fun h=>ptrs_no hil' h
 have kp2:∀e,Keep M (M'.upd r e):=fun e=>kp.new (kp.free hM)
 have ok1:okAt l i=(baseB l[i] && (decide (i=0) || match l[i - 1]? with | none=>true | some y=>decide (y.b < l[i].b))):=by
  unfold okAt; rw [hget] <;> rfl
 have prev:(0:Int) < i→∃y,l[i - 1]? = some y∧cs[p+(i - 1) * 7]? = some (.int .i64 y.b):=by
  intro hi1
  obtain ⟨e1,e2⟩:=hc (i - 1) (by omega)
  exact ⟨l[i - 1],List.getElem?_eq_getElem (by omega),(ba_row e1 e2).1⟩
 have nxt:∀σ' e,Ax.look σ' 0=some (.slice (some ⟨g,p,none⟩) l.length cap)→Ax.look σ' 5=some (.slice (some ⟨g,p,none⟩) l.length cap)→Ax.look σ' 6=some (.int .i64 l.length)→Ax.look σ' 7=some (.int .i64 (i+1))→okAt l i=true→∃m',m' < m∧mpI l (.slice (some ⟨g,p,none⟩) l.length cap) F' M m' σ' F' (M'.upd r e):=by
  intro σ' e q0 q5 q6 q7 hk
  refine ⟨m - 1,by omega,rfl,kp2 e,fun h=>(ro h).new hF hM,q0,q5,q6,i+1,by omega,q7,fun j hj=>?_⟩
  rcases Nat.lt_or_ge j i with h | h
  ·exact hok j h
  ·have:j=i:=by omega
   rw [this]; exact hk
 generalize l[i]=x at *
 simp only [go_sem]
 refine qQ (k124 _ _ x) ?_
 cases hbx:baseB x
 ·have hno:jG l=false:=no (by rw [ok1,hbx]; rfl)
  simp only [go_sem]
  exact qX (kp2 _) ⟨by rw [hno],rfl,rfl⟩
 rw [hbx,Bool.true_and] at ok1
 by_cases hi1:(0:Int) < i
 ·obtain ⟨y,y1,y2⟩:=prev hi1
  have i1:(0:Int)≤(i:Int) - 1:=by omega
  have i2:(i:Int) - 1 < l.length:=by omega
  have i3:((i:Int) - 1).toNat=i - 1:=by omega
  have hi0':¬i=0:=by omega
  rw [y1] at ok1
  by_cases hyx:x.b≤y.b
  ·have hno:jG l=false:=no (by rw [ok1]; simp [hi0']; omega)
   simp only [go_sem,h0,hi1,ei1,i1,i2,i3,bg,hb,y2,Nat.add_zero,hyx]
   exact qX (kp2 _) ⟨by rw [hno],rfl,rfl⟩
  ·simp only [go_sem,h0,h7,hi1,ei1,i1,i2,i3,bg,hb,y2,Nat.add_zero,hyx,ei]
   exact nxt _ _ (by simp only [go_sem,h0]) (by simp only [go_sem,h5]) (by simp only [go_sem,h6]) (by simp only [go_sem]) (by rw [ok1]; simp; omega)
 ·have hi0':i=0:=by omega
  simp only [go_sem,h7,hi1,ei]
  exact nxt _ _ (by simp only [go_sem,h0]) (by simp only [go_sem,h5]) (by simp only [go_sem,h6]) (by simp only [go_sem]) (by rw [ok1]; simp [hi0'])
theorem k40 (k:Int)(v:V)(u:Value)(l:List Ba)(h:RdG 7 Ba.cs F M u l):CallsA Tryz.prog 40 [.int .i64 k,abV v u] F M (Same F M (.bool (absB k v l))):=by
 refine qZ hm Tryz.func40 e40 (Nat.le_of_ble_eq_true rfl) ?_
 have h':=h
 obtain ⟨hl,ad,cap,_,rfl,_⟩:=h
 simp only [c40,go_sem]
 intro r3 hF3 hM3
 have h2:=h'.new hF3 hM3 (e:=⟨yJ v (.slice ad l.length cap),62,7⟩)
 simp only [go_sem]
 refine qQ (k72 _ _ k) ?_
 cases hk:isK k
 ·have hw0:¬0 < wK k:=by simp [wK,hk]
  by_cases h7:k=7
  ·simp only [go_sem,h7]
   cases hv:decide (v=V.zero)
   ·simp only [go_sem]
    exact qV hM3 (qW ⟨by simp only [absB,hv]; simp,rfl,rfl⟩)
   simp only [go_sem]
   refine qQ (k75 _ _ _ l h2) ?_
   simp only [go_sem]
   exact qV hM3 (qW ⟨by simp only [absB,hv]; simp,rfl,rfl⟩)
  ·simp only [go_sem,h7]
   exact qV hM3 (qW ⟨by unfold absB; rw [if_neg h7]; simp [hw0],rfl,rfl⟩)
 ·have h7:¬k=7:=by rintro rfl; rw [not_isK7] at hk; cases hk
  have e0:wK k=ofW k:=wK_of hk
  have hpw:=pow_w (gZ k)
  have e1:(0:Int) < ofW k:=by omega
  simp only [go_sem]
  refine qQ (k73 _ _ v) ?_
  cases hv:v.ok
  ·simp only [go_sem]
   exact qV hM3 (qW ⟨by simp [absB,h7,hv],rfl,rfl⟩)
  simp only [go_sem]
  refine qQ (k74 _ _ k hk) ?_
  by_cases hvw:v.w=ofW k
  rotate_left
  ·simp only [go_sem,hvw]
   exact qV hM3 (qW ⟨by simp [absB,h7,e0,hvw],rfl,rfl⟩)
  by_cases hl0:(l.length:Int)=0
  ·simp only [go_sem,hvw,hl0]
   have hd:decide (l.length=0)=true:=by rw [decide_eq_true_eq]; omega
   exact qV hM3 (qW ⟨by unfold absB; rw [if_neg h7,hv,hd,e0]; simp [e1,hvw],rfl,rfl⟩)
  ·simp only [go_sem,hvw,hl0]
   have hd:decide (l.length=0)=false:=by rw [decide_eq_false_iff_not]; omega
   exact qV hM3 (qW ⟨by unfold absB; rw [if_neg h7,hv,hd]; simp,rfl,rfl⟩)
end Go.Proofs.Tryz.K
