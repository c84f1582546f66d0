/- Parts B5: the machine's runs of small codes, contracts of functions, plain facts. -/
import Derived.Test.YtamcbkelfgbkoaaGreatB4
set_option maxRecDepth 100000
set_option linter.unusedSimpArgs false
set_option linter.unusedVariables false
set_option maxHeartbeats 4000000
namespace Go.Proofs.Tryz.K
open Go Go.Ax Go.Proofs.Tryz.S
variable (F:Fz) (M:Hp)
structure OfI (x:Ba)(F0:Fz)(M0:Hp)(r1:Nat)(m:Nat)(σ:Env)(F:Fz)(M:Hp):Prop where
 ff:F=F0
 kp:Keep M0 M
 f1:M r1=some ⟨x.cs,102,7⟩
 h1:Ax.look σ 1=some (.pointer (some ⟨r1,0,none⟩))
 st:∃(u:Value) (l:List Int) (n:Int),Ax.look σ 2=some u∧Ax.look σ 3=some (.int .i64 n)∧yY 1 intC 3 F0 M0 M u l∧x.v.offs=l++x.v.offF m n∧l.length+m=34∧(0≤n→(l.length:Int)≤n)
theorem k127 (x:Ba)(hv:x.v.ok=true):CallsA Tryz.prog 127 [x.val] F M (rowR 1 intC 3 x.v.offs F M):=by
 refine qZ hm Tryz.func127 e127 (Nat.le_of_ble_eq_true rfl) ?_
 simp only [c127,go_sem]
 intro r1 hF1 hM1
 simp only [go_sem]
 refine qQ (k172 _ _ x.v 0 hv) ?_
 simp only [go_sem]
 refine loop_of (OfI x F M r1) 34 ?_ ?_
 ·exact ⟨rfl,(Keep.refl _).new hM1,Hp.qJ _ _ _,by simp only [go_sem],_,[],x.v.wQ 0,by simp only [go_sem],by simp only [go_sem],yY.nil,rfl,by simp,by simp⟩
 rintro m σ F' M' s
 obtain ⟨u,l,n,h2,h3,mine,hoff,hlen,hln⟩:=s.st
 obtain rfl:=s.ff
 have b1:=qG (F:=F') s.f1
 by_cases hn0:0≤n
 rotate_left
 ·rw [V.offF_out (by omega),List.append_nil] at hoff
  simp only [go_sem,h2,h3,hn0]
  rw [hoff]
  exact mine.done s.kp
 by_cases hn32:n≤32
 rotate_left
 ·rw [V.offF_out (by omega),List.append_nil] at hoff
  simp only [go_sem,h2,h3,hn0,hn32]
  rw [hoff]
  exact mine.done s.kp
 have hl:=hln hn0
 obtain ⟨m',rfl⟩:∃m',m=m'+1:=⟨m - 1,by omega⟩
 rw [V.offF_in ⟨hn0,hn32⟩] at hoff
 have en:IntKind.i64.wrap (n+1)=n+1:=w64 (by omega) (by omega)
 simp only [go_sem,h2,h3,hn0,hn32]
 intro rb hFb hMb
 have gb:=qH hMb s.f1
 simp only [go_sem]
 refine apMG_of (xs:=l) (ys:=[n]) wD intC_plain (by decide) (mine.fresh hMb) (s.kp.new (s.kp.free hMb)) ⟨rfl,.inr ⟨⟨rb,0,none⟩,1,rfl,.inr ⟨rb,0,_,rfl,wY,by simp [intC,intV]⟩⟩⟩ (by simp) (by simp; omega) ?_
 rintro v' M2 _ hfr kp2 _ mine2
 have f1:M2 r1=some ⟨x.cs,102,7⟩:=hfr _ _ (by rw [Hp.qK gb.1]; exact s.f1) (by simp)
 have b1':=qG (F:=F') f1
 simp only [go_sem,s.h1,h3,en,b1']
 refine qQ (k172 _ _ x.v (n+1) hv) ?_
 simp only [go_sem]
 refine ⟨m',by omega,rfl,kp2,f1,by simp only [go_sem,s.h1],v',l++[n],x.v.wQ (n+1),by simp only [go_sem],by simp only [go_sem],mine2,by rw [hoff]; simp,by simp; omega,fun h0=>?_⟩
 have:=nextR_spec hv (n:=n+1) (by omega)
 simp
 omega
def memsR (l:List Ba)(most:Nat)(F:Fz)(M:Hp)(u:Value)(F':Fz)(M':Hp):Prop:=
 ((memB l).length≤most∧∃w,u=.tuple #[w,.bool true]∧rowR 4 Sc.cs 50 (memB l) F M w F' M')∨(most < (memB l).length∧u=.tuple #[.slice none 0 0,.bool false]∧F'=F∧M'=M)
structure MmI (l:List Ba)(u0:Value)(most:Nat)(F0:Fz)(M0:Hp)(σ:Env)(F:Fz)(M:Hp):Prop where
 ff:F=F0
 kp:Keep M0 M
 old:Old F0 M
 h1:Ax.look σ 1=some (.int .i64 most)
 h10:Ax.look σ 10=some u0
 h11:Ax.look σ 11=some (.int .i64 l.length)
def mmO (l:List Ba)(u0:Value)(most:Nat)(F0:Fz)(M0:Hp)(m:Nat)(σ:Env)(F:Fz)(M:Hp):Prop:=
 MmI l u0 most F0 M0 σ F M∧∃(i:Nat) (w:Value),i+m=l.length∧Ax.look σ 12=some (.int .i64 i)∧Ax.look σ 4=some w∧yY 4 Sc.cs 50 F0 M0 M w (memB (l.take i))∧(memB (l.take i)).length≤most
def mmJ (l:List Ba)(u0:Value)(most:Nat)(F0:Fz)(M0:Hp)(i:Nat)(x:Ba)(r7:Nat)(aq:Option Addr)(cq:Nat)(m:Nat)(σ:Env)(F:Fz)(M:Hp):Prop:=
 MmI l u0 most F0 M0 σ F M∧Ax.look σ 12=some (.int .i64 i)∧Ax.look σ 7=some (.pointer (some ⟨r7,0,none⟩))∧M r7=some ⟨x.cs,102,7⟩∧Ax.look σ 17=some (.slice aq x.v.offs.length cq)∧Ax.look σ 18=some (.int .i64 x.v.offs.length)∧jQ 1 intC 3 F0 M (.slice aq x.v.offs.length cq) x.v.offs∧
 ∃(j:Nat) (w:Value),j+m=x.v.offs.length∧Ax.look σ 19=some (.int .i64 j)∧Ax.look σ 4=some w∧yY 4 Sc.cs 50 F0 M0 M w (memB (l.take i)++(x.v.offs.take j).map fun o=>⟨true,0,x.b,o⟩)∧(memB (l.take i)++(x.v.offs.take j).map fun o=>(⟨true,0,x.b,o⟩:Sc)).length≤most
theorem memB_take {l:List Ba}{i:Nat}(hi:i < l.length):memB (l.take (i+1))=memB (l.take i)++l[i].v.offs.map fun o=>⟨true,0,l[i].b,o⟩:=by
 rw [List.take_succ_eq_append_getElem hi,memB_app]
 simp [memB]
theorem memB_le {l:List Ba}(i:Nat):(memB (l.take i)).length≤(memB l).length:=by
 have:=congrArg (fun t=>(memB t).length) (List.take_append_drop i l)
 simp only [memB_app,List.length_append] at this
 omega
theorem k131 (u0:Value)(l:List Ba)(most:Nat)(hmo:most≤1000)(hl:l.length≤1000)(hold:Old F M)(h:RdG 7 Ba.cs F M u0 l)(hv:∀x∈l,x.v.ok=true):CallsA Tryz.prog 131 [u0,.int .i64 most] F M (memsR l most F M):=by
 refine qZ hm Tryz.func131 e131 (Nat.le_of_ble_eq_true rfl) ?_
 have hlen:=memB_len l
 have h':=h
 obtain ⟨_,ad,cap,_,rfl,_⟩:=h
 simp only [c131,go_sem]
 refine loop_of (mmO l (.slice ad l.length cap) most F M) l.length ?_ ?_
 ·exact ⟨⟨rfl,Keep.refl _,hold,by simp only [go_sem],by simp only [go_sem],by simp only [go_sem]⟩,0,_,by omega,by simp only [go_sem] <;> rfl,by simp only [go_sem],yY.nil,by simp [memB]⟩
 rintro mi σ F' M1 ⟨s,i,w,hi,h12,h4,mine,hmost⟩
 obtain rfl:=s.ff
 by_cases hil:(i:Int) < l.length
 rotate_left
 ·have:l.take i=l:=List.take_of_length_le (by omega)
  rw [this] at mine hmost
  simp only [go_sem,s.h11,h12,h4,hil]
  obtain ⟨M2,k1,k2,hr⟩:=mine.alone s.kp
  exact ⟨F',M2,k1.wk F',.inl ⟨hmost,w,rfl,hr⟩⟩
 have ei:IntKind.i64.wrap ((i:Int)+1)=i+1:=w64 (by omega) (by omega)
 have hi0:(0:Int)≤i:=by omega
 have hil':i < l.length:=by omega
 have rdl:=h'.keep s.kp s.old
 obtain ⟨_,_,_,_,eu,hrd⟩:=rdl
 cases eu
 rcases hrd with h | ⟨b,o,cs,rfl,hb,hc⟩
 ·rw [h] at hil'; simp at hil'
 obtain ⟨d1,d2⟩:=hc i hil'
 have hx:=hv l[i] (List.getElem_mem _)
 have htk:=memB_take hil'
 have hge:=memB_le (l:=l) (i+1)
 generalize l[i]=x at *
 simp only [go_sem,s.h10,s.h11,h12,hil,hi0,Int.toNat_natCast,hb,d1,d2]
 intro r7 hF7 hM7
 simp only [go_sem]
 refine qY (k127 _ _ x hx) ?_
 rintro q G M2 hq
 have hol:=x.v.offs_len
 obtain ⟨hG,le,kq,oq,aq,cq,rfl,rdq⟩:=hq.le wD (by omega)
 subst hG
 refine ⟨(fun h=>by cases h),?_⟩
 have old2:=oq (s.old.upd hF7)
 have kp2:Keep M1 M2:=((Keep.refl M1).new hM7).trans kq
 simp only [go_sem]
 refine loop_of (mmJ l (.slice (some ⟨b,o,none⟩) l.length cap) most G M i x r7 aq cq) x.v.offs.length ?_ ?_
 ·exact ⟨⟨rfl,s.kp.trans kp2,old2,by simp only [go_sem,s.h1],by simp only [go_sem,s.h10],by simp only [go_sem,s.h11]⟩,by simp only [go_sem,h12],by simp only [go_sem],kq _ _ (Hp.qJ _ _ _),by simp only [go_sem],by simp only [go_sem],hq.own,0,w,by omega,by simp only [go_sem] <;> rfl,by simp only [go_sem,h4],by simpa using mine.keep kp2,by simpa using hmost⟩
 clear rdq old2 kp2 kq oq hq le mine hmost h12 h4 hM7 hF7
 clear s
 clear M2 M1 hb σ w
 rintro mj σ F2 M1 ⟨s,h12,h7,f7,h17,h18,rdq,j,w,hj,h19,h4,mine,hmost⟩
 obtain rfl:=s.ff
 have b7:=qG (F:=F2) f7
 by_cases hjl:(j:Int) < x.v.offs.length
 rotate_left
 ·have:x.v.offs.take j=x.v.offs:=List.take_of_length_le (by omega)
  rw [this,←htk] at mine hmost
  simp only [go_sem,h12,h18,h19,hjl,ei]
  exact ⟨mi - 1,by omega,⟨s.ff,s.kp,s.old,by simp only [go_sem,s.h1],by simp only [go_sem,s.h10],by simp only [go_sem,s.h11]⟩,i+1,w,by omega,by simp only [go_sem]; rfl,by simp only [go_sem,h4],mine,hmost⟩
 have ej:IntKind.i64.wrap ((j:Int)+1)=j+1:=w64 (by omega) (by omega)
 have hj0:(0:Int)≤j:=by omega
 have hjl':j < x.v.offs.length:=by omega
 have rdq':=rdq.rd wD (by omega)
 obtain ⟨_,_,_,_,eu,hrd⟩:=rdq'
 cases eu
 rcases hrd with h | ⟨bq,oq,csq,rfl,hbq,hcq⟩
 ·rw [h] at hjl'; simp at hjl'
 obtain ⟨e1,e2⟩:=hcq j hjl'
 have e3:=one_row e2
 rw [Nat.mul_one] at e3
 obtain ⟨aw,cw,ew⟩:=mine.shape
 generalize hrow:memB (l.take i)++(x.v.offs.take j).map (fun o=>(⟨true,0,x.b,o⟩:Sc))=row at *
 have hnext:memB (l.take i)++(x.v.offs.take (j+1)).map (fun o=>(⟨true,0,x.b,o⟩:Sc))=row++[⟨true,0,x.b,x.v.offs[j]⟩]:=by
  rw [List.take_succ_eq_append_getElem hjl',List.map_append,←List.append_assoc,hrow]; rfl
 have htot:row.length+1≤(memB (l.take (i+1))).length:=by
  rw [htk,←hrow]
  simp
  omega
 generalize x.v.offs[j]=y at *
 simp only [intV] at e3
 by_cases hfull:(row.length:Int)=most
 ·simp only [go_sem,s.h1,h4,h17,h18,h19,hjl,hj0,Int.toNat_natCast,Nat.mul_one,hbq,e3,ew,hfull]
  exact qX s.kp (.inr ⟨by omega,rfl,rfl,rfl⟩)
 have nfull:¬((row.length:Int)=most):=hfull
 simp only [go_sem,s.h1,h4,h7,h17,h18,h19,hjl,hj0,Int.toNat_natCast,Nat.mul_one,hbq,e3,ew,hfull,b7]
 intro rb hFb hMb
 have gb:=qH hMb f7
 rw [ew] at mine
 simp only [go_sem]
 refine apMG_of (xs:=row) (ys:=[⟨true,0,x.b,y⟩]) (fun x=>rfl) Sc.plain (by decide) (mine.fresh hMb) (s.kp.new (s.kp.free hMb)) ⟨rfl,.inr ⟨⟨rb,0,none⟩,1,rfl,.inr ⟨rb,0,_,rfl,wY,by simp [Sc.take4]⟩⟩⟩ (by simp) (by simp; omega) ?_
 rintro v' M2 _ hfr kp2 ho2 mine2
 have f72:M2 r7=some ⟨x.cs,102,7⟩:=hfr _ _ (by rw [Hp.qK gb.1]; exact f7) (by simp)
 simp only [go_sem,h19,ej]
 exact ⟨mj - 1,by omega,⟨rfl,kp2,ho2 (s.old.upd hFb),by simp only [go_sem,s.h1],by simp only [go_sem,s.h10],by simp only [go_sem,s.h11]⟩,by simp only [go_sem,h12],by simp only [go_sem,h7],f72,by simp only [go_sem,h17],by simp only [go_sem,h18],(rdq.new hMb).frame hfr (by decide),j+1,v',by omega,by simp only [go_sem]; rfl,by simp only [go_sem],by rw [hnext]; exact mine2,by rw [hnext]; simp; omega⟩
theorem k126 (x:Ba)(hv:x.v.ok=true):CallsA Tryz.prog 126 [x.val] F M (Same F M (.bool (decide (0≤x.v.wQ 0) && decide (x.v.wQ 0≤32)))):=by
 refine qZ hm Tryz.func126 e126 (Nat.le_of_ble_eq_true rfl) ?_
 simp only [c126,go_sem]
 intro r1 hF1 hM1
 simp only [go_sem]
 refine qY (k127 _ _ x hv) ?_
 rintro q G M2 hq
 have hol:=x.v.offs_len
 obtain ⟨hG,le,kq,oq,aq,cq,rfl,rdq⟩:=hq.le wD (by omega)
 subst hG
 refine ⟨(fun h=>by cases h),?_⟩
 have hpos:=x.v.offs_pos
 rw [←hpos]
 have e1:decide ((0:Int) < (x.v.offs.length:Int))=decide (0 < x.v.offs.length):=by
  apply Bool.eq_iff_iff.2
  simp only [decide_eq_true_eq]
  omega
 simp only [go_sem,e1]
 exact qX (((Keep.refl _).new hM1).trans kq) ⟨rfl,rfl,rfl⟩
theorem k78 (k:Int)(v:V)(u:Value)(l:List Ba)(h:RdG 7 Ba.cs F M u l)(hok:absB k v l=true):CallsA Tryz.prog 78 [.int .i64 k,abV v u] F M (Same F M (.bool (emptyB k v l))):=by
 refine qZ hm Tryz.func78 e78 (Nat.le_of_ble_eq_true rfl) ?_
 have hp:=abs_pre hok
 have h':=h
 obtain ⟨_,ad,cap,_,rfl,_⟩:=h
 simp only [c78,go_sem]
 intro r3 hF3 hM3
 have h2:=h'.new hF3 hM3 (e:=⟨yJ v (.slice ad l.length cap),62,7⟩)
 by_cases h7:k=7
 ·simp only [go_sem,h7]
  refine qQ (k76 _ _ _ l 126 [] (fun x=>decide (0≤x.v.wQ 0) && decide (x.v.wQ 0≤32)) h2 (fun x hx=>k126 _ _ x (hp.2.2 x hx).2.2.1)) ?_
  simp only [go_sem]
  exact qV hM3 (qW ⟨by simp [emptyB],rfl,rfl⟩)
 ·simp only [go_sem,h7]
  refine qQ (k128 _ _ v (hp.2.1 h7).1) ?_
  simp only [go_sem]
  exact qV hM3 (qW ⟨by simp [emptyB,h7],rfl,rfl⟩)
def lone2 (k:Int)(v:V)(l:List Ba):Sc × Bool:=if (onlyB k v l).2=true then ((onlyB k v l).1,true) else (⟨false,0,0,0⟩,false)
theorem k286 (k:Int)(v:V)(u:Value)(l:List Ba)(h:RdG 7 Ba.cs F M u l)(hold:Old F M)(hok:absB k v l=true):CallsA Tryz.prog 286 [.int .i64 k,abV v u] F M (Same F M (.tuple #[(lone2 k v l).1.val,.bool (lone2 k v l).2])):=by
 refine qZ hm Tryz.func286 e286 (Nat.le_of_ble_eq_true rfl) ?_
 have hp:=abs_pre hok
 have h':=h
 obtain ⟨_,ad,cap,_,rfl,_⟩:=h
 simp only [c286,go_sem]
 intro r3 hF3 hM3
 simp only [go_sem]
 intro r4 hF4 hM4
 have g4:=wV hM4
 have h2:=(h'.new hF3 hM3 (e:=⟨yJ v (.slice ad l.length cap),62,7⟩)).new hF4 hM4 (e:=⟨[.bool false,.int .i64 0,.int .i64 0,.int .i64 0],50,4⟩)
 have old2:=(hold.upd hF3 (e:=⟨yJ v (.slice ad l.length cap),62,7⟩)).upd hF4 (e:=⟨[.bool false,.int .i64 0,.int .i64 0,.int .i64 0],50,4⟩)
 by_cases h7:k=7
 rotate_left
 ·have e0:lone2 k v l=(⟨false,if v.is1 then v.wQ 0 else 0,0,0⟩,v.is1):=by
   unfold lone2 onlyB
   rw [if_neg h7]
   cases h1:v.is1 <;> simp
  rw [e0]
  simp only [go_sem,g4,h7]
  refine qQ (k171 _ _ v (hp.2.1 h7).1) ?_
  simp only [loneA,go_sem]
  exact qV hM4 (qV hM3 (qW ⟨rfl,rfl,rfl⟩))
 subst h7
 have hmem:=onlyP_mem l
 have hmm:=k131 F ((M.upd r3 ⟨yJ v (.slice ad l.length cap),62,7⟩).upd r4 ⟨[.bool false,.int .i64 0,.int .i64 0,.int .i64 0],50,4⟩) _ l 1 (by decide) (by omega) old2 h2 (fun x hx=>(hp.2.2 x hx).2.2.1)
 have hl2:lone2 7 v l=if decide ((onlyP l).2=1)=true then ((onlyP l).1,true) else (⟨false,0,0,0⟩,false):=by
  unfold lone2 onlyB
  rfl
 simp only [go_sem,g4]
 refine qY hmm ?_
 have f4:∀M',Keep ((M.upd r3 ⟨yJ v (.slice ad l.length cap),62,7⟩).upd r4 ⟨[.bool false,.int .i64 0,.int .i64 0,.int .i64 0],50,4⟩) M'→M' r4=some ⟨[.bool false,.int .i64 0,.int .i64 0,.int .i64 0],50,4⟩:=fun M' kp=>kp _ _ (Hp.qJ _ _ _)
 have kp0:Keep M ((M.upd r3 ⟨yJ v (.slice ad l.length cap),62,7⟩).upd r4 ⟨[.bool false,.int .i64 0,.int .i64 0,.int .i64 0],50,4⟩):=((Keep.refl M).new hM3).new g4.2.2
 have n4:M r4=none:=g4.2.2
 generalize (M.upd r3 ⟨yJ v (.slice ad l.length cap),62,7⟩).upd r4 ⟨[.bool false,.int .i64 0,.int .i64 0,.int .i64 0],50,4⟩=M4 at *
 rintro w G M2 (⟨hle,w,rfl,hr⟩ | ⟨hgt,rfl,hG,hM'⟩)
 rotate_left
 ·have hno:decide ((onlyP l).2=1)=false:=by
   cases hd:decide ((onlyP l).2=1)
   ·rfl
   ·have:=hmem.1 hd
    rw [this] at hgt; simp at hgt
  rw [hG,hM',hl2,hno]
  refine ⟨(fun h=>by cases h),?_⟩
  have f4':=f4 _ (Keep.refl _)
  have b4:=qG (F:=F) f4'
  simp only [go_sem,b4,f4']
  simp only [setH,go_sem]
  exact qX (kp0.new n4) ⟨rfl,rfl,rfl⟩
 obtain ⟨hG,le,kq,oq,a,c,rfl,rdq⟩:=hr.le (f:=Sc.cs) (fun x=>rfl) (by omega)
 subst hG
 refine ⟨(fun h=>by cases h),?_⟩
 have f4':=f4 _ kq
 have b4:=qG (F:=G) f4'
 cases hd:decide ((onlyP l).2=1)
 ·have hz:(memB l).length=0:=by have:=hmem.2 hd; omega
  have hz':((memB l).length:Int)=0:=by omega
  rw [hl2,hd]
  simp only [go_sem,hz',b4,f4']
  simp only [setH,go_sem]
  exact qX ((kp0.trans kq).new n4) ⟨rfl,rfl,rfl⟩
 ·have h1:=hmem.1 hd
  rw [hl2,hd]
  rw [h1] at rdq
  obtain ⟨_,_,_,_,eu,hrd⟩:=rdq
  cases eu
  rcases hrd with h | ⟨b,o,cs,rfl,hb,hc⟩
  ·cases h
  obtain ⟨d1,d2⟩:=hc 0 (by simp)
  rw [h1]
  simp only [List.getElem_cons_zero,Nat.zero_mul,Nat.add_zero] at d1 d2
  simp only [go_sem,f4',List.length_singleton,Nat.zero_mul,Nat.add_zero,hb,d1,d2]
  simp only [setH,go_sem]
  exact qX ((kp0.trans kq).new n4) ⟨rfl,rfl,rfl⟩
def emI (l:List Ba)(u:Value)(v:V)(r3:Nat)(F0:Fz)(M0:Hp)(m:Nat)(σ:Env)(F:Fz)(M:Hp):Prop:=
 F=F0∧M=M0∧Ax.look σ 3=some (.pointer (some ⟨r3,0,none⟩))∧∃i:Nat,i+m=l.length∧Ax.look σ 5=some (.int .i64 i)∧emptyB 7 v l=emptyB 7 v (l.drop i)
theorem k51 (k:Int)(v:V)(u:Value)(l:List Ba)(h:RdG 7 Ba.cs F M u l)(hok:absB k v l=true):CallsA Tryz.prog 51 [.int .i64 k,abV v u] F M (Same F M (.bool (emptyB k v l))):=by
 refine qZ hm Tryz.func51 e51 (Nat.le_of_ble_eq_true rfl) ?_
 have hp:=abs_pre hok
 have h':=h
 obtain ⟨_,ad,cap,_,rfl,_⟩:=h
 simp only [c51,go_sem]
 intro r3 hF3 hM3
 have h2:=h'.new hF3 hM3 (e:=⟨yJ v (.slice ad l.length cap),62,7⟩)
 by_cases h7:k=7
 rotate_left
 ·have lw:0≤v.w∧v.w≤62:=by
   have:=(hp.2.1 h7).1
   have hw:isW v.w=true:=by simp [V.ok] at this; exact this.1
   exact gQ hw
  simp only [go_sem,h7]
  refine qQ (k92 _ _ v 0 lw.1 lw.2) ?_
  simp only [go_sem]
  exact qV hM3 (qW ⟨by simp [emptyB,h7],rfl,rfl⟩)
 subst h7
 simp only [go_sem]
 refine loop_of (emI l (.slice ad l.length cap) v r3 F (M.upd r3 ⟨yJ v (.slice ad l.length cap),62,7⟩)) l.length ?_ ?_
 ·exact ⟨rfl,rfl,by simp only [go_sem],0,by omega,by simp only [go_sem] <;> rfl,rfl⟩
 rintro m σ F' M' ⟨hF',hM',h3,i,hi,h5,he⟩
 rw [hF',hM']
 obtain ⟨_,_,_,_,eu,hrd⟩:=h2
 cases eu
 by_cases hil:(i:Int) < l.length
 rotate_left
 ·have:l.drop i=[]:=List.drop_eq_nil_of_le (by omega)
  rw [this] at he
  rw [he]
  simp only [go_sem,h3,h5,hil]
  exact qV hM3 (qW ⟨by simp [emptyB],rfl,rfl⟩)
 have hi0:(0:Int)≤i:=by omega
 have hil':i < l.length:=by omega
 have ei:IntKind.i64.wrap ((i:Int)+1)=i+1:=w64 (by omega) (by omega)
 rcases hrd with h | ⟨b,o,cs,rfl,hb,hc⟩
 ·rw [h] at hil'; simp at hil'
 obtain ⟨d1,d2⟩:=hc i hil'
 obtain ⟨e1,e2,e3,e4⟩:=ba_row d1 d2
 have hx:=hp.2.2 l[i] (List.getElem_mem _)
 have he2:emptyB 7 v (l.drop i)=(!(decide (0≤l[i].v.wQ 0) && decide (l[i].v.wQ 0≤32)) && emptyB 7 v (l.drop (i+1))):=by
  rw [List.drop_eq_getElem_cons hil']
  simp only [emptyB,if_true,List.any_cons,Bool.not_or]
 generalize l[i]=x at *
 simp only [go_sem,h3,h5,hil,hi0,Int.toNat_natCast,hb,e3,e4]
 refine qQ (k92 _ _ x.v 0 hx.1 hx.2.1) ?_
 rw [he2] at he
 by_cases n0:0≤x.v.wQ 0
 ·by_cases n32:x.v.wQ 0≤32
  ·rw [he]
   simp only [go_sem,n0,n32]
   exact qV hM3 (qW ⟨by simp [],rfl,rfl⟩)
  ·have:emptyB 7 v l=emptyB 7 v (l.drop (i+1)):=by rw [he]; simp [n32]
   simp only [go_sem,h5,n0,n32,ei]
   exact ⟨m - 1,by omega,rfl,rfl,by simp only [go_sem,h3],i+1,by omega,by simp only [go_sem]; rfl,this⟩
 ·have:emptyB 7 v l=emptyB 7 v (l.drop (i+1)):=by rw [he]; simp [n0]
  simp only [go_sem,h5,n0,ei]
  exact ⟨m - 1,by omega,rfl,rfl,by simp only [go_sem,h3],i+1,by omega,by simp only [go_sem]; rfl,this⟩
def eqI (l1 l2:List Ba)(u1 u2:Value)(F0:Fz)(M0:Hp)(m:Nat)(σ:Env)(F:Fz)(M:Hp):Prop:=
 F=F0∧M=M0∧Ax.look σ 0=some u1∧Ax.look σ 1=some u2∧∃i:Nat,i+m=l1.length∧Ax.look σ 5=some (.int .i64 i)∧l1.take i=l2.take i
theorem k111 (u1 u2:Value)(l1 l2:List Ba)(h1:RdG 7 Ba.cs F M u1 l1)(h2:RdG 7 Ba.cs F M u2 l2):CallsA Tryz.prog 111 [u1,u2] F M (Same F M (.bool (decide (l1=l2)))):=by
 refine qZ hm Tryz.func111 e111 (Nat.le_of_ble_eq_true rfl) ?_
 obtain ⟨hl1,a1,c1,_,rfl,r1⟩:=h1
 obtain ⟨hl2,a2,c2,_,rfl,r2⟩:=h2
 by_cases hlen:l1.length=l2.length
 rotate_left
 ·have:¬((l1.length:Int)=l2.length):=by omega
  simp only [c111,go_sem,this]
  exact qW ⟨by rw [decide_eq_false (by rintro rfl; exact hlen rfl)],rfl,rfl⟩
 have hli:(l1.length:Int)=l2.length:=by omega
 simp only [c111,go_sem,hli]
 refine loop_of (eqI l1 l2 (.slice a1 l1.length c1) (.slice a2 l2.length c2) F M) l1.length ?_ ?_
 ·exact ⟨rfl,rfl,by simp only [go_sem],by simp only [go_sem],0,by omega,by simp only [go_sem] <;> rfl,by simp⟩
 rintro m σ F' M' ⟨rfl,rfl,q0,q1,i,hi,q5,he⟩
 by_cases hil:(i:Int) < l1.length
 rotate_left
 ·simp only [go_sem,q0,q5,hil]
  have:l1=l2:=by
   rw [List.take_of_length_le (by omega),List.take_of_length_le (by omega)] at he
   exact he
  exact qW ⟨by simp [this],rfl,rfl⟩
 have hi0:(0:Int)≤i:=by omega
 have hi1:i < l1.length:=by omega
 have hi2:i < l2.length:=by omega
 have hil2:(i:Int) < l2.length:=by omega
 have ei:IntKind.i64.wrap ((i:Int)+1)=i+1:=w64 (by omega) (by omega)
 rcases r1 with h | ⟨b,o,cs,rfl,hb,hc⟩
 ·rw [h] at hi1; simp at hi1
 rcases r2 with h | ⟨b',o',cs',rfl,hb',hc'⟩
 ·rw [h] at hi2; simp at hi2
 obtain ⟨d1,d2⟩:=hc i hi1
 obtain ⟨d3,d4⟩:=hc' i hi2
 have t1:=List.take_succ_eq_append_getElem hi1
 have t2:=List.take_succ_eq_append_getElem hi2
 have hne:¬l1[i]=l2[i]→¬l1=l2:=by
  rintro h rfl; exact h rfl
 generalize l1[i]=x at *
 generalize l2[i]=y at *
 by_cases hxy:x=y
 ·simp only [go_sem,q0,q1,q5,hil,hil2,hi0,Int.toNat_natCast,hb,hb',d1,d2,d3,d4,hxy,ei]
  exact ⟨m - 1,by omega,rfl,rfl,by simp only [go_sem,q0],by simp only [go_sem,q1],i+1,by omega,by simp only [go_sem]; rfl,by rw [t1,t2,he,hxy]⟩
 ·simp only [go_sem,q0,q1,q5,hil,hil2,hi0,Int.toNat_natCast,hb,hb',d1,d2,d3,d4,hxy]
  exact qW ⟨by rw [decide_eq_false (hne hxy)],rfl,rfl⟩
theorem k63 (v1 v2:V)(u1 u2:Value)(l1 l2:List Ba)(h1:RdG 7 Ba.cs F M u1 l1)(h2:RdG 7 Ba.cs F M u2 l2):CallsA Tryz.prog 63 [abV v1 u1,abV v2 u2] F M (Same F M (.bool (decide (v1=v2) && decide (l1=l2)))):=by
 refine qZ hm Tryz.func63 e63 (Nat.le_of_ble_eq_true rfl) ?_
 have h1':=h1
 have h2':=h2
 obtain ⟨_,a1,c1,_,rfl,_⟩:=h1
 obtain ⟨_,a2,c2,_,rfl,_⟩:=h2
 simp only [c63,go_sem]
 intro r2 hF2 hM2
 simp only [go_sem]
 intro r3 hF3 hM3
 have g3:=wV hM3
 have q1:=(h1'.new hF2 hM2 (e:=⟨yJ v1 (.slice a1 l1.length c1),62,7⟩)).new hF3 hM3 (e:=⟨yJ v2 (.slice a2 l2.length c2),62,7⟩)
 have q2:=(h2'.new hF2 hM2 (e:=⟨yJ v1 (.slice a1 l1.length c1),62,7⟩)).new hF3 hM3 (e:=⟨yJ v2 (.slice a2 l2.length c2),62,7⟩)
 by_cases hv:v1=v2
 ·simp only [go_sem,g3,hv]
  subst hv
  refine qQ (k111 _ _ _ _ l1 l2 q1 q2) ?_
  simp only [go_sem]
  exact qV hM3 (qV hM2 (qW ⟨by simp,rfl,rfl⟩))
 ·simp only [go_sem,g3,hv]
  exact qV hM3 (qV hM2 (qW ⟨by simp,rfl,rfl⟩))
def cpR (v:V)(l:List Ba)(F:Fz)(M:Hp)(u:Value)(F':Fz)(M':Hp):Prop:=∃w,u=abV v w∧rowR 7 Ba.cs 102 l F M w F' M'
structure OfbI (l:List Ba)(u:Value)(b:Int)(F0:Fz)(M0:Hp)(r4:Nat)(m:Nat)(σ:Env)(F:Fz)(M:Hp):Prop where
 ff:F=F0
 kp:Keep M0 M
 old:Old F0 M
 f4:M r4=some ⟨[.int .i64 0,.int .i64 0,.bool false,.int .i64 0,.int .i64 0,.int .i64 0,.int .i64 0],102,7⟩
 h1:Ax.look σ 1=some (.int .i64 b)
 h4:Ax.look σ 4=some (.pointer (some ⟨r4,0,none⟩))
 h7:Ax.look σ 7=some u
 h8:Ax.look σ 8=some (.int .i64 l.length)
 st:∃i:Nat,i+m=l.length∧Ax.look σ 9=some (.int .i64 i)∧ofB l b=ofB (l.drop i) b
theorem k205 (u:Value)(l:List Ba)(b:Int)(h:RdG 7 Ba.cs F M u l)(hold:Old F M):CallsA Tryz.prog 205 [u,.int .i64 b] F M (Same F M (ofB l b).val):=by
 refine qZ hm Tryz.func205 e205 (Nat.le_of_ble_eq_true rfl) ?_
 have h':=h
 obtain ⟨_,ad,cap,_,rfl,_⟩:=h
 simp only [c205,go_sem]
 intro r4 hF4 hM4
 simp only [go_sem]
 refine loop_of (OfbI l (.slice ad l.length cap) b F M r4) l.length ?_ ?_
 ·exact ⟨rfl,(Keep.refl _).new hM4,hold.upd hF4,Hp.qJ _ _ _,by simp only [go_sem],by simp only [go_sem],by simp only [go_sem],by simp only [go_sem],0,by omega,by simp only [go_sem] <;> rfl,rfl⟩
 rintro m σ F' M' s
 obtain ⟨i,hi,h9,he⟩:=s.st
 obtain rfl:=s.ff
 by_cases hil:(i:Int) < l.length
 rotate_left
 ·have:l.drop i=[]:=List.drop_eq_nil_of_le (by omega)
  rw [this] at he
  have he2:ofB l b=⟨b,V.nothing 8⟩:=he
  have f4:=s.f4
  simp only [go_sem,s.h1,s.h8,h9,hil]
  refine qQ (k122 _ _ 8) ?_
  simp only [go_sem,s.h4,f4]
  simp only [setH,go_sem]
  exact qX (s.kp.new hM4) ⟨by rw [he2],rfl,rfl⟩
 have hi0:(0:Int)≤i:=by omega
 have hil':i < l.length:=by omega
 have ei:IntKind.i64.wrap ((i:Int)+1)=i+1:=w64 (by omega) (by omega)
 obtain ⟨_,_,_,_,eu,hrd⟩:=h'.keep s.kp s.old
 cases eu
 rcases hrd with h | ⟨bb,o,cs,rfl,hb,hc⟩
 ·rw [h] at hil'; simp at hil'
 obtain ⟨d1,d2⟩:=hc i hil'
 have hcons:ofB (l.drop i) b=if l[i].b=b then l[i] else ofB (l.drop (i+1)) b:=by
  rw [List.drop_eq_getElem_cons hil']
  unfold ofB
  rw [List.find?_cons]
  by_cases hx:l[i].b=b <;> simp [hx]
 generalize l[i]=x at *
 simp only [go_sem,s.h7,s.h8,h9,hil,hi0,Int.toNat_natCast,hb,d1,d2]
 intro r6 hF6 hM6
 have g6:=qH hM6 s.f4
 have f4:=s.f4
 by_cases hx:x.b=b
 ·rw [if_pos hx] at hcons
  simp only [go_sem,s.h1,s.h4,hx,g6,f4]
  simp only [setH,go_sem]
  refine qX ((s.kp.new hM4).new (s.kp.free hM6)) ⟨by rw [he,hcons],rfl,rfl⟩
 ·rw [if_neg hx] at hcons
  simp only [go_sem,s.h1,h9,hx,ei]
  exact ⟨m - 1,by omega,rfl,s.kp.new (s.kp.free hM6),s.old.upd hF6,by rw [Hp.qK g6.1]; exact s.f4,by simp only [go_sem,s.h1],by simp only [go_sem,s.h4],by simp only [go_sem,s.h7],by simp only [go_sem,s.h8],i+1,by omega,by simp only [go_sem]; rfl,by rw [he,hcons]⟩
structure PackR (ns:List Int)(v:V):Prop where
 ok:v.ok=true
 w:v.w=8
 all:∀n∈ns,v.has n=true
 one:∀n0,(∀n∈ns,n=n0)→∀y,0≤y→y≤255→v.has y=true→y=n0
theorem most8:wH 8=255:=by decide
theorem PackR.next {ns:List Int}{n:Int}{v z:V}(h:PackR ns v)(h0:0≤n)(h1:n≤255)(hn:∀y∈ns,0≤y∧y≤255)(b:BothR v (V.just 8 n) z):PackR (ns++[n]) z:=by
 have hw:=b.w
 rw [h.w] at hw
 have hvw:=h.w
 have hjn:(V.just 8 n).has n=true:=by rw [just_has h0 (by omega)]; simp
 refine ⟨b.ok,hw,fun y hy=>?_,fun n0 ha y y0 y1 hy=>?_⟩
 ·rcases List.mem_append.1 hy with hy | hy
  ·have:=hn y hy
   exact b.left y this.1 (by rw [hvw,most8]; exact this.2) (h.all y hy)
  ·simp at hy; subst hy
   exact b.right y h0 (by show y≤wH 8; rw [most8]; exact h1) hjn
 ·refine b.one n0 (fun t t0 t1 ht=>?_) y y0 (by rw [hvw,most8]; exact y1) hy
  rw [hvw,most8] at t1
  rcases ht with ht | ht
  ·exact h.one n0 (fun q hq=>ha q (by simp [hq])) t t0 t1 ht
  ·rw [just_has t0 (by omega),decide_eq_true_eq] at ht
   rw [ht]; exact ha n (by simp)
structure PkI (ns:List Int)(u:Value)(b:Int)(F0:Fz)(M0:Hp)(r4 r5:Nat)(m:Nat)(σ:Env)(F:Fz)(M:Hp):Prop where
 ff:F=F0
 f4:M r4=some ⟨[.int .i64 0,.int .i64 0,.bool false,.int .i64 0,.int .i64 0,.int .i64 0,.int .i64 0],102,7⟩
 h0:Ax.look σ 0=some (.int .i64 b)
 h4:Ax.look σ 4=some (.pointer (some ⟨r4,0,none⟩))
 h5:Ax.look σ 5=some (.pointer (some ⟨r5,0,none⟩))
 h9:Ax.look σ 9=some u
 h10:Ax.look σ 10=some (.int .i64 ns.length)
 st:∃(i:Nat) (v:V),i+m=ns.length∧Ax.look σ 11=some (.int .i64 i)∧M=(M0.upd r4 ⟨[.int .i64 0,.int .i64 0,.bool false,.int .i64 0,.int .i64 0,.int .i64 0,.int .i64 0],102,7⟩).upd r5 ⟨v.cs,59,6⟩∧PackR (ns.take i) v
def packA (ns:List Int)(b:Int)(F:Fz)(M:Hp)(u:Value)(F':Fz)(M':Hp):Prop:=F'=F∧M'=M∧∃v,u=(Ba.mk b v).val∧PackR ns v
theorem k149 (u:Value)(ns:List Int)(b:Int)(h:RdG 1 intC F M u ns)(hns:∀n∈ns,0≤n∧n≤255):CallsA Tryz.prog 149 [.int .i64 b,u] F M (packA ns b F M):=by
 refine qZ hm Tryz.func149 e149 (Nat.le_of_ble_eq_true rfl) ?_
 have h':=h
 obtain ⟨_,ad,cap,_,rfl,_⟩:=h
 simp only [c149,go_sem]
 intro r4 hF4 hM4
 simp only [go_sem]
 refine qQ (k122 _ _ 8) ?_
 simp only [go_sem]
 intro r5 hF5 hM5
 have g5:=wV hM5
 have hrd:=(h'.new hF4 hM4 (e:=⟨[.int .i64 0,.int .i64 0,.bool false,.int .i64 0,.int .i64 0,.int .i64 0,.int .i64 0],102,7⟩))
 simp only [go_sem]
 refine loop_of (PkI ns (.slice ad ns.length cap) b F M r4 r5) ns.length ?_ ?_
 ·exact ⟨rfl,by rw [Hp.qK g5.2.1]; exact Hp.qJ _ _ _,by simp only [go_sem],by simp only [go_sem],by simp only [go_sem],by simp only [go_sem],by simp only [go_sem],0,V.nothing 8,by omega,by simp only [go_sem] <;> rfl,rfl,by decide,rfl,by simp,fun _ _ _ _ _ h=>by cases h⟩
 rintro m σ F' M' s
 obtain ⟨i,v,hi,h11,hM',pk⟩:=s.st
 obtain rfl:=s.ff
 have f4:=s.f4
 subst hM'
 by_cases hil:(i:Int) < ns.length
 rotate_left
 ·have:ns.take i=ns:=List.take_of_length_le (by omega)
  rw [this] at pk
  simp only [go_sem,s.h0,s.h4,s.h5,s.h10,h11,hil,g5]
  exact qV (by rw [Hp.qK g5.1]; exact g5.2.2) (qV hM4 (qW ⟨rfl,rfl,v,rfl,pk⟩))
 have hi0:(0:Int)≤i:=by omega
 have hil':i < ns.length:=by omega
 have ei:IntKind.i64.wrap ((i:Int)+1)=i+1:=w64 (by omega) (by omega)
 have hrd2:=hrd.new hF5 hM5 (e:=⟨v.cs,59,6⟩)
 obtain ⟨_,_,_,_,eu,hr⟩:=hrd2
 cases eu
 rcases hr with h | ⟨bb,o,cs,rfl,hb,hc⟩
 ·rw [h] at hil'; simp at hil'
 obtain ⟨d1,d2⟩:=hc i hil'
 have d3:=one_row d2
 rw [Nat.mul_one] at d3
 simp only [intV] at d3
 have hn:=hns ns[i] (List.getElem_mem _)
 have htk:=List.take_succ_eq_append_getElem hil'
 have hnt:∀y∈ns.take i,0≤y∧y≤255:=fun y hy=>hns y (List.mem_of_mem_take hy)
 generalize ns[i]=n at *
 have isn:isN n 8=true:=by simp [isN,most8]; omega
 simp only [go_sem,s.h5,s.h9,s.h10,h11,hil,hi0,Int.toNat_natCast,Nat.mul_one,hb,d3]
 refine qQ (k166 _ _ 8 n) ?_
 simp only [go_sem]
 refine qY (k146 _ _ v (V.just 8 n) pk.ok (gY (by decide) isn) (by rw [pk.w]; rfl)) ?_
 rintro w G M2 ⟨hG,hM2,z,rfl,bz⟩
 rw [hG,hM2]
 refine ⟨fun _=>Le.refl _ _,?_⟩
 simp only [go_sem,s.h5,h11,ei]
 exact ⟨m - 1,by omega,rfl,by rw [Hp.qK g5.2.1]; exact Hp.qJ _ _ _,by simp only [go_sem,s.h0],by simp only [go_sem,s.h4],by simp only [go_sem,s.h5],by simp only [go_sem,s.h9],by simp only [go_sem,s.h10],i+1,z,by omega,by simp only [go_sem]; rfl,rfl,by rw [htk]; exact pk.next hn.1 hn.2 hnt bz⟩
def DoC (g:Nat)(R:Ba→Ba→Ba→Prop)(Pre:Ba→Ba→Prop):Prop:=
 ∀(F:Fz) (M:Hp) (x y:Ba),Old F M→Pre x y→CallsA Tryz.prog g [x.val,y.val] F M fun u F' M'=>F'=F∧M'=M∧∃z,u=z.val∧R x y z
def eachR (R:Ba→Ba→Ba→Prop)(l1 l2:List Ba)(F:Fz)(M:Hp)(u:Value)(F':Fz)(M':Hp):Prop:=
 ∃z:Nat→Ba,(∀b:Nat,b < 7→R (ofB l1 b) (ofB l2 b) (z b))∧rowR 7 Ba.cs 102 (eachL z 7) F M u F' M'
structure EcI (R:Ba→Ba→Ba→Prop)(l1 l2:List Ba)(u1 u2 f:Value)(F0:Fz)(M0:Hp)(m:Nat)(σ:Env)(F:Fz)(M:Hp):Prop where
 ff:F=F0
 kp:Keep M0 M
 old:Old F0 M
 h0:Ax.look σ 0=some u1
 h1:Ax.look σ 1=some u2
 h2:Ax.look σ 2=some f
 st:∃(i:Nat) (w:Value) (z:Nat→Ba),i+m=7∧Ax.look σ 9=some (.int .i64 i)∧Ax.look σ 6=some w∧yY 7 Ba.cs 102 F0 M0 M w (eachL z i)∧∀b:Nat,b < i→R (ofB l1 b) (ofB l2 b) (z b)
theorem eachL_congr {z z':Nat→Ba}{n:Nat}(h:∀i,i < n→z i=z' i):eachL z n=eachL z' n:=by
 unfold eachL
 have:(List.range n).map z=(List.range n).map z':=List.map_congr_left (fun i hi=>h i (by simpa using hi))
 rw [this]
theorem k147 (g:Nat)(R:Ba→Ba→Ba→Prop)(Pre:Ba→Ba→Prop)(hdo:DoC g R Pre)(hR:∀x y z,R x y z→z.v.ok=true)(u1 u2:Value)(l1 l2:List Ba)(h1:RdG 7 Ba.cs F M u1 l1)(h2:RdG 7 Ba.cs F M u2 l2)(hold:Old F M)(hpre:∀b:Nat,b < 7→Pre (ofB l1 b) (ofB l2 b)) :
  CallsA Tryz.prog 147 [u1,u2,.func (.func g) #[] #[]] F M (eachR R l1 l2 F M):=by
 refine qZ hm Tryz.func147 e147 (Nat.le_of_ble_eq_true rfl) ?_
 simp only [c147,go_sem]
 refine loop_of (EcI R l1 l2 u1 u2 (.func (.func g) #[] #[]) F M) 7 ?_ ?_
 ·exact ⟨rfl,Keep.refl _,hold,by simp only [go_sem],by simp only [go_sem],by simp only [go_sem],0,_,fun _=>⟨0,V.nothing 8⟩,by omega,by simp only [go_sem] <;> rfl,by simp only [go_sem]; rfl,by simp only [eachL]; exact yY.nil,by omega⟩
 rintro m σ F' M1 s
 obtain ⟨i,w,z,hi,h9,h6,mine,hz⟩:=s.st
 obtain rfl:=s.ff
 by_cases hi7:(i:Int) < 7
 rotate_left
 ·have:i=7:=by omega
  subst this
  simp only [go_sem,h9,h6]
  obtain ⟨M5,k1,k2,hr⟩:=mine.alone s.kp
  exact ⟨F',M5,k1.wk F',z,hz,hr⟩
 have ei:IntKind.i64.wrap ((i:Int)+1)=i+1:=w64 (by omega) (by omega)
 have r1:=h1.keep s.kp s.old
 have r2:=h2.keep s.kp s.old
 simp only [go_sem,s.h0,s.h2,h9,hi7]
 refine qQ (k205 _ _ _ l1 i r1 s.old) ?_
 simp only [go_sem,s.h1]
 refine qQ (k205 _ _ _ l2 i r2 s.old) ?_
 simp only [go_sem]
 refine qY (hdo _ _ (ofB l1 i) (ofB l2 i) s.old (hpre i (by omega))) ?_
 rintro v G M2 ⟨hG,hM2,zi,rfl,hzi⟩
 rw [hG,hM2]
 refine ⟨(fun h=>by cases h),?_⟩
 have hzok:=hR _ _ _ hzi
 simp only [go_sem]
 intro r8 hF8 hM8
 simp only [go_sem]
 refine qY (k127 _ _ zi hzok) ?_
 rintro q G M3 hq
 have hol:=zi.v.offs_len
 obtain ⟨hG,le,kq,oq,aq,cq,rfl,rdq⟩:=hq.le wD (by omega)
 rw [hG]
 refine ⟨(fun h=>by cases h),?_⟩
 have old3:=oq (s.old.upd hF8)
 have kp3:Keep M1 M3:=((Keep.refl M1).new hM8).trans kq
 have f8:M3 r8=some ⟨zi.cs,102,7⟩:=kq _ _ (Hp.qJ _ _ _)
 have b8:=qG (F:=F') f8
 have mine3:=mine.keep kp3
 let z':Nat→Ba:=fun j=>if j=i then zi else z j
 have hz':∀b:Nat,b < i+1→R (ofB l1 b) (ofB l2 b) (z' b):=by
  intro b hb
  by_cases e:b=i
  ·subst e; simp only [z',if_true]; exact hzi
  ·simp only [z',e,if_false]; exact hz b (by omega)
 have hzz:eachL z i=eachL z' i:=eachL_congr (fun j hj=>by simp only [z']; rw [if_neg (by omega)])
 have hsucc:=eachL_succ z' i
 have hzi':z' i=zi:=by simp [z']
 rw [hzi',←hzz] at hsucc
 by_cases hpos:(0:Int) < zi.v.offs.length
 rotate_left
 ·rw [if_neg (by omega),List.append_nil] at hsucc
  simp only [go_sem,h9,hpos,ei]
  exact ⟨m - 1,by omega,rfl,s.kp.trans kp3,old3,by simp only [go_sem,s.h0],by simp only [go_sem,s.h1],by simp only [go_sem,s.h2],i+1,w,z',by omega,by simp only [go_sem]; rfl,by simp only [go_sem,h6],by rw [hsucc]; exact mine3,hz'⟩
 ·rw [if_pos (by omega)] at hsucc
  have hel:=eachL_len z i
  simp only [go_sem,h6,hpos,b8]
  intro rb hFb hMb
  simp only [go_sem]
  refine apMG_of (xs:=eachL z i) (ys:=[zi]) (fun x=>rfl) Ba.plain (by decide) (mine3.fresh hMb) ((s.kp.trans kp3).new ((s.kp.trans kp3).free hMb)) ⟨rfl,.inr ⟨⟨rb,0,none⟩,1,rfl,.inr ⟨rb,0,_,rfl,wY,by simp [Ba.take7]⟩⟩⟩ (by simp) (by simp; omega) ?_
  rintro v' M5 _ hfr kp5 ho5 mine5
  rw [←hsucc] at mine5
  simp only [go_sem,h9,ei]
  exact ⟨m - 1,by omega,rfl,kp5,ho5 (old3.upd hFb),by simp only [go_sem,s.h0],by simp only [go_sem,s.h1],by simp only [go_sem,s.h2],i+1,v',z',by omega,by simp only [go_sem]; rfl,by simp only [go_sem],mine5,hz'⟩
theorem both_do:DoC 148 BothB PreB:=by
 intro F M x y hold hpre
 refine qZ hm Tryz.func148 e148 (Nat.le_of_ble_eq_true rfl) ?_
 simp only [c148,go_sem]
 intro r2 hF2 hM2
 simp only [go_sem]
 intro r3 hF3 hM3
 have g3:=wV hM3
 simp only [go_sem]
 intro r4 hF4 hM4
 have g4:=wV hM4
 have g42:=wV g4.2.2
 simp only [go_sem,g3,g4,g42]
 refine qY (k127 _ _ x hpre.okx) ?_
 have kp0:Keep M (((M.upd r2 ⟨x.cs,102,7⟩).upd r3 ⟨y.cs,102,7⟩).upd r4 ⟨[.int .i64 0,.int .i64 0,.bool false,.int .i64 0,.int .i64 0,.int .i64 0,.int .i64 0],102,7⟩):=(((Keep.refl M).new hM2).new g3.2.2).new g42.2.2
 have old0:Old F (((M.upd r2 ⟨x.cs,102,7⟩).upd r3 ⟨y.cs,102,7⟩).upd r4 ⟨[.int .i64 0,.int .i64 0,.bool false,.int .i64 0,.int .i64 0,.int .i64 0,.int .i64 0],102,7⟩):=((hold.upd hF2).upd hF3).upd hF4
 have f2:(((M.upd r2 ⟨x.cs,102,7⟩).upd r3 ⟨y.cs,102,7⟩).upd r4 ⟨[.int .i64 0,.int .i64 0,.bool false,.int .i64 0,.int .i64 0,.int .i64 0,.int .i64 0],102,7⟩) r2=some ⟨x.cs,102,7⟩:=by
  rw [Hp.qK g42.2.1,Hp.qK g3.2.1]; exact Hp.qJ _ _ _
 have f4:(((M.upd r2 ⟨x.cs,102,7⟩).upd r3 ⟨y.cs,102,7⟩).upd r4 ⟨[.int .i64 0,.int .i64 0,.bool false,.int .i64 0,.int .i64 0,.int .i64 0,.int .i64 0],102,7⟩) r4=some ⟨[.int .i64 0,.int .i64 0,.bool false,.int .i64 0,.int .i64 0,.int .i64 0,.int .i64 0],102,7⟩:=Hp.qJ _ _ _
 have n4:M r4=none:=g42.2.2
 have n24:¬r2=r4:=g42.2.1
 generalize ((M.upd r2 ⟨x.cs,102,7⟩).upd r3 ⟨y.cs,102,7⟩).upd r4 ⟨[.int .i64 0,.int .i64 0,.bool false,.int .i64 0,.int .i64 0,.int .i64 0,.int .i64 0],102,7⟩=M1 at *
 rintro q G M2 hq
 have hol1:=x.v.offs_len
 have hol2:=y.v.offs_len
 obtain ⟨hG,le,kq,oq,aq,cq,rfl,rdq⟩:=hq.le wD (by omega)
 rw [hG] at hq ⊢
 refine ⟨fun _=>le,?_⟩
 have mine1:=hq.mine kp0
 simp only [go_sem]
 refine qY (k127 _ _ y hpre.oky) ?_
 rintro q2 G M3 hq2
 obtain ⟨hG,le2,kq2,oq2,aq2,cq2,rfl,rdq2⟩:=hq2.le wD (by omega)
 rw [hG] at hq2 ⊢
 refine ⟨fun _=>le2,?_⟩
 have mine2:=mine1.keep kq2
 simp only [go_sem]
 refine apMG_any (xs:=x.v.offs) (ys:=y.v.offs) wD intC_plain (by decide) mine2 ((kp0.trans kq).trans kq2) (hq2.own.src wD) (by omega) ?_
 rintro v' M5 hfr kp5 ho5 mine5
 have f25:M5 r2=some ⟨x.cs,102,7⟩:=hfr _ _ (kq2 _ _ (kq _ _ f2)) (by simp)
 have f45:M5 r4=some ⟨[.int .i64 0,.int .i64 0,.bool false,.int .i64 0,.int .i64 0,.int .i64 0,.int .i64 0],102,7⟩:=hfr _ _ (kq2 _ _ (kq _ _ f4)) (by simp)
 have b25:=qG (F:=F) f25
 simp only [go_sem,b25]
 refine qY (k149 _ _ v' (x.v.offs++y.v.offs) x.b (mine5.own.rd wD (by simp; omega)) (fun n hn=>?_)) ?_
 ·rcases List.mem_append.1 hn with h | h
  ·have:=(mem_offs hpre.okx).1 h; omega
  ·have:=(mem_offs hpre.oky).1 h; omega
 rintro w G M6 ⟨hG,hM6,v,rfl,pk⟩
 rw [hG,hM6]
 refine ⟨(fun h=>by cases h),?_⟩
 simp only [go_sem,f45]
 simp only [setH,go_sem]
 refine qX (kp5.new n4) ⟨rfl,rfl,⟨x.b,v⟩,rfl,rfl,pk.ok,pk.w,fun o o0 o1 ho=>?_,fun n0 ha o o0 o1 ho=>?_⟩
 ·refine pk.all o (List.mem_append.2 ?_)
  rcases ho with ho | ho
  ·exact .inl ((mem_offs hpre.okx).2 ⟨o0,o1,ho⟩)
  ·exact .inr ((mem_offs hpre.oky).2 ⟨o0,o1,ho⟩)
 ·refine pk.one n0 (fun n hn=>?_) o o0 o1 ho
  rcases List.mem_append.1 hn with h | h
  ·have:=(mem_offs hpre.okx).1 h; exact ha n this.1 this.2.1 (.inl this.2.2)
  ·have:=(mem_offs hpre.oky).1 h; exact ha n this.1 this.2.1 (.inr this.2.2)
def vJ (k:Int)(v1:V)(l1:List Ba)(v2:V)(l2:List Ba)(F:Fz)(M:Hp)(u:Value)(F':Fz)(M':Hp):Prop:=
 ∃v l,BothA k v1 l1 v2 l2 v l∧l.length≤7∧cpR v l F M u F' M'
theorem k90 (k:Int)(v1 v2:V)(u1 u2:Value)(l1 l2:List Ba)(h1:RdG 7 Ba.cs F M u1 l1)(h2:RdG 7 Ba.cs F M u2 l2)(hold:Old F M)(ha:absB k v1 l1=true)(hb:absB k v2 l2=true) :
  CallsA Tryz.prog 90 [.int .i64 k,abV v1 u1,abV v2 u2] F M (vJ k v1 l1 v2 l2 F M):=by
 refine qZ hm Tryz.func90 e90 (Nat.le_of_ble_eq_true rfl) ?_
 have h1':=h1
 have h2':=h2
 obtain ⟨_,a1,c1,_,rfl,_⟩:=h1
 obtain ⟨_,a2,c2,_,rfl,_⟩:=h2
 simp only [c90,go_sem]
 intro r4 hF4 hM4
 simp only [go_sem]
 intro r5 hF5 hM5
 have g5:=wV hM5
 simp only [go_sem]
 intro r6 hF6 hM6
 have g6:=wV hM6
 have g62:=wV g6.2.2
 have kp0:Keep M (((M.upd r4 ⟨yJ v1 (.slice a1 l1.length c1),62,7⟩).upd r5 ⟨yJ v2 (.slice a2 l2.length c2),62,7⟩).upd r6 ⟨[.int .i64 0,.bool false,.int .i64 0,.int .i64 0,.int .i64 0,.int .i64 0,.slice none 0 0],62,7⟩):=(((Keep.refl M).new hM4).new g5.2.2).new g62.2.2
 have old0:Old F (((M.upd r4 ⟨yJ v1 (.slice a1 l1.length c1),62,7⟩).upd r5 ⟨yJ v2 (.slice a2 l2.length c2),62,7⟩).upd r6 ⟨[.int .i64 0,.bool false,.int .i64 0,.int .i64 0,.int .i64 0,.int .i64 0,.slice none 0 0],62,7⟩):=((hold.upd hF4).upd hF5).upd hF6
 have f6:(((M.upd r4 ⟨yJ v1 (.slice a1 l1.length c1),62,7⟩).upd r5 ⟨yJ v2 (.slice a2 l2.length c2),62,7⟩).upd r6 ⟨[.int .i64 0,.bool false,.int .i64 0,.int .i64 0,.int .i64 0,.int .i64 0,.slice none 0 0],62,7⟩) r6=some ⟨[.int .i64 0,.bool false,.int .i64 0,.int .i64 0,.int .i64 0,.int .i64 0,.slice none 0 0],62,7⟩:=Hp.qJ _ _ _
 have n6:M r6=none:=g62.2.2
 rcases abs_pair ha hb with ⟨h7,e1,e2,p1,p2⟩ | ⟨h7,hk,ok1,ok2,w1,w2,e1,e2⟩
 rotate_left
 ·subst e1 e2
  simp only [go_sem,g5,g6,g62,h7]
  refine qY (k146 _ _ v1 v2 ok1 ok2 (by rw [w1,w2])) ?_
  rintro w G M1 ⟨hG,hM1,z,rfl,bz⟩
  rw [hG,hM1]
  refine ⟨(fun h=>by cases h),?_⟩
  simp only [go_sem]
  refine qQ (k143 _ _ z) ?_
  simp only [go_sem]
  exact qV (by rw [Hp.qK g6.1,Hp.qK g62.1]; exact n6) (qV (by rw [Hp.qK g5.1]; exact g5.2.2) (qV hM4 (qW ⟨z,[],bothA_num h7 hk w1 w2 bz,by simp,_,rfl,rfl,.inl ⟨rfl,rfl,rfl⟩⟩)))
 subst h7 e1 e2
 have hpre:∀b:Nat,b < 7→PreB (ofB l1 b) (ofB l2 b):=fun b _=>ofB_pre p1 p2 b
 simp only [go_sem,g5,g6,g62]
 refine qY (k147 _ _ 148 BothB PreB both_do (fun x y z h=>h.ok) _ _ l1 l2 (h1'.keep kp0 old0) (h2'.keep kp0 old0) old0 hpre) ?_
 generalize ((M.upd r4 ⟨yJ V.zero (.slice a1 l1.length c1),62,7⟩).upd r5 ⟨yJ V.zero (.slice a2 l2.length c2),62,7⟩).upd r6 ⟨[.int .i64 0,.bool false,.int .i64 0,.int .i64 0,.int .i64 0,.int .i64 0,.slice none 0 0],62,7⟩=M1 at *
 rintro w G M2 ⟨z,hz,hr⟩
 have hel:=eachL_len z 7
 have hres:=bothA_ptr p1 p2 hz
 generalize eachL z 7=l at *
 have mine:=hr.mine kp0
 obtain ⟨hG,le,kq,oq,aq,cq,rfl,rdq⟩:=hr.le (f:=Ba.cs) (fun x=>rfl) (by omega)
 rw [hG]
 refine ⟨(fun h=>by cases h),?_⟩
 have f62:=kq _ _ f6
 obtain ⟨M5,k1,k2,hr5⟩:=mine.alone (kp0.trans kq)
 have n65:M5 r6=none:=by
  obtain ⟨_,⟨_,_,rfl⟩ | ⟨g',cap,_,q2,q3,_,rfl⟩⟩:=hr5
  ·exact n6
  ·have:¬r6=g':=by
    rintro rfl
    have h1:=k1 _ _ (Hp.qJ _ _ _)
    rw [f62] at h1
    simp at h1
   rw [Hp.qK this]; exact n6
 simp only [go_sem,f62]
 simp only [setH,go_sem]
 exact qX (k1.new n65) ⟨V.zero,l,hres,hel,_,rfl,hr5⟩
theorem k154 (op:Int):CallsA Tryz.prog 154 [.int .i64 op] F M (Same F M (.int .i64 (arityV op))):=by
 refine qZ hm Tryz.func154 e154 (Nat.le_of_ble_eq_true rfl) ?_
 unfold arityV
 by_cases h1:op=1
 ·subst h1
  simp only [c154,go_sem]
  exact qW ⟨by simp,rfl,rfl⟩
 by_cases h2:op=2
 ·subst h2
  simp only [c154,go_sem]
  exact qW ⟨by simp,rfl,rfl⟩
 by_cases h3:3≤op
 ·by_cases h7:op≤7
  ·simp only [c154,go_sem,h1,h2,h3,h7]
   exact qW ⟨by simp,rfl,rfl⟩
  ·by_cases h22:op≤22
   ·have h8:8≤op:=by omega
    simp only [c154,go_sem,h1,h2,h3,h7,h8,h22]
    exact qW ⟨by simp,rfl,rfl⟩
   ·have h8:8≤op:=by omega
    simp only [c154,go_sem,h1,h2,h3,h7,h8,h22]
    exact qW ⟨by simp,rfl,rfl⟩
 ·have h8:¬8≤op:=by omega
  simp only [c154,go_sem,h1,h2,h3,h8]
  exact qW ⟨by simp,rfl,rfl⟩
theorem xp_at {p:Pg}(hp:p.rd F)(hold:Old F M){i:Nat}(hi:i < p.exprs.length) :
  ∃b o cs,p.eA=some ⟨b,o,none⟩∧blk F M b=some cs∧o+i * 5+5≤cs.length∧(cs.drop (o+i * 5)).take 5=p.exprs[i].cs∧cs[o+i * 5+1]? = some (.int .i64 p.exprs[i].kind):=by
 obtain ⟨b,o,cs,ea,hb,d1,d2⟩:=RdG.at (hp.exprs M hold) hi
 exact ⟨b,o,cs,ea,hb,d1,d2,(Xp.row d2).2.1⟩
theorem k209 (p:Pg)(e:Int)(hp:p.rd F)(hold:Old F M)(h0:0≤e)(h1:e < p.exprs.length):CallsA Tryz.prog 209 [p.val,.int .i64 e] F M (Same F M (.int .i64 (kindAt p.exprs e))):=by
 refine qZ hm Tryz.func209 e209 (Nat.le_of_ble_eq_true rfl) ?_
 obtain ⟨i,rfl⟩:=Int.eq_ofNat_of_zero_le h0
 have hi:i < p.exprs.length:=by omega
 simp only [c209,go_sem]
 intro r hF hM
 obtain ⟨b,o,cs,ea,hb,d1,d2,d3⟩:=xp_at F (M.upd r ⟨p.cs,153,7⟩) hp (hold.upd hF) hi
 have hk:kindAt p.exprs i=p.exprs[i].kind:=by
  unfold kindAt
  rw [Int.toNat_natCast,List.getElem?_eq_getElem hi]; rfl
 simp only [go_sem,ea,h0,h1,Int.toNat_natCast,hb,d3]
 exact qV hM (qW ⟨by rw [hk],rfl,rfl⟩)
theorem k208 (k:Int)(p3:Nat)(e3:Ent)(i:Int)(h3:M p3=some e3)(c3:e3.cells=[.int .i64 i]):CallsA Tryz.prog 208 [.int .i64 k,.pointer (some ⟨p3,0,none⟩)] F M (Same F M (.bool (aheadB k i))):=by
 refine qZ hm Tryz.func208 e208 (Nat.le_of_ble_eq_true rfl) ?_
 have b3:=qG (F:=F) h3
 rw [c3] at b3
 by_cases h:0≤k
 ·simp only [c208,go_sem,h,b3]
  exact qW ⟨by simp [aheadB,h],rfl,rfl⟩
 ·simp only [c208,go_sem,h]
  exact qW ⟨by simp [aheadB,h],rfl,rfl⟩
theorem k153 (p:Pg)(i:Nat)(hp:p.rd F)(hold:Old F M)(hi:i < p.exprs.length):CallsA Tryz.prog 153 [p.val,.int .i64 i] F M (Same F M (.bool (placesB p.exprs[i] i))):=by
 refine qZ hm Tryz.func153 e153 (Nat.le_of_ble_eq_true rfl) ?_
 have hi0:(0:Int)≤i:=by omega
 have hil:(i:Int) < p.exprs.length:=by omega
 simp only [c153,go_sem]
 intro r hF hM
 simp only [go_sem]
 intro r3 hF3 hM3
 have g3:=wV hM3
 obtain ⟨b,o,cs,ea,hb,d1,d2,d3⟩:=xp_at F ((M.upd r ⟨p.cs,153,7⟩).upd r3 ⟨[.int .i64 i],3,1⟩) hp ((hold.upd hF).upd hF3) hi
 generalize p.exprs[i]=x at *
 simp only [go_sem,g3,ea,hi0,hil,Int.toNat_natCast,hb,d1,d2]
 intro r5 hF5 hM5
 have g5:=wV hM5
 have g52:=wV g5.2.2
 have kp:∀e,Keep M (((M.upd r ⟨p.cs,153,7⟩).upd r3 ⟨[.int .i64 i],3,1⟩).upd r5 e):=fun e=>(((Keep.refl M).new hM).new g3.2.2).new g52.2.2
 have f3:∀e,(((M.upd r ⟨p.cs,153,7⟩).upd r3 ⟨[.int .i64 i],3,1⟩).upd r5 e) r3=some ⟨[.int .i64 i],3,1⟩:=fun e=>by
  rw [Hp.qK g5.2.1]; exact Hp.qJ _ _ _
 simp only [go_sem]
 refine qQ (k154 _ _ x.op) ?_
 unfold placesB
 by_cases a0:arityV x.op=0
 ·by_cases ha:x.a=0
  ·simp only [go_sem,a0,ha]
   exact qX (kp _) ⟨by simp [],rfl,rfl⟩
  ·simp only [go_sem,a0,ha]
   exact qX (kp _) ⟨by simp [],rfl,rfl⟩
 by_cases a1:arityV x.op=1
 ·simp only [go_sem,a1]
  refine qQ (k208 _ _ x.a r3 _ i (f3 _) rfl) ?_
  cases hq:aheadB x.a i
  ·simp only [go_sem]
   exact qX (kp _) ⟨by simp [],rfl,rfl⟩
  ·simp only [go_sem]
   exact qX (kp _) ⟨by simp [],rfl,rfl⟩
 by_cases a2:arityV x.op=2
 ·simp only [go_sem,a2]
  refine qQ (k208 _ _ x.a r3 _ i (f3 _) rfl) ?_
  cases hq:aheadB x.a i
  ·simp only [go_sem]
   exact qX (kp _) ⟨by simp [],rfl,rfl⟩
  ·simp only [go_sem]
   refine qQ (k208 _ _ x.b r3 _ i (f3 _) rfl) ?_
   simp only [go_sem]
   exact qX (kp _) ⟨by simp [],rfl,rfl⟩
 ·simp only [go_sem,a0,a1,a2]
  exact qX (kp _) ⟨by simp [],rfl,rfl⟩
theorem k155 (p:Pg)(x:Xp):CallsA Tryz.prog 155 [p.val,x.val] F M (Same F M (.bool (leafB p.vars.length x))):=by
 refine qZ hm Tryz.func155 e155 (Nat.le_of_ble_eq_true rfl) ?_
 simp only [c155,go_sem]
 intro r hF hM
 simp only [go_sem]
 intro r3 hF3 hM3
 have g3:=wV hM3
 have kp:∀e e',Keep M ((M.upd r e).upd r3 e'):=fun e e'=>((Keep.refl M).new hM).new g3.2.2
 unfold leafB
 by_cases h2:x.op=2
 ·by_cases h7:x.kind=7
  ·by_cases h1:1≤x.n
   ·simp only [go_sem,g3,h2,h7,h1]
    exact qX (kp _ _) ⟨by simp [],rfl,rfl⟩
   ·simp only [go_sem,h2,h7,h1]
    exact qX (kp _ _) ⟨by simp [],rfl,rfl⟩
  ·simp only [go_sem,h2,h7]
   exact qX (kp _ _) ⟨by simp [],rfl,rfl⟩
 ·have tail:∀(q:Bool),q=(decide (x.kind=7) && decide (x.n=0))→True:=fun _ _=>trivial
  by_cases h7:x.kind=7
  ·by_cases hn:x.n=0
   ·simp only [go_sem,h2,h7,hn]
    exact qX (kp _ _) ⟨by simp,rfl,rfl⟩
   ·simp only [go_sem,h2,h7,hn]
    refine qQ (k72 _ _ 7) ?_
    have e7:isK 7=false:=rfl
    rw [e7]
    simp only [go_sem]
    exact qX (kp _ _) ⟨by simp [],rfl,rfl⟩
  ·simp only [go_sem,h2,h7]
   refine qQ (k72 _ _ x.kind) ?_
   cases hk:isK x.kind
   ·simp only [go_sem]
    exact qX (kp _ _) ⟨by simp,rfl,rfl⟩
   ·have hw:=gQ (gZ x.kind)
    simp only [go_sem]
    refine qQ (k74 _ _ x.kind hk) ?_
    simp only [go_sem]
    refine qQ (k123 _ _ x.n (ofW x.kind) hw.1 hw.2) ?_
    simp only [go_sem]
    exact qX (kp _ _) ⟨by simp,rfl,rfl⟩
theorem k156 (p:Pg)(x:Xp)(hp:p.rd F)(hold:Old F M)(h0:0≤x.a)(h1:x.a < p.exprs.length):CallsA Tryz.prog 156 [p.val,x.val] F M (Same F M (.bool (oneB p.exprs x))):=by
 refine qZ hm Tryz.func156 e156 (Nat.le_of_ble_eq_true rfl) ?_
 simp only [c156,go_sem]
 intro r hF hM
 simp only [go_sem]
 intro r3 hF3 hM3
 have g3:=wV hM3
 have kp:∀e e',Keep M ((M.upd r e).upd r3 e'):=fun e e'=>((Keep.refl M).new hM).new g3.2.2
 have oo:∀e e',Old F ((M.upd r e).upd r3 e'):=fun e e'=>(hold.upd hF).upd hF3
 simp only [go_sem,g3]
 refine qQ (k209 _ _ p x.a hp (oo _ _) h0 h1) ?_
 unfold oneB
 by_cases q3:x.op=3
 ·simp only [go_sem,q3]
  refine qQ (k39 _ _ x.kind) ?_
  cases hk:isS x.kind
  ·simp only [go_sem]
   exact qX (kp _ _) ⟨by simp,rfl,rfl⟩
  ·simp only [go_sem]
   exact qX (kp _ _) ⟨by simp,rfl,rfl⟩
 by_cases q4:x.op=4
 ·simp only [go_sem,q4]
  refine qQ (k72 _ _ x.kind) ?_
  cases hk:isK x.kind
  ·simp only [go_sem]
   exact qX (kp _ _) ⟨by simp,rfl,rfl⟩
  ·simp only [go_sem]
   refine qQ (k72 _ _ (kindAt p.exprs x.a)) ?_
   simp only [go_sem]
   exact qX (kp _ _) ⟨by simp,rfl,rfl⟩
 by_cases q7:x.op=7
 ·simp only [go_sem,q7]
  exact qX (kp _ _) ⟨by simp,rfl,rfl⟩
 ·simp only [go_sem,q3,q4,q7]
  refine qQ (k72 _ _ x.kind) ?_
  cases hk:isK x.kind
  ·simp only [go_sem]
   exact qX (kp _ _) ⟨by simp [],rfl,rfl⟩
  ·simp only [go_sem]
   exact qX (kp _ _) ⟨by simp [],rfl,rfl⟩
theorem k157 (p:Pg)(x:Xp)(hp:p.rd F)(hold:Old F M)(h0:0≤x.a)(h1:x.a < p.exprs.length)(h2:0≤x.b)(h3:x.b < p.exprs.length):CallsA Tryz.prog 157 [p.val,x.val] F M (Same F M (.bool (twoB p.exprs x))):=by
 refine qZ hm Tryz.func157 e157 (Nat.le_of_ble_eq_true rfl) ?_
 simp only [c157,go_sem]
 intro r hF hM
 simp only [go_sem]
 intro r3 hF3 hM3
 have g3:=wV hM3
 have kp:∀e e',Keep M ((M.upd r e).upd r3 e'):=fun e e'=>((Keep.refl M).new hM).new g3.2.2
 have oo:∀e e',Old F ((M.upd r e).upd r3 e'):=fun e e'=>(hold.upd hF).upd hF3
 simp only [go_sem,g3]
 refine qQ (k209 _ _ p x.a hp (oo _ _) h0 h1) ?_
 simp only [go_sem]
 refine qQ (k209 _ _ p x.b hp (oo _ _) h2 h3) ?_
 unfold twoB
 generalize kindAt p.exprs x.a=ka
 generalize kindAt p.exprs x.b=kb
 by_cases q18:x.op=18∨x.op=19
 ·have go:∀(fin:x.kind=6∨¬x.kind=6),True:=fun _=>trivial
  by_cases q6:x.kind=6
  ·rcases q18 with q | q
   ·simp only [go_sem,q,q6]
    refine qQ (k72 _ _ ka) ?_
    cases hk:isK ka
    ·simp only [go_sem]
     exact qX (kp _ _) ⟨by simp [],rfl,rfl⟩
    ·simp only [go_sem]
     exact qX (kp _ _) ⟨by simp [],rfl,rfl⟩
   ·simp only [go_sem,q,q6]
    refine qQ (k72 _ _ ka) ?_
    cases hk:isK ka
    ·simp only [go_sem]
     exact qX (kp _ _) ⟨by simp [],rfl,rfl⟩
    ·simp only [go_sem]
     exact qX (kp _ _) ⟨by simp [],rfl,rfl⟩
  ·rcases q18 with q | q
   ·simp only [go_sem,q,q6]
    exact qX (kp _ _) ⟨by simp [],rfl,rfl⟩
   ·simp only [go_sem,q,q6]
    exact qX (kp _ _) ⟨by simp [],rfl,rfl⟩
 have n18:¬x.op=18:=fun h=>q18 (.inl h)
 have n19:¬x.op=19:=fun h=>q18 (.inr h)
 by_cases q20:x.op=20
 ·by_cases q7:x.kind=7
  ·by_cases qa:ka=7
   ·simp only [go_sem,q20,q7,qa]
    exact qX (kp _ _) ⟨by simp [],rfl,rfl⟩
   ·simp only [go_sem,q20,q7,qa]
    exact qX (kp _ _) ⟨by simp [],rfl,rfl⟩
  ·simp only [go_sem,q20,q7]
   exact qX (kp _ _) ⟨by simp [],rfl,rfl⟩
 by_cases q21:x.op=21∨x.op=22
 ·by_cases q6:x.kind=6
  ·by_cases qa:ka=7
   ·rcases q21 with q | q
    ·simp only [go_sem,q,q6,qa]
     exact qX (kp _ _) ⟨by simp [],rfl,rfl⟩
    ·simp only [go_sem,q,q6,qa]
     exact qX (kp _ _) ⟨by simp [],rfl,rfl⟩
   ·rcases q21 with q | q
    ·simp only [go_sem,q,q6,qa]
     exact qX (kp _ _) ⟨by simp [],rfl,rfl⟩
    ·simp only [go_sem,q,q6,qa]
     exact qX (kp _ _) ⟨by simp [],rfl,rfl⟩
  ·rcases q21 with q | q
   ·simp only [go_sem,q,q6]
    exact qX (kp _ _) ⟨by simp [],rfl,rfl⟩
   ·simp only [go_sem,q,q6]
    exact qX (kp _ _) ⟨by simp [],rfl,rfl⟩
 have n21:¬x.op=21:=fun h=>q21 (.inl h)
 have n22:¬x.op=22:=fun h=>q21 (.inr h)
 simp only [go_sem,n18,n19,q20,n21,n22]
 refine qQ (k72 _ _ x.kind) ?_
 cases hk:isK x.kind
 ·simp only [go_sem]
  exact qX (kp _ _) ⟨by simp [],rfl,rfl⟩
 ·by_cases qa:ka=x.kind
  ·simp only [go_sem,qa]
   exact qX (kp _ _) ⟨by simp [],rfl,rfl⟩
  ·simp only [go_sem,qa]
   exact qX (kp _ _) ⟨by simp [],rfl,rfl⟩
theorem places_a {x:Xp}{i:Int}(h:placesB x i=true)(h1:arityV x.op=1∨arityV x.op=2):0≤x.a∧x.a < i:=by
 unfold placesB at h
 rcases h1 with e | e
 ·rw [e] at h
  simp [aheadB] at h
  exact h.1
 ·rw [e] at h
  simp [aheadB] at h
  exact h.1
theorem places_b {x:Xp}{i:Int}(h:placesB x i=true)(h1:arityV x.op=2):0≤x.b∧x.b < i:=by
 unfold placesB at h
 rw [h1] at h
 simp [aheadB] at h
 exact h.2
theorem arity_cases (op:Int):arityV op=0∨arityV op=1∨arityV op=2∨arityV op = -1:=by
 unfold arityV
 split
 ·exact .inl rfl
 split
 ·exact .inr (.inl rfl)
 split
 ·exact .inr (.inr (.inl rfl))
 ·exact .inr (.inr (.inr rfl))
theorem k99 (p:Pg)(i:Nat)(hp:p.rd F)(hold:Old F M)(hi:i < p.exprs.length):CallsA Tryz.prog 99 [p.val,.int .i64 i] F M (Same F M (.bool (exprB p.vars.length p.exprs i p.exprs[i]))):=by
 refine qZ hm Tryz.func99 e99 (Nat.le_of_ble_eq_true rfl) ?_
 have hi0:(0:Int)≤i:=by omega
 have hil:(i:Int) < p.exprs.length:=by omega
 simp only [c99,go_sem]
 intro r hF hM
 obtain ⟨b,o,cs,ea,hb,d1,d2,d3⟩:=xp_at F (M.upd r ⟨p.cs,153,7⟩) hp (hold.upd hF) hi
 have hpl:=fun M hold=>k153 F M p i hp hold hi
 generalize p.exprs[i]=x at *
 simp only [go_sem,ea,hi0,hil,Int.toNat_natCast,hb,d1,d2]
 intro r5 hF5 hM5
 have g5:=wV hM5
 have kp:∀e e',Keep M ((M.upd r e).upd r5 e'):=fun e e'=>((Keep.refl M).new hM).new g5.2.2
 have oo:∀e e',Old F ((M.upd r e).upd r5 e'):=fun e e'=>(hold.upd hF).upd hF5
 simp only [go_sem,g5]
 refine qQ (hpl _ (oo _ _)) ?_
 unfold exprB
 cases hq:placesB x i
 ·simp only [go_sem]
  exact qX (kp _ _) ⟨by simp,rfl,rfl⟩
 simp only [go_sem]
 refine qQ (k154 _ _ x.op) ?_
 rcases arity_cases x.op with a | a | a | a
 ·simp only [go_sem,g5,a]
  refine qQ (k155 _ _ p x) ?_
  simp only [go_sem]
  exact qX (kp _ _) ⟨by simp,rfl,rfl⟩
 ·have ha:=places_a hq (.inl a)
  by_cases hn:x.n=0
  ·simp only [go_sem,g5,a,hn]
   refine qQ (k156 _ _ p x hp (oo _ _) ha.1 (by omega)) ?_
   simp only [go_sem]
   exact qX (kp _ _) ⟨by simp [],rfl,rfl⟩
  ·simp only [go_sem,a,hn]
   exact qX (kp _ _) ⟨by simp [],rfl,rfl⟩
 ·have ha:=places_a hq (.inr a)
  have hb:=places_b hq a
  by_cases hn:x.n=0
  ·simp only [go_sem,g5,a,hn]
   refine qQ (k157 _ _ p x hp (oo _ _) ha.1 (by omega) hb.1 (by omega)) ?_
   simp only [go_sem]
   exact qX (kp _ _) ⟨by simp [],rfl,rfl⟩
  ·simp only [go_sem,a,hn]
   exact qX (kp _ _) ⟨by simp [],rfl,rfl⟩
 ·unfold placesB at hq
  rw [a] at hq
  simp at hq
theorem k160 (p:Pg)(e k:Int)(hp:p.rd F)(hold:Old F M):CallsA Tryz.prog 160 [p.val,.int .i64 e,.int .i64 k] F M (Same F M (.bool (isEB p.exprs e k))):=by
 refine qZ hm Tryz.func160 e160 (Nat.le_of_ble_eq_true rfl) ?_
 simp only [c160,go_sem]
 intro r hF hM
 have oo:∀e,Old F (M.upd r e):=fun e=>hold.upd hF
 unfold isEB
 by_cases h0:0≤e
 ·by_cases h1:e < p.exprs.length
  ·simp only [go_sem,h0,h1]
   refine qQ (k209 _ _ p e hp (oo _) h0 h1) ?_
   simp only [go_sem]
   exact qV hM (qW ⟨by simp [],rfl,rfl⟩)
  ·simp only [go_sem,h0,h1]
   exact qV hM (qW ⟨by simp [],rfl,rfl⟩)
 ·simp only [go_sem,h0]
  exact qV hM (qW ⟨by simp [],rfl,rfl⟩)
theorem k97 (big:Bool)(ptr:Int):CallsA Tryz.prog 97 [.agg #[.bool big,.int .i64 ptr]] F M (Same F M (.bool (decide (ptr=2) || decide (ptr=4)))):=by
 refine qZ hm Tryz.func97 e97 (Nat.le_of_ble_eq_true rfl) ?_
 simp only [c97,go_sem]
 intro r hF hM
 by_cases h2:ptr=2
 ·simp only [go_sem,h2]
  exact qV hM (qW ⟨by simp,rfl,rfl⟩)
 ·simp only [go_sem,h2]
  exact qV hM (qW ⟨by simp,rfl,rfl⟩)
def ixN (l:List Int)(p:Int→Bool)(u f:Value)(F0:Fz)(M0:Hp)(m:Nat)(σ:Env)(F:Fz)(M:Hp):Prop:=
 F=F0∧M=M0∧Ax.look σ 0=some u∧Ax.look σ 1=some f∧Ax.look σ 7=some (.int .i64 l.length)∧∃i:Nat,i+m=l.length∧Ax.look σ 8=some (.int .i64 i)∧l.any p=(l.drop i).any p
theorem k152 (ad:Option Addr)(cap:Nat)(l:List Int)(g:Nat)(ca:List Value)(p:Int→Bool)(h:intR F M ad cap l)
  (hp:∀v∈l,CallsA Tryz.prog g ([.int .i64 v]++ca) F M (Same F M (.bool (p v)))) :
  CallsA Tryz.prog 152 [.slice ad l.length cap,.func (.func g) #[] ca.toArray] F M fun r F' M'=>F'=F∧M'=M∧∃z:Int,r=.int .i64 z∧(0≤z↔l.any p=true):=by
 refine qZ hm Tryz.func152 e152 (Nat.le_of_ble_eq_true rfl) ?_
 simp only [c152,go_sem]
 refine loop_of (ixN l p (.slice ad l.length cap) (.func (.func g) #[] ca.toArray) F M) l.length ?_ ?_
 ·exact ⟨rfl,rfl,by simp only [go_sem],by simp only [go_sem],by simp only [go_sem],0,by omega,by simp only [go_sem] <;> rfl,rfl⟩
 rintro m σ F' M' ⟨rfl,rfl,h0,h1,h7,i,hi,h8,ha⟩
 by_cases hil:(i:Int) < l.length
 ·have hi0:(0:Int)≤i:=by omega
  have hil':i < l.length:=by omega
  have hle:=h.1
  have ei:IntKind.i64.wrap ((i:Int)+1)=i+1:=w64 (by omega) (by omega)
  obtain ⟨b,o,cs,rfl,hb,d3⟩:=gH h hil'
  rw [List.drop_eq_getElem_cons hil',List.any_cons] at ha
  have hq:=hp l[i] (List.getElem_mem _)
  generalize l[i]=v at *
  simp only [go_sem,h0,h1,h7,h8,hil,hi0,Int.toNat_natCast,hb,d3]
  refine qQ hq ?_
  cases hv:p v
  ·rw [hv,Bool.false_or] at ha
   simp only [go_sem,h8,ei]
   exact ⟨m - 1,by omega,rfl,rfl,by simp only [go_sem,h0],by simp only [go_sem,h1],by simp only [go_sem,h7],i+1,by omega,by simp only [go_sem]; rfl,ha⟩
  ·rw [hv,Bool.true_or] at ha
   simp only [go_sem]
   exact qW ⟨rfl,rfl,_,rfl,by simp [ha]⟩
 ·have:l.drop i=[]:=List.drop_eq_nil_of_le (by omega)
  rw [this] at ha
  simp only [go_sem,h7,h8,hil]
  exact qW ⟨rfl,rfl,_,rfl,by rw [ha]; simp⟩
theorem k98 (ad:Option Addr)(cap:Nat)(l:List Int)(g:Nat)(ca:List Value)(p:Int→Bool)(h:intR F M ad cap l)
  (hp:∀v∈l,CallsA Tryz.prog g ([.int .i64 v]++ca) F M (Same F M (.bool (p v)))) :
  CallsA Tryz.prog 98 [.slice ad l.length cap,.func (.func g) #[] ca.toArray] F M (Same F M (.bool (l.any p))):=by
 refine qZ hm Tryz.func98 e98 (Nat.le_of_ble_eq_true rfl) ?_
 simp only [c98,go_sem]
 refine qY (k152 F M ad cap l g ca p h hp) ?_
 rintro r G M' ⟨hG,rfl,z,rfl,hz⟩
 rw [hG]
 refine ⟨(fun h=>by cases h),?_⟩
 simp only [go_sem]
 have:decide (0≤z)=l.any p:=by
  cases hq:l.any p
  ·rw [hq] at hz; simp at hz; simp; omega
  ·simp [hz.2 hq]
 exact qW ⟨by rw [←this],rfl,rfl⟩
def ixM (l:List Sm)(p:Sm→Bool)(u f:Value)(F0:Fz)(M0:Hp)(m:Nat)(σ:Env)(F:Fz)(M:Hp):Prop:=
 F=F0∧M=M0∧Ax.look σ 0=some u∧Ax.look σ 1=some f∧Ax.look σ 7=some (.int .i64 l.length)∧∃i:Nat,i+m=l.length∧Ax.look σ 8=some (.int .i64 i)∧l.any p=(l.drop i).any p
theorem k158 (ad:Option Addr)(cap:Nat)(l:List Sm)(g:Nat)(ca:List Value)(p:Sm→Bool)(h:RdG 7 Sm.cs F M (.slice ad l.length cap) l)
  (hp:∀v∈l,CallsA Tryz.prog g ([v.val]++ca) F M (Same F M (.bool (p v)))) :
  CallsA Tryz.prog 158 [.slice ad l.length cap,.func (.func g) #[] ca.toArray] F M fun r F' M'=>F'=F∧M'=M∧∃z:Int,r=.int .i64 z∧(0≤z↔l.any p=true):=by
 refine qZ hm Tryz.func158 e158 (Nat.le_of_ble_eq_true rfl) ?_
 simp only [c158,go_sem]
 refine loop_of (ixM l p (.slice ad l.length cap) (.func (.func g) #[] ca.toArray) F M) l.length ?_ ?_
 ·exact ⟨rfl,rfl,by simp only [go_sem],by simp only [go_sem],by simp only [go_sem],0,by omega,by simp only [go_sem] <;> rfl,rfl⟩
 rintro m σ F' M' ⟨rfl,rfl,h0,h1,h7,i,hi,h8,ha⟩
 by_cases hil:(i:Int) < l.length
 ·have hi0:(0:Int)≤i:=by omega
  have hil':i < l.length:=by omega
  have hle:=h.1
  have ei:IntKind.i64.wrap ((i:Int)+1)=i+1:=w64 (by omega) (by omega)
  obtain ⟨b,o,cs,rfl,hb,d1,d2⟩:=RdG.at h hil'
  rw [List.drop_eq_getElem_cons hil',List.any_cons] at ha
  have hq:=hp l[i] (List.getElem_mem _)
  generalize l[i]=v at *
  simp only [go_sem,h0,h1,h7,h8,hil,hi0,Int.toNat_natCast,hb,d1,d2]
  refine qQ hq ?_
  cases hv:p v
  ·rw [hv,Bool.false_or] at ha
   simp only [go_sem,h8,ei]
   exact ⟨m - 1,by omega,rfl,rfl,by simp only [go_sem,h0],by simp only [go_sem,h1],by simp only [go_sem,h7],i+1,by omega,by simp only [go_sem]; rfl,ha⟩
  ·rw [hv,Bool.true_or] at ha
   simp only [go_sem]
   exact qW ⟨rfl,rfl,_,rfl,by simp [ha]⟩
 ·have:l.drop i=[]:=List.drop_eq_nil_of_le (by omega)
  rw [this] at ha
  simp only [go_sem,h7,h8,hil]
  exact qW ⟨rfl,rfl,_,rfl,by rw [ha]; simp⟩
theorem k100 (ad:Option Addr)(cap:Nat)(l:List Sm)(g:Nat)(ca:List Value)(p:Sm→Bool)(h:RdG 7 Sm.cs F M (.slice ad l.length cap) l)
  (hp:∀v∈l,CallsA Tryz.prog g ([v.val]++ca) F M (Same F M (.bool (p v)))) :
  CallsA Tryz.prog 100 [.slice ad l.length cap,.func (.func g) #[] ca.toArray] F M (Same F M (.bool (l.any p))):=by
 refine qZ hm Tryz.func100 e100 (Nat.le_of_ble_eq_true rfl) ?_
 simp only [c100,go_sem]
 refine qY (k158 F M ad cap l g ca p h hp) ?_
 rintro r G M' ⟨hG,rfl,z,rfl,hz⟩
 rw [hG]
 refine ⟨(fun h=>by cases h),?_⟩
 simp only [go_sem]
 have:decide (0≤z)=l.any p:=by
  cases hq:l.any p
  ·rw [hq] at hz; simp at hz; simp; omega
  ·simp [hz.2 hq]
 exact qW ⟨by rw [←this],rfl,rfl⟩
theorem k96 (n:Int):CallsA Tryz.prog 96 [.int .i64 n] F M (Same F M (.bool (decide (n < 1) || decide (32 < n)))):=by
 refine qZ hm Tryz.func96 e96 (Nat.le_of_ble_eq_true rfl) ?_
 by_cases h:n < 1
 ·simp only [c96,go_sem,h]
  exact qW ⟨by simp,rfl,rfl⟩
 ·simp only [c96,go_sem,h]
  exact qW ⟨by simp,rfl,rfl⟩
theorem posN {α:Type}{l:List α}(h:(0:Int) < l.length):0 < l.length:=by omega
theorem lenN {α:Type}{l:List α}(h:¬(0:Int) < l.length):l=[]:=by cases l <;> simp_all
theorem k159 (s:Sm):CallsA Tryz.prog 159 [s.val] F M (Same F M (.bool (jY s))):=by
 refine qZ hm Tryz.func159 e159 (Nat.le_of_ble_eq_true rfl) ?_
 simp only [c159,go_sem]
 intro r1 hF1 hM1
 simp only [go_sem]
 intro r3 hF3 hM3
 have g3:=wV hM3
 have kp:∀e e',Keep M ((M.upd r1 e).upd r3 e'):=fun e e'=>((Keep.refl M).new hM1).new g3.2.2
 by_cases q1:s.op=1
 ·by_cases he:(0:Int) < s.els.length
  ·simp only [go_sem,g3,q1,he]
   exact qX (kp _ _) ⟨by simp [jY,bareTo,yV,bareE,bareN,q1,posN he],rfl,rfl⟩
  by_cases hb:(0:Int) < s.body.length
  ·simp only [go_sem,g3,q1,he,hb]
   exact qX (kp _ _) ⟨by simp [jY,bareTo,yV,bareE,bareN,q1,lenN he,posN hb],rfl,rfl⟩
  by_cases h_n:s.n=0
  rotate_left
  ·simp only [go_sem,g3,q1,he,hb,h_n]
   exact qX (kp _ _) ⟨by simp [jY,bareTo,yV,bareE,bareN,q1,h_n,lenN he,lenN hb],rfl,rfl⟩
  simp only [go_sem,g3,q1,he,hb,h_n]
  try simp only [setH,go_sem,g3,q1,he,hb,h_n]
  exact qX (kp _ _) ⟨by simp [jY,bareTo,yV,bareE,bareN,q1,h_n,lenN he,lenN hb],rfl,rfl⟩
 by_cases q2:s.op=2
 ·by_cases he:(0:Int) < s.els.length
  ·simp only [go_sem,g3,q2,he]
   exact qX (kp _ _) ⟨by simp [jY,bareTo,yV,bareE,bareN,q2,posN he],rfl,rfl⟩
  by_cases hb:(0:Int) < s.body.length
  ·simp only [go_sem,g3,q2,he,hb]
   exact qX (kp _ _) ⟨by simp [jY,bareTo,yV,bareE,bareN,q2,lenN he,posN hb],rfl,rfl⟩
  by_cases h_e:s.e=0
  rotate_left
  ·simp only [go_sem,g3,q2,he,hb,h_e]
   exact qX (kp _ _) ⟨by simp [jY,bareTo,yV,bareE,bareN,q2,h_e,lenN he,lenN hb],rfl,rfl⟩
  by_cases h_n:s.n=0
  rotate_left
  ·simp only [go_sem,g3,q2,he,hb,h_e,h_n]
   exact qX (kp _ _) ⟨by simp [jY,bareTo,yV,bareE,bareN,q2,h_e,h_n,lenN he,lenN hb],rfl,rfl⟩
  simp only [go_sem,g3,q2,he,hb,h_e,h_n]
  try simp only [setH,go_sem,g3,q1,q2,he,hb,h_e,h_n]
  exact qX (kp _ _) ⟨by simp [jY,bareTo,yV,bareE,bareN,q2,h_e,h_n,lenN he,lenN hb],rfl,rfl⟩
 by_cases q3:s.op=3
 ·by_cases he:(0:Int) < s.els.length
  ·simp only [go_sem,g3,q3,he]
   exact qX (kp _ _) ⟨by simp [jY,bareTo,yV,bareE,bareN,q3,posN he],rfl,rfl⟩
  by_cases hb:(0:Int) < s.body.length
  ·simp only [go_sem,g3,q3,he,hb]
   exact qX (kp _ _) ⟨by simp [jY,bareTo,yV,bareE,bareN,q3,lenN he,posN hb],rfl,rfl⟩
  by_cases h_kind:s.kind=0
  rotate_left
  ·simp only [go_sem,g3,q3,he,hb,h_kind]
   exact qX (kp _ _) ⟨by simp [jY,bareTo,yV,bareE,bareN,q3,h_kind,lenN he,lenN hb],rfl,rfl⟩
  by_cases h_e:s.e=0
  rotate_left
  ·simp only [go_sem,g3,q3,he,hb,h_kind,h_e]
   exact qX (kp _ _) ⟨by simp [jY,bareTo,yV,bareE,bareN,q3,h_kind,h_e,lenN he,lenN hb],rfl,rfl⟩
  simp only [go_sem,g3,q3,he,hb,h_kind,h_e]
  try simp only [setH,go_sem,g3,q1,q2,q3,he,hb,h_kind,h_e]
  exact qX (kp _ _) ⟨by simp [jY,bareTo,yV,bareE,bareN,q3,h_kind,h_e,lenN he,lenN hb],rfl,rfl⟩
 by_cases q4:s.op=4
 ·by_cases he:(0:Int) < s.els.length
  ·simp only [go_sem,g3,q4,he]
   exact qX (kp _ _) ⟨by simp [jY,bareTo,yV,bareE,bareN,q4,posN he],rfl,rfl⟩
  by_cases hb:(0:Int) < s.body.length
  ·simp only [go_sem,g3,q4,he,hb]
   exact qX (kp _ _) ⟨by simp [jY,bareTo,yV,bareE,bareN,q4,lenN he,posN hb],rfl,rfl⟩
  by_cases h_to:s.to=0
  rotate_left
  ·simp only [go_sem,g3,q4,he,hb,h_to]
   exact qX (kp _ _) ⟨by simp [jY,bareTo,yV,bareE,bareN,q4,h_to,lenN he,lenN hb],rfl,rfl⟩
  by_cases h_kind:s.kind=0
  rotate_left
  ·simp only [go_sem,g3,q4,he,hb,h_to,h_kind]
   exact qX (kp _ _) ⟨by simp [jY,bareTo,yV,bareE,bareN,q4,h_to,h_kind,lenN he,lenN hb],rfl,rfl⟩
  by_cases h_n:s.n=0
  rotate_left
  ·simp only [go_sem,g3,q4,he,hb,h_to,h_kind,h_n]
   exact qX (kp _ _) ⟨by simp [jY,bareTo,yV,bareE,bareN,q4,h_to,h_kind,h_n,lenN he,lenN hb],rfl,rfl⟩
  simp only [go_sem,g3,q4,he,hb,h_to,h_kind,h_n]
  try simp only [setH,go_sem,g3,q1,q2,q3,q4,he,hb,h_to,h_kind,h_n]
  exact qX (kp _ _) ⟨by simp [jY,bareTo,yV,bareE,bareN,q4,h_to,h_kind,h_n,lenN he,lenN hb],rfl,rfl⟩
 by_cases q5:s.op=5
 ·by_cases he:(0:Int) < s.els.length <;> by_cases hb:(0:Int) < s.body.length
  all_goals
   by_cases h_to:s.to=0
   rotate_left
   ·simp only [go_sem,g3,q5,he,hb,h_to]
    exact qX (kp _ _) ⟨by simp [jY,bareTo,yV,bareE,bareN,q5,h_to],rfl,rfl⟩
   by_cases h_kind:s.kind=0
   rotate_left
   ·simp only [go_sem,g3,q5,he,hb,h_to,h_kind]
    exact qX (kp _ _) ⟨by simp [jY,bareTo,yV,bareE,bareN,q5,h_to,h_kind],rfl,rfl⟩
   by_cases h_n:s.n=0
   rotate_left
   ·simp only [go_sem,g3,q5,he,hb,h_to,h_kind,h_n]
    exact qX (kp _ _) ⟨by simp [jY,bareTo,yV,bareE,bareN,q5,h_to,h_kind,h_n],rfl,rfl⟩
   simp only [go_sem,g3,q5,he,hb,h_to,h_kind,h_n]
   exact qX (kp _ _) ⟨by simp [jY,bareTo,yV,bareE,bareN,q5,h_to,h_kind,h_n],rfl,rfl⟩
 by_cases q6:s.op=6
 ·by_cases he:(0:Int) < s.els.length
  ·simp only [go_sem,g3,q6,he]
   exact qX (kp _ _) ⟨by simp [jY,bareTo,yV,bareE,bareN,q6,posN he],rfl,rfl⟩
  by_cases hb:(0:Int) < s.body.length
  all_goals
   by_cases h_to:s.to=0
   rotate_left
   ·simp only [go_sem,g3,q6,he,hb,h_to]
    exact qX (kp _ _) ⟨by simp [jY,bareTo,yV,bareE,bareN,q6,h_to,lenN he],rfl,rfl⟩
   by_cases h_kind:s.kind=0
   rotate_left
   ·simp only [go_sem,g3,q6,he,hb,h_to,h_kind]
    exact qX (kp _ _) ⟨by simp [jY,bareTo,yV,bareE,bareN,q6,h_to,h_kind,lenN he],rfl,rfl⟩
   by_cases h_n:s.n=0
   rotate_left
   ·simp only [go_sem,g3,q6,he,hb,h_to,h_kind,h_n]
    exact qX (kp _ _) ⟨by simp [jY,bareTo,yV,bareE,bareN,q6,h_to,h_kind,h_n,lenN he],rfl,rfl⟩
   simp only [go_sem,g3,q6,he,hb,h_to,h_kind,h_n]
   exact qX (kp _ _) ⟨by simp [jY,bareTo,yV,bareE,bareN,q6,h_to,h_kind,h_n,lenN he],rfl,rfl⟩
 by_cases he:(0:Int) < s.els.length
 ·simp only [go_sem,g3,q1,q2,q3,q4,q5,q6,he]
  exact qX (kp _ _) ⟨by simp [jY,bareTo,yV,bareE,bareN,q1,q2,q3,q4,q5,q6,posN he],rfl,rfl⟩
 by_cases hb:(0:Int) < s.body.length
 ·simp only [go_sem,g3,q1,q2,q3,q4,q5,q6,he,hb]
  exact qX (kp _ _) ⟨by simp [jY,bareTo,yV,bareE,bareN,q1,q2,q3,q4,q5,q6,lenN he,posN hb],rfl,rfl⟩
 by_cases h_to:s.to=0
 rotate_left
 ·simp only [go_sem,g3,q1,q2,q3,q4,q5,q6,he,hb,h_to]
  exact qX (kp _ _) ⟨by simp [jY,bareTo,yV,bareE,bareN,q1,q2,q3,q4,q5,q6,h_to,lenN he,lenN hb],rfl,rfl⟩
 by_cases h_kind:s.kind=0
 rotate_left
 ·simp only [go_sem,g3,q1,q2,q3,q4,q5,q6,he,hb,h_to,h_kind]
  exact qX (kp _ _) ⟨by simp [jY,bareTo,yV,bareE,bareN,q1,q2,q3,q4,q5,q6,h_to,h_kind,lenN he,lenN hb],rfl,rfl⟩
 by_cases h_e:s.e=0
 rotate_left
 ·simp only [go_sem,g3,q1,q2,q3,q4,q5,q6,he,hb,h_to,h_kind,h_e]
  exact qX (kp _ _) ⟨by simp [jY,bareTo,yV,bareE,bareN,q1,q2,q3,q4,q5,q6,h_to,h_kind,h_e,lenN he,lenN hb],rfl,rfl⟩
 by_cases h_n:s.n=0
 rotate_left
 ·simp only [go_sem,g3,q1,q2,q3,q4,q5,q6,he,hb,h_to,h_kind,h_e,h_n]
  exact qX (kp _ _) ⟨by simp [jY,bareTo,yV,bareE,bareN,q1,q2,q3,q4,q5,q6,h_to,h_kind,h_e,h_n,lenN he,lenN hb],rfl,rfl⟩
 simp only [go_sem,g3,q1,q2,q3,q4,q5,q6,he,hb,h_to,h_kind,h_e,h_n]
 try simp only [setH,go_sem,g3,q1,q2,q3,q4,q5,q6,he,hb,h_to,h_kind,h_e,h_n]
 exact qX (kp _ _) ⟨by simp [jY,bareTo,yV,bareE,bareN,q1,q2,q3,q4,q5,q6,h_to,h_kind,h_e,h_n,lenN he,lenN hb],rfl,rfl⟩
theorem k102 (p:Pg)(s:Sm)(hp:p.rd F)(hold:Old F M):CallsA Tryz.prog 102 [p.val,s.val] F M (Same F M (.bool (stmtB p.vars.length p.news.length p.exprs s))):=by
 refine qZ hm Tryz.func102 e102 (Nat.le_of_ble_eq_true rfl) ?_
 simp only [c102,go_sem]
 intro r hF hM
 simp only [go_sem]
 intro r3 hF3 hM3
 have g3:=wV hM3
 have kp:∀e e',Keep M ((M.upd r e).upd r3 e'):=fun e e'=>((Keep.refl M).new hM).new g3.2.2
 have oo:∀e e',Old F ((M.upd r e).upd r3 e'):=fun e e'=>(hold.upd hF).upd hF3
 simp only [go_sem]
 refine qQ (k159 _ _ s) ?_
 unfold stmtB
 cases hq:jY s
 ·simp only [go_sem]
  exact qX (kp _ _) ⟨by simp,rfl,rfl⟩
 by_cases q1:s.op=1
 ·simp only [go_sem,g3,q1]
  refine qQ (k160 _ _ p s.to 7 hp (oo _ _)) ?_
  cases h1:isEB p.exprs s.to 7
  ·simp only [go_sem]
   exact qX (kp _ _) ⟨by simp,rfl,rfl⟩
  simp only [go_sem]
  refine qQ (k39 _ _ s.kind) ?_
  cases h2:isS s.kind
  ·simp only [go_sem]
   exact qX (kp _ _) ⟨by simp,rfl,rfl⟩
  simp only [go_sem,g3]
  refine qQ (k160 _ _ p s.e s.kind hp (oo _ _)) ?_
  simp only [go_sem]
  exact qX (kp _ _) ⟨by simp,rfl,rfl⟩
 by_cases q2:s.op=2
 ·simp only [go_sem,g3,q2]
  refine qQ (k160 _ _ p s.to 7 hp (oo _ _)) ?_
  cases h1:isEB p.exprs s.to 7
  ·simp only [go_sem]
   exact qX (kp _ _) ⟨by simp,rfl,rfl⟩
  simp only [go_sem]
  refine qQ (k72 _ _ s.kind) ?_
  simp only [go_sem]
  exact qX (kp _ _) ⟨by simp,rfl,rfl⟩
 by_cases q3:s.op=3
 ·have hf:=hp.few
  have ew:IntKind.i64.wrap ((p.vars.length:Int)+p.news.length)=p.vars.length+p.news.length:=w64 (by omega) (by omega)
  simp only [go_sem,g3,q3]
  refine qQ (k160 _ _ p s.to 7 hp (oo _ _)) ?_
  cases h1:isEB p.exprs s.to 7
  ·simp only [go_sem]
   exact qX (kp _ _) ⟨by simp,rfl,rfl⟩
  by_cases h2:(p.vars.length:Int) < s.n
  ·simp only [go_sem,g3,h2,ew]
   exact qX (kp _ _) ⟨by simp [],rfl,rfl⟩
  ·simp only [go_sem,g3,h2]
   exact qX (kp _ _) ⟨by simp [],rfl,rfl⟩
 by_cases q4:s.op=4
 ·simp only [go_sem,g3,q4]
  refine qQ (k160 _ _ p s.e 7 hp (oo _ _)) ?_
  simp only [go_sem]
  exact qX (kp _ _) ⟨by simp,rfl,rfl⟩
 by_cases q56:s.op=5∨s.op=6
 ·rcases q56 with q | q
  ·simp only [go_sem,g3,q]
   refine qQ (k160 _ _ p s.e 6 hp (oo _ _)) ?_
   simp only [go_sem]
   exact qX (kp _ _) ⟨by simp [],rfl,rfl⟩
  ·simp only [go_sem,g3,q]
   refine qQ (k160 _ _ p s.e 6 hp (oo _ _)) ?_
   simp only [go_sem]
   exact qX (kp _ _) ⟨by simp [],rfl,rfl⟩
 have n5:¬s.op=5:=fun h=>q56 (.inl h)
 have n6:¬s.op=6:=fun h=>q56 (.inr h)
 simp only [go_sem,q1,q2,q3,q4,n5,n6]
 exact qX (kp _ _) ⟨by simp [],rfl,rfl⟩
theorem k174 (n:Nat)(hn:n≤100000):CallsA Tryz.prog 174 [.slice none 0 0,.int .i64 n] F M (rowR 1 intC 3 ([]:List Int) F M):=by
 refine qZ hm Tryz.func174 e174 (Nat.le_of_ble_eq_true rfl) ?_
 have h0:¬(n:Int) < 0:=by omega
 have es:IntKind.i64.wrap ((n:Int) - 0)=n:=w64 (by omega) (by omega)
 by_cases hp:(0:Int) < n
 ·have hn0:((0:Int)≤0∧(0:Int)≤((n:Nat):Int)):=by omega
  simp only [c174,go_sem,h0,es,hp]
  refine gzK_of (by omega) (by simp only [maxLen]; omega) (by omega) ?_
  intro r cap hF hM hc1 hc2
  have hcc:((0:Int)≤n∧n≤cap):=⟨by omega,hc1⟩
  simp only [go_sem,hcc]
  have hw:=Wk.short (F:=F) (c:=[]) (Hp.qJ M r ⟨(List.replicate n [Value.int IntKind.i64 0]).flatten,3,cap * 1⟩) (List.nil_prefix)
  rw [Hp.wG] at hw
  exact ⟨F,_,hw,rfl,.inr ⟨r,cap,hF,hM,rfl,⟨Nat.zero_le _,hc2⟩,rfl⟩⟩
 ·simp only [c174,go_sem,h0,es,hp]
  exact qW ⟨rfl,.inl ⟨rfl,rfl,rfl⟩⟩
structure CcI (ls:List Lz)(u:Value)(F0:Fz)(M0:Hp)(m:Nat)(σ:Env)(F:Fz)(M:Hp):Prop where
 ff:F=F0
 mm:M=M0
 h0:Ax.look σ 0=some u
 st:∃i z:Nat,i+m=ls.length∧Ax.look σ 11=some (.int .i64 i)∧Ax.look σ 9=some u∧Ax.look σ 10=some (.int .i64 ls.length)∧Ax.look σ 3=some (.int .i64 z)∧z≤i * 5000
structure CdI (ls:List Lz)(u:Value)(F0:Fz)(M0:Hp)(m:Nat)(σ:Env)(F:Fz)(M:Hp):Prop where
 ff:F=F0
 kp:Keep M0 M
 old:Old F0 M
 h0:Ax.look σ 0=some u
 h25:Ax.look σ 25=some u
 h26:Ax.look σ 26=some (.int .i64 ls.length)
 st:∃(i:Nat) (w:Value),i+m=ls.length∧Ax.look σ 27=some (.int .i64 i)∧Ax.look σ 6=some w∧yY 1 intC 3 F0 M0 M w ((ls.take i).flatMap (·.2.2))
theorem flat_few {ls:List Lz}(h:∀x∈ls,x.2.2.length≤5000):(ls.flatMap (·.2.2)).length≤ls.length * 5000:=by
 induction ls with
 | nil=>simp
 | cons x l ih=>
  have:=ih (fun y hy=>h y (by simp [hy]))
  have:=h x (by simp)
  simp only [List.flatMap_cons,List.length_append,List.length_cons]; omega
theorem k130 (ad:Option Addr)(cap:Nat)(ls:List Lz)(hold:Old F M)(h:RdG 1 slC F M (.slice ad ls.length cap) ls)(hr:∀x∈ls,intR F M x.1 x.2.1 x.2.2∧x.2.2.length≤5000∧(x.1=none→x.2.1=0))(hn:ls.length≤5) :
  CallsA Tryz.prog 130 [.slice ad ls.length cap] F M (rowR 1 intC 3 (ls.flatMap (·.2.2)) F M):=by
 refine qZ hm Tryz.func130 e130 (Nat.le_of_ble_eq_true rfl) ?_
 simp only [c130,go_sem]
 refine loop_of (CcI ls (.slice ad ls.length cap) F M) ls.length ?_ ?_
 ·exact ⟨rfl,rfl,by simp only [go_sem],0,0,by omega,by simp only [go_sem] <;> rfl,by simp only [go_sem],by simp only [go_sem],by simp only [go_sem] <;> rfl,by omega⟩
 rintro m σ F' M' s
 obtain ⟨i,z,hi,h11,h9,h10,h3,hz⟩:=s.st
 rw [s.ff,s.mm]
 by_cases hil:(i:Int) < ls.length
 ·have hi0:(0:Int)≤i:=by omega
  have hil':i < ls.length:=by omega
  have ei:IntKind.i64.wrap ((i:Int)+1)=i+1:=w64 (by omega) (by omega)
  obtain ⟨b,o,cs,ea,hb,d1,d2⟩:=RdG.at h hil'
  have d3:=one_row d2
  obtain ⟨hx1,hx2,hx3⟩:=hr ls[i] (List.getElem_mem _)
  generalize ls[i]=x at *
  obtain ⟨xa,xc,xl⟩:=x
  simp only [] at d3 hx1 hx2 hx3
  have ez:IntKind.i64.wrap ((z:Int)+xl.length)=z+xl.length:=w64 (by omega) (by omega)
  have hz0:¬(z:Int)+xl.length < 0:=by omega
  rw [ea] at h9
  simp only [go_sem,h9,h10,h11,h3,hil,hi0,Int.toNat_natCast,hb,d3,ez,ei,hz0]
  exact ⟨m - 1,by omega,rfl,rfl,by simp only [go_sem,s.h0],i+1,z+xl.length,by omega,by simp only [go_sem]; rfl,by simp only [go_sem,h9,ea],by simp only [go_sem,h10],by simp only [go_sem]; rfl,by omega⟩
 have hil':i=ls.length:=by omega
 simp only [go_sem,h10,h11,h3,hil]
 refine qY (k174 _ _ z (by omega)) ?_
 rintro w G M1 hq
 have mine:=hq.mine (Keep.refl M)
 obtain ⟨hG,le,kq,oq,aq,cq,rfl,rdq⟩:=hq.le wD (by simp)
 rw [hG]
 refine ⟨(fun h=>by cases h),?_⟩
 have h0:=s.h0
 simp only [go_sem,h0]
 refine loop_of (CdI ls (.slice ad ls.length cap) F M) ls.length ?_ ?_
 ·exact ⟨rfl,kq,oq hold,by simp only [go_sem,h0],by simp only [go_sem],by simp only [go_sem],0,_,by omega,by simp only [go_sem] <;> rfl,by simp only [go_sem]; rfl,by simpa using mine⟩
 clear mine rdq le oq kq hq h0 h11 h9 h10 h3
 clear s
 rintro m σ F' M' s
 obtain ⟨i,w,hi,h27,h6,mine⟩:=s.st
 obtain rfl:=s.ff
 by_cases hil:(i:Int) < ls.length
 rotate_left
 ·have:ls.take i=ls:=List.take_of_length_le (by omega)
  rw [this] at mine
  simp only [go_sem,s.h26,h27,h6,hil]
  exact mine.done s.kp
 have hi0:(0:Int)≤i:=by omega
 have hil':i < ls.length:=by omega
 have ei:IntKind.i64.wrap ((i:Int)+1)=i+1:=w64 (by omega) (by omega)
 obtain ⟨b,o,cs,ea,hb,d1,d2⟩:=RdG.at (h.keep s.kp s.old) hil'
 have d3:=one_row d2
 obtain ⟨hx1,hx2,hx3⟩:=hr ls[i] (List.getElem_mem _)
 have htk:(ls.take (i+1)).flatMap (·.2.2)=(ls.take i).flatMap (·.2.2)++ls[i].2.2:=by
  rw [List.take_succ_eq_append_getElem hil',List.flatMap_append]; simp
 have hlen:=flat_few (ls:=ls.take i) (fun x hx=>(hr x (List.mem_of_mem_take hx)).2.1)
 have hli:(ls.take i).length≤5:=by rw [List.length_take]; omega
 generalize ls[i]=x at *
 obtain ⟨xa,xc,xl⟩:=x
 simp only [] at d3 hx1 hx2 hx3 htk
 have h25:=s.h25
 rw [ea] at h25
 simp only [go_sem,h25,s.h26,h27,h6,hil,hi0,Int.toNat_natCast,hb,d3]
 refine apMG_any (xs:=(ls.take i).flatMap (·.2.2)) (ys:=xl) wD intC_plain (by decide) mine s.kp (RdG.src wD (hx1.keep s.kp s.old) hx3) (by omega) ?_
 rintro v' M5 hfr kp5 ho5 mine5
 rw [←htk] at mine5
 simp only [go_sem,h27,ei]
 exact ⟨m - 1,by omega,rfl,kp5,ho5 s.old,by simp only [go_sem,s.h0],by simp only [go_sem,h25,ea],by simp only [go_sem,s.h26],i+1,v',by omega,by simp only [go_sem]; rfl,by simp only [go_sem],mine5⟩
end Go.Proofs.Tryz.K
namespace Go.Proofs.Tryz.K
open Go Go.Ax Go.Proofs.Tryz.S
def seatStepC (st:List Sm)(k:Nat)(m:Nat)(s:Int):Option Nat:=if s=(m:Int)∧m < st.length then (seatC st k (bodyAt st m) (m+1)).bind (seatC st k (elsAt st m)) else none
theorem seatC_succ (st:List Sm)(k:Nat)(l:List Int)(m:Nat):seatC st (k+1) l m=l.foldlM (seatStepC st k) m:=rfl
def FrI (M M':Hp):Prop:=∀r x,M r=some x→¬x.elem=3→M' r=some x
theorem FrI.refl (M:Hp):FrI M M:=fun _ _ h _=>h
theorem FrI.trans {M M1 M2:Hp}(h:FrI M M1)(k:FrI M1 M2):FrI M M2:=fun r x hr hx=>k r x (h r x hr hx) hx
theorem FrI.keep {M M':Hp}(h:Keep M M'):FrI M M':=fun r x hr _=>h r x hr
def seatP (st:List Sm)(k:Nat)(l:List Int)(n:Nat)(F:Fz)(M0 M:Hp)(u:Value)(F':Fz)(M':Hp):Prop:=
 F'=F∧Keep M0 M'∧Old F M'∧FrI M M'∧((∃(w:Value) (ds:List Int),u=.tuple #[w,.bool true]∧yY 1 intC 3 F M0 M' w ds∧seatC st k l n=some ds.length)∨(seatC st k l n=none∧u=.tuple #[.slice none 0 0,.bool false]))
structure SeO (p:Pg)(k:Nat)(l:List Int)(ul:Value)(n:Nat)(r4:Nat)(F0:Fz)(M0 Me:Hp)(σ:Env)(F:Fz)(M:Hp):Prop where
 ff:F=F0
 kb:Keep M0 M
 old:Old F0 M
 fr:FrI Me M
 h3:Ax.look σ 3=some (.int .i64 (5 - k))
 h4:Ax.look σ 4=some (.pointer (some ⟨r4,0,none⟩))
 h22:Ax.look σ 22=some ul
 h23:Ax.look σ 23=some (.int .i64 l.length)
theorem SeO.ext {p:Pg}{k:Nat}{l:List Int}{ul:Value}{n r4:Nat}{F0 F:Fz}{M0 Me M:Hp}{σ σ':Env}(s:SeO p k l ul n r4 F0 M0 Me σ F M)(e3:Ax.look σ' 3=Ax.look σ 3)(e4:Ax.look σ' 4=Ax.look σ 4)(e22:Ax.look σ' 22=Ax.look σ 22)(e23:Ax.look σ' 23=Ax.look σ 23):SeO p k l ul n r4 F0 M0 Me σ' F M:=
 ⟨s.ff,s.kb,s.old,s.fr,e3.trans s.h3,e4.trans s.h4,e22.trans s.h22,e23.trans s.h23⟩
theorem SeO.grow {p:Pg}{k:Nat}{l:List Int}{ul:Value}{n r4:Nat}{F0 F:Fz}{M0 Me M M':Hp}{σ:Env}(s:SeO p k l ul n r4 F0 M0 Me σ F M)(kb:Keep M0 M')(o:Old F0 M')(fr:FrI M M'):SeO p k l ul n r4 F0 M0 Me σ F M':=
 ⟨s.ff,kb,o,s.fr.trans fr,s.h3,s.h4,s.h22,s.h23⟩
def seO (p:Pg)(k:Nat)(l:List Int)(ul:Value)(n:Nat)(r4:Nat)(F0:Fz)(M0 Me:Hp)(m:Nat)(σ:Env)(F:Fz)(M:Hp):Prop:=
 SeO p k l ul n r4 F0 M0 Me σ F M∧∃(i:Nat) (w:Value) (ds:List Int),i+m=l.length∧Ax.look σ 24=some (.int .i64 i)∧Ax.look σ 2=some w∧yY 1 intC 3 F0 M0 M w ds∧ds.length≤p.stmts.length∧seatC p.stmts (k+1) l n=(l.drop i).foldlM (seatStepC p.stmts k) ds.length
def gS (st:List Sm)(k m:Nat):Nat→Option Nat
 | 0=>some (m+1)
 | 1=>seatC st k (bodyAt st m) (m+1)
 | _=>(seatC st k (bodyAt st m) (m+1)).bind (seatC st k (elsAt st m))
def lS (st:List Sm)(m:Nat):Nat→List Int
 | 0=>bodyAt st m
 | _=>elsAt st m
theorem gS_next {st:List Sm}{k m j n:Nat}(hj:j < 2)(h:gS st k m j=some n):gS st k m (j+1)=seatC st k (lS st m j) n:=by
 match j,hj with
 | 0,_=>simp only [gS,Option.some.injEq] at h; subst h; rfl
 | 1,_=>simp only [gS] at h ⊢; rw [h]; rfl
theorem gS_none {st:List Sm}{k m j:Nat}(hj:j < 2)(h:gS st k m (j+1)=none):gS st k m 2=none:=by
 match j,hj with
 | 0,_=>simp only [gS] at h ⊢; rw [h]; rfl
 | 1,_=>exact h
theorem step_gS {st:List Sm}{k m:Nat}(h:m < st.length):seatStepC st k m (m:Int)=gS st k m 2:=by
 unfold seatStepC; rw [if_pos ⟨rfl,h⟩]; rfl
def seI (p:Pg)(k:Nat)(l:List Int)(ul:Value)(n:Nat)(r4:Nat)(F0:Fz)(M0 Me:Hp)(i:Nat)(x:Sm)(t r58:Nat)(m:Nat)(σ:Env)(F:Fz)(M:Hp):Prop:=
 SeO p k l ul n r4 F0 M0 Me σ F M∧Ax.look σ 24=some (.int .i64 i)∧Ax.look σ 58=some (.slice (some ⟨r58,0,none⟩) 2 2)∧Ax.look σ 59=some (.int .i64 2)∧M r58=some ⟨[.slice x.ba x.body.length x.bc,.slice x.ea x.els.length x.ec],24,2⟩∧
 ∃(j:Nat) (w:Value) (ds:List Int),j+m=2∧Ax.look σ 60=some (.int .i64 j)∧Ax.look σ 2=some w∧yY 1 intC 3 F0 M0 M w ds∧gS p.stmts k t j=some ds.length∧ds.length≤p.stmts.length
theorem sm_at {F:Fz}{M:Hp}{p:Pg}(hp:p.rd F)(hold:Old F M){i:Nat}(hi:i < p.stmts.length) :
  ∃b o cs,p.sA=some ⟨b,o,none⟩∧blk F M b=some cs∧o+i * 7+7≤cs.length∧(cs.drop (o+i * 7)).take 7=p.stmts[i].cs∧cs[o+i * 7+5]? = some (.slice p.stmts[i].ba p.stmts[i].body.length p.stmts[i].bc)∧cs[o+i * 7+6]? = some (.slice p.stmts[i].ea p.stmts[i].els.length p.stmts[i].ec):=by
 obtain ⟨b,o,cs,ea,hb,d1,d2⟩:=RdG.at (hp.stmts M hold) hi
 have:=Sm.row d2
 exact ⟨b,o,cs,ea,hb,d1,d2,this.2.2.2.2.2.1,this.2.2.2.2.2.2⟩
theorem bodyAt_get {st:List Sm}{i:Nat}(h:i < st.length):bodyAt st i=st[i].body:=by unfold bodyAt; rw [List.getElem?_eq_getElem h]; rfl
theorem elsAt_get {st:List Sm}{i:Nat}(h:i < st.length):elsAt st i=st[i].els:=by unfold elsAt; rw [List.getElem?_eq_getElem h]; rfl
def seG (ul d:Value)(k:Nat)(r4:Nat)(F0:Fz)(Me:Hp)(σ:Env)(F:Fz)(M:Hp):Prop:=
 F=F0∧M=Me∧Ax.look σ 1=some ul∧Ax.look σ 2=some d∧Ax.look σ 3=some (.int .i64 (5 - k))∧Ax.look σ 4=some (.pointer (some ⟨r4,0,none⟩))
theorem k161 (p:Pg):∀(k:Nat),k≤6→∀(F:Fz) (M M0:Hp) (la:Option Addr) (lc:Nat) (l:List Int) (d:Value) (ds:List Int),p.rd F→Old F M→Keep M0 M→(∀M,Old F M→intR F M la lc l)→l.length≤2500→yY 1 intC 3 F M0 M d ds→ds.length≤p.stmts.length→
  CallsA Tryz.prog 161 [p.val,.slice la l.length lc,d,.int .i64 (6 - k)] F M (seatP p.stmts k l ds.length F M0 M):=by
 intro k
 induction k with
 | zero=>
  intro hk F M M0 la lc l d ds hp hold kb hl hll mine hds
  refine qZ hm Tryz.func161 e161 (Nat.le_of_ble_eq_true rfl) ?_
  simp only [c161,go_sem]
  intro r4 hF4 hM4
  have kp:∀e,Keep M (M.upd r4 e):=fun e=>(Keep.refl M).new hM4
  by_cases h0:(0:Int) < l.length
  ·have e6:(5:Int) < 6 - ((0:Nat):Int):=by omega
   have hne:¬l=[]:=by rintro rfl; simp at h0
   simp only [go_sem,h0]
   exact qW ⟨rfl,kb.trans (kp _),hold.upd hF4,FrI.keep (kp _),.inr ⟨by simp [seatC,hne],rfl⟩⟩
  ·have hnil:l=[]:=lenN h0
   subst hnil
   simp only [go_sem]
   refine loop_of (fun m σ F' M'=>m=0∧F'=F∧M'=M.upd r4 ⟨p.cs,153,7⟩∧Ax.look σ 24=some (.int .i64 0)∧Ax.look σ 23=some (.int .i64 0)∧Ax.look σ 2=some d) 0 ?_ ?_
   ·exact ⟨rfl,rfl,rfl,by simp only [go_sem],by simp only [go_sem] <;> rfl,by simp only [go_sem]⟩
   rintro m σ F' M' ⟨rfl,hF',hM',h24,h23,h2⟩
   rw [hF',hM']
   simp only [go_sem,h24,h23,h2]
   exact qW ⟨rfl,kb.trans (kp _),hold.upd hF4,FrI.keep (kp _),.inl ⟨d,ds,rfl,mine.keep (kp _),by simp [seatC]⟩⟩
 | succ k ih=>
  intro hk F M M0 la lc l d ds hp hold kb hl hll mine hds
  refine qZ hm Tryz.func161 e161 (Nat.le_of_ble_eq_true rfl) ?_
  have ek:(6:Int) - ((k+1:Nat):Int)=5 - k:=by omega
  have e6:¬(5:Int) < 5 - k:=by omega
  rw [ek]
  simp only [c161]
  rw [Go.Ax.seq_assoc]
  refine cut (fun σ F' M'=>∃r4,F r4=none∧M r4=none∧seG (.slice la l.length lc) d k r4 F (M.upd r4 ⟨p.cs,153,7⟩) σ F' M') ?_ ?_
  ·simp only [go_sem]
   intro r4 hF4 hM4
   by_cases h0:(0:Int) < l.length
   ·simp only [go_sem,h0,e6]
    exact ⟨r4,hF4,hM4,rfl,rfl,by simp only [go_sem],by simp only [go_sem],by simp only [go_sem],by simp only [go_sem]⟩
   ·simp only [go_sem,h0]
    exact ⟨r4,hF4,hM4,rfl,rfl,by simp only [go_sem],by simp only [go_sem],by simp only [go_sem],by simp only [go_sem]⟩
  rintro σ F' M' ⟨r4,hF4,hM4,hF',hM',h1,h2,h3,h4⟩
  rw [hF',hM']
  have kp:∀e,Keep M (M.upd r4 e):=fun e=>(Keep.refl M).new hM4
  have fr0:FrI M (M.upd r4 ⟨p.cs,153,7⟩):=FrI.keep (kp _)
  have fme:(M.upd r4 ⟨p.cs,153,7⟩) r4=some ⟨p.cs,153,7⟩:=Hp.qJ _ _ _
  have kb0:=kb.trans (kp ⟨p.cs,153,7⟩)
  have old0:=hold.upd (e:=⟨p.cs,153,7⟩) hF4
  have mine0:=mine.keep (kp ⟨p.cs,153,7⟩)
  generalize M.upd r4 ⟨p.cs,153,7⟩=Me at *
  simp only [go_sem,h1]
  refine loop_of (seO p k l (.slice la l.length lc) ds.length r4 F M0 Me) l.length ?_ ?_
  ·exact ⟨⟨rfl,kb0,old0,FrI.refl _,by simp only [go_sem,h3],by simp only [go_sem,h4],by simp only [go_sem],by simp only [go_sem]⟩,0,d,ds,by omega,by simp only [go_sem] <;> rfl,by simp only [go_sem,h2],mine0,hds,by rw [List.drop_zero]; exact seatC_succ _ _ _ _⟩
  generalize hn:ds.length=n at *
  clear mine0 mine hds h1 h2 h3 h4 kb0 old0 hn ds d hF' hM' kp hM4 hF4 hold
  rintro mo σ F' M' ⟨s,i,w,ds,hi,h24,h2,mine,hds,hfold⟩
  obtain rfl:=s.ff
  have f4:=s.fr _ _ fme (by simp)
  have b4:=qG (F:=F') f4
  obtain ⟨aw,cw,ew⟩:=mine.shape
  have h2':=h2
  rw [ew] at h2'
  by_cases hil:(i:Int) < l.length
  rotate_left
  ·have:l.drop i=[]:=List.drop_eq_nil_of_le (by omega)
   rw [this] at hfold
   simp only [go_sem,s.h23,h24,h2',hil]
   rw [←ew]
   exact qW ⟨rfl,s.kb,s.old,fr0.trans s.fr,.inl ⟨w,ds,rfl,mine,by rw [hfold]; rfl⟩⟩
  have hi0:(0:Int)≤i:=by omega
  have hil':i < l.length:=by omega
  have ei:IntKind.i64.wrap ((i:Int)+1)=i+1:=w64 (by omega) (by omega)
  obtain ⟨b,o,cs,ea,hb,d3⟩:=gH (hl _ s.old) hil'
  rw [List.drop_eq_getElem_cons hil',List.foldlM_cons] at hfold
  generalize l[i]=x at *
  have h22:=s.h22
  rw [ea] at h22
  by_cases hx:x=(ds.length:Int)∧ds.length < p.stmts.length
  rotate_left
  ·have hnone:seatC p.stmts (k+1) l n=none:=by
    rw [hfold]; unfold seatStepC; rw [if_neg hx]; rfl
   by_cases hx1:x=(ds.length:Int)
   ·have hx2:(p.stmts.length:Int)≤x:=by omega
    simp only [go_sem,s.h4,h22,s.h23,h24,h2',hil,hi0,Int.toNat_natCast,hb,d3,hx1]
    simp only [hx1] at hx2
    simp only [go_sem,b4,hx2]
    exact qW ⟨rfl,s.kb,s.old,fr0.trans s.fr,.inr ⟨hnone,rfl⟩⟩
   ·simp only [go_sem,h22,s.h23,h24,h2',hil,hi0,Int.toNat_natCast,hb,d3,hx1]
    exact qW ⟨rfl,s.kb,s.old,fr0.trans s.fr,.inr ⟨hnone,rfl⟩⟩
  obtain ⟨rfl,hdn⟩:=hx
  have hx2:¬(p.stmts.length:Int)≤ds.length:=by omega
  have hdn':(ds.length:Int) < p.stmts.length:=by omega
  have hd0:(0:Int)≤ds.length:=by omega
  simp only [go_sem,s.h3,s.h4,h22,s.h23,h24,h2',hil,hi0,Int.toNat_natCast,hb,d3,b4,hx2]
  intro rb hFb hMb
  simp only [go_sem]
  rw [←ew]
  have hfew:=hp.few
  refine apMG_of (xs:=ds) (ys:=[5 - (k:Int)]) wD intC_plain (by decide) (mine.fresh hMb) (s.kb.new (s.kb.free hMb)) ⟨rfl,.inr ⟨⟨rb,0,none⟩,1,rfl,.inr ⟨rb,0,_,rfl,wY,by simp [intC,intV]⟩⟩⟩ (by simp) (by simp; omega) ?_
  rintro w5 M5 hsh hfr5 kp5 ho5 mine5
  have frx:FrI M' M5:=fun r x hr hx=>hfr5 r x (by rw [Hp.qK (qH hMb hr).1]; exact hr) hx
  have old5:=ho5 (s.old.upd hFb)
  have f45:=frx _ _ f4 (by simp)
  have b45:=qG (F:=F') f45
  obtain ⟨b2,o2,cs2,ea2,hb2,g1,g2,g5,g6⟩:=sm_at hp old5 hdn
  have hbody:=bodyAt_get hdn
  have hels:=elsAt_get hdn
  have hmem:=List.getElem_mem hdn
  have hbd:=hp.bodies _ hmem
  have hbf:=hp.few.2.2.2.2.2 _ hmem
  generalize p.stmts[ds.length]=y at *
  simp only [go_sem,s.h4,b45,ea2,hdn',hd0,Int.toNat_natCast,hb2,g5,g6]
  intro r58 hF58 hM58
  rw [step_gS hdn] at hfold
  have kp58:∀e,Keep M5 (M5.upd r58 e):=fun e=>(Keep.refl M5).new hM58
  simp only [go_sem]
  refine loop_of (seI p k l (.slice la l.length lc) n r4 F' M0 Me i y ds.length r58) 2 ?_ ?_
  ·exact ⟨(s.grow (kp5.trans (kp58 _)) (old5.upd hF58) (frx.trans (FrI.keep (kp58 _)))).ext (by simp only [go_sem]) (by simp only [go_sem]) (by simp only [go_sem]) (by simp only [go_sem]),by simp only [go_sem,h24],by simp only [go_sem],by simp only [go_sem],Hp.qJ _ _ _,0,w5,ds++[5 - (k:Int)],by omega,by simp only [go_sem] <;> rfl,by simp only [go_sem],mine5.keep (kp58 _),by simp [gS],by simp; omega⟩
  clear hsh hM58 hF58 kp58 mine5 kp5 ho5 hfr5 frx old5 f45 b45 hb2 hMb hFb mine h2 h2' ew f4 b4 h24 h22 hb
  clear s
  generalize hm:ds.length=t at *
  clear hm ds
  rintro mi σ F M2 ⟨s,h24,h58,h59,f58,j,w,ds,hj,h60,h2,mine,hg,hds⟩
  obtain rfl:=s.ff
  have f4:=s.fr _ _ fme (by simp)
  have b4:=qG (F:=F) f4
  have b58:=qG (F:=F) f58
  by_cases hj2:(j:Int) < 2
  rotate_left
  ·have hj2':j=2:=by omega
   subst hj2'
   rw [hg] at hfold
   simp only [go_sem,h24,h59,h60,ei]
   exact ⟨mo - 1,by omega,s.ext (by simp only [go_sem]) (by simp only [go_sem]) (by simp only [go_sem]) (by simp only [go_sem]),i+1,w,ds,by omega,by simp only [go_sem]; rfl,by simp only [go_sem,h2],mine,hds,by rw [hfold]; rfl⟩
  have hj0:(0:Int)≤j:=by omega
  have hjn:j < 2:=by omega
  have ej:IntKind.i64.wrap ((j:Int)+1)=j+1:=w64 (by omega) (by omega)
  have ed:IntKind.i64.wrap (5 - (k:Int)+1)=6 - k:=by rw [w64 (by omega) (by omega)]; omega
  obtain ⟨A,C,hcell,hrd,hlen⟩:∃A C,([.slice y.ba y.body.length y.bc,.slice y.ea y.els.length y.ec]:List Value)[j * 1]? = some (.slice A (lS p.stmts t j).length C)∧(∀M,Old F M→intR F M A C (lS p.stmts t j))∧(lS p.stmts t j).length≤2500:=by
   match j,hjn with
   | 0,_=>exact ⟨y.ba,y.bc,by simp [lS,hbody],fun M o=>by simp only [lS,hbody]; exact (hbd M o).1,by simp only [lS,hbody]; exact hbf.1⟩
   | 1,_=>exact ⟨y.ea,y.ec,by simp [lS,hels],fun M o=>by simp only [lS,hels]; exact (hbd M o).2,by simp only [lS,hels]; exact hbf.2⟩
  simp only [go_sem,s.h3,s.h4,h58,h59,h60,h2,hj2,hj0,Int.toNat_natCast,b4,b58,hcell,ed]
  refine qY (ih (by omega) F M2 M0 A C (lS p.stmts t j) w ds hp s.old s.kb hrd hlen mine hds) ?_
  rintro u G M7 ⟨hG,kb7,old7,fr7,hcase⟩
  rw [hG]
  refine ⟨(fun h=>by cases h),?_⟩
  rcases hcase with ⟨w7,ds7,rfl,mine7,hs7⟩ | ⟨hs7,rfl⟩
  ·have hg7:gS p.stmts k t (j+1)=some ds7.length:=by rw [gS_next hjn hg]; exact hs7
   have hle:=(seatC_ge p.stmts k _ _ _ hs7).2.2 hds
   simp only [go_sem,h60,ej]
   exact ⟨mi - 1,by omega,(s.grow kb7 old7 fr7).ext (by simp only [go_sem]) (by simp only [go_sem]) (by simp only [go_sem]) (by simp only [go_sem]),by simp only [go_sem,h24],by simp only [go_sem,h58],by simp only [go_sem,h59],fr7 _ _ f58 (by simp),j+1,w7,ds7,by omega,by simp only [go_sem]; rfl,by simp only [go_sem],mine7,hg7,hle⟩
  ·have hg7:gS p.stmts k t (j+1)=none:=by rw [gS_next hjn hg]; exact hs7
   rw [gS_none hjn hg7] at hfold
   simp only [go_sem]
   exact qW ⟨rfl,kb7,old7,(fr0.trans s.fr).trans fr7,.inr ⟨by rw [hfold]; rfl,rfl⟩⟩
theorem k103 (F:Fz)(M:Hp)(p:Pg)(hp:p.rd F)(hold:Old F M):CallsA Tryz.prog 103 [p.val] F M (fun u F' M'=>F'=F∧M'=M∧∃w,u=.tuple #[w,.bool (decide (seatC p.stmts 6 p.main 0=some p.stmts.length))]):=by
 refine qZ hm Tryz.func103 e103 (Nat.le_of_ble_eq_true rfl) ?_
 simp only [c103,go_sem]
 intro r1 hF1 hM1
 have kp:∀e,Keep M (M.upd r1 e):=fun e=>(Keep.refl M).new hM1
 simp only [go_sem]
 have h6:(6:Int) - ((6:Nat):Int)=0:=rfl
 have hs:=k161 p 6 (by omega) F (M.upd r1 ⟨p.cs,153,7⟩) M p.mA p.mC p.main (.slice none 0 0) [] hp (hold.upd hF1) (kp _) hp.main hp.few.2.2.2.2.1 yY.nil (Nat.zero_le _)
 rw [h6] at hs
 refine qY hs ?_
 rintro u G M7 ⟨hG,kb7,old7,fr7,hcase⟩
 rw [hG]
 refine ⟨(fun h=>by cases h),?_⟩
 have f1:=fr7 _ _ (Hp.qJ M r1 ⟨p.cs,153,7⟩) (by simp)
 have b1:=qG (F:=F) f1
 simp only [List.length_nil] at hcase
 rcases hcase with ⟨w7,ds7,rfl,mine7,hs7⟩ | ⟨hs7,rfl⟩
 ·obtain ⟨aw,cw,ew⟩:=mine7.shape
  have e:decide (seatC p.stmts 6 p.main 0=some p.stmts.length)=decide ((ds7.length:Int)=p.stmts.length):=by
   rw [hs7]
   exact decide_eq_decide.2 ⟨fun h=>by simp at h; omega,fun h=>by congr 1; omega⟩
  rw [ew]
  simp only [go_sem,b1]
  exact qX kb7 ⟨rfl,rfl,_,by rw [e]⟩
 ·simp only [go_sem]
  exact qX kb7 ⟨rfl,rfl,.slice none 0 0,by rw [hs7]; rfl⟩
theorem endK_map {F0:Fz}{M0 M:Hp}{R:Value→Fz→Hp→Prop}{v:Value}{rm:Nat}{l:List (Int × Value)}(h:F0.mp rm=none)(kb:Keep M0 M)(hr:R v F0 M0):endK (F0.setM rm l) M R v:=
 ⟨F0,M0,(Wk.dropM h).trans (kb.wk F0),hr⟩
def madeM (made:List Int):List (Int × Value):=made.reverse.map fun n=>(n,.bool true)
theorem lookM_made (n:Int):∀(l:List Int) (i:Nat),(n∈l→∃j,lookM (l.map fun n=>(n,Value.bool true)) n i=some (j,.bool true))∧(¬n∈l→lookM (l.map fun n=>(n,Value.bool true)) n i=none)
 | [],i=>⟨(fun h=>by cases h),fun _=>rfl⟩
 | x :: l,i=>by
  have ih:=lookM_made n l (i+1)
  constructor
  ·intro h
   by_cases hx:x=n
   ·exact ⟨i,by simp [lookM,hx]⟩
   ·have hl:n∈l:=by
     rcases List.mem_cons.1 h with e | h
     ·exact absurd e.symm hx
     ·exact h
    obtain ⟨j,hj⟩:=ih.1 hl
    exact ⟨j,by simp [lookM,hx]; simpa using hj⟩
  ·intro h
   have hx:¬x=n:=fun e=>h (by simp [e])
   have hl:¬n∈l:=fun e=>h (by simp [e])
   have:=ih.2 hl
   simp [lookM,hx]
   simpa using this
theorem made_look (made:List Int)(n:Int):((lookM (madeM made) n 0).map (·.2)).getD (.bool false)=.bool (decide (n∈made)):=by
 have:=lookM_made n made.reverse 0
 unfold madeM
 by_cases h:n∈made
 ·obtain ⟨j,hj⟩:=this.1 (by simpa using h)
  rw [hj]; simp [h]
 ·rw [this.2 (by simpa using h)]; simp [h]
theorem made_new {made:List Int}{n:Int}(h:¬n∈made):lookM (madeM made) n 0=none:=(lookM_made n made.reverse 0).2 (by simpa using h)
theorem made_cons (made:List Int)(n:Int):madeM made++[(n,.bool true)]=madeM (n :: made):=by simp [madeM]
theorem bol_get {lo:List Bool}{i:Nat}(h:i < lo.length):(lo.map Value.bool)[i * 1]? = some (.bool (loopAt lo i)):=by
 rw [Nat.mul_one,List.getElem?_map]
 unfold loopAt
 rw [List.getElem?_eq_getElem h]; rfl
theorem bol_set {lo:List Bool}{i:Nat}{v:Bool}(h:i < lo.length):(lo.map Value.bool).take (i * 1)++[Value.bool v]++(lo.map Value.bool).drop (i * 1+1)=(lo.set i v).map Value.bool:=by
 rw [Nat.mul_one,List.map_set,List.set_eq_take_append_cons_drop,if_pos (by simpa using h)]
 simp
theorem bol_zero (n:Nat):(List.replicate n [Value.bool false]).flatten=(List.replicate n false).map Value.bool:=by
 induction n with
 | zero=>rfl
 | succ n ih=>rw [List.replicate_succ,List.flatten_cons,ih,List.replicate_succ]; rfl
def stepLo (op6:Bool)(i:Nat)(lo:List Bool)(k:Int):List Bool:=lo.set k.toNat (loopAt lo i || op6)
structure FrO (p:Pg)(r1 rl rm:Nat)(F0:Fz)(M0:Hp)(lo:List Bool)(made:List Int)(i:Nat)(σ:Env)(F:Fz)(M:Hp):Prop where
 ff:F=F0.setM rm (madeM made)
 kb:Keep M0 M
 old:Old F0 M
 n1:M0 rl=none
 fl:M rl=some ⟨lo.map Value.bool,4,p.stmts.length * 1⟩
 hlo:lo.length=p.stmts.length
 h3:Ax.look σ 3=some (.slice (some ⟨rl,0,none⟩) p.stmts.length p.stmts.length)
 h4:Ax.look σ 4=some (.map (some rm))
 h17:Ax.look σ 17=some (.slice p.sA p.stmts.length p.sC)
 h18:Ax.look σ 18=some (.int .i64 p.stmts.length)
 h19:Ax.look σ 19=some (.int .i64 i)
theorem FrO.ext {p:Pg}{r1 rl rm:Nat}{F0 F:Fz}{M0 M:Hp}{lo:List Bool}{made:List Int}{i:Nat}{σ σ':Env}(s:FrO p r1 rl rm F0 M0 lo made i σ F M)(e3:Ax.look σ' 3=Ax.look σ 3)(e4:Ax.look σ' 4=Ax.look σ 4)(e17:Ax.look σ' 17=Ax.look σ 17)(e18:Ax.look σ' 18=Ax.look σ 18)(e19:Ax.look σ' 19=Ax.look σ 19):FrO p r1 rl rm F0 M0 lo made i σ' F M:=
 ⟨s.ff,s.kb,s.old,s.n1,s.fl,s.hlo,e3.trans s.h3,e4.trans s.h4,e17.trans s.h17,e18.trans s.h18,e19.trans s.h19⟩
theorem FrO.grow {p:Pg}{r1 rl rm:Nat}{F0 F:Fz}{M0 M M':Hp}{lo:List Bool}{made:List Int}{i:Nat}{σ:Env}(s:FrO p r1 rl rm F0 M0 lo made i σ F M)(k:Keep M M')(o:Old F0 M'):FrO p r1 rl rm F0 M0 lo made i σ F M':=
 ⟨s.ff,s.kb.trans k,o,s.n1,k _ _ s.fl,s.hlo,s.h3,s.h4,s.h17,s.h18,s.h19⟩
def frO (p:Pg)(r1 rl rm:Nat)(F0:Fz)(M0:Hp)(m:Nat)(σ:Env)(F:Fz)(M:Hp):Prop:=
 ∃(i:Nat) (lo:List Bool) (made:List Int),FrO p r1 rl rm F0 M0 lo made i σ F M∧i+m=p.stmts.length∧freshF p.stmts p.stmts.length 0 (List.replicate p.stmts.length false,[])=freshF p.stmts m i (lo,made)
def frI (p:Pg)(r1 rl rm:Nat)(F0:Fz)(M0:Hp)(lo0:List Bool)(made:List Int)(i:Nat)(x:Sm)(L:List Int)(r6:Nat)(m:Nat)(σ:Env)(F:Fz)(M:Hp):Prop:=
 ∃(j:Nat) (lo:List Bool) (u:Value),FrO p r1 rl rm F0 M0 lo made i σ F M∧j+m=L.length∧Ax.look σ 29=some u∧jQ 1 intC 3 F0 M u L∧Ax.look σ 30=some (.int .i64 L.length)∧Ax.look σ 31=some (.int .i64 j)∧
  Ax.look σ 5=some (.int .i64 i)∧Ax.look σ 6=some (.pointer (some ⟨r6,0,none⟩))∧M r6=some ⟨x.cs,37,7⟩∧L.foldl (stepLo (decide (x.op=6)) i) lo0=(L.drop j).foldl (stepLo (decide (x.op=6)) i) lo
theorem k104 (F:Fz)(M:Hp)(p:Pg)(hp:p.rd F)(hold:Old F M)(hch:∀s∈p.stmts,∀k∈s.body++s.els,0≤k∧k < p.stmts.length) :
  CallsA Tryz.prog 104 [p.val] F M (Same F M (.bool (freshF p.stmts p.stmts.length 0 (List.replicate p.stmts.length false,[])).isSome)):=by
 refine qZ hm Tryz.func104 e104 (Nat.le_of_ble_eq_true rfl) ?_
 have hfew:=hp.few
 simp only [c104,go_sem]
 intro r1 hF1 hM1
 simp only [go_sem]
 refine msK_of (Nat.le_refl _) (by simp only [maxLen]; omega) (by omega) ?_
 intro rl hFl hMl
 have gl:=wV hMl
 simp only [go_sem]
 intro rm hFm hMm hPm
 simp only [go_sem,gl]
 have kb:∀e e',Keep M ((M.upd r1 e).upd rl e'):=fun e e'=>((Keep.refl M).new hM1).new gl.2.2
 refine loop_of (frO p r1 rl rm F M) p.stmts.length ?_ ?_
 ·exact ⟨0,List.replicate p.stmts.length false,[],⟨rfl,kb _ _,(hold.upd hF1).upd hFl,gl.2.2,by rw [Hp.qJ,bol_zero],by simp,by simp only [go_sem],by simp only [go_sem],by simp only [go_sem],by simp only [go_sem],by simp only [go_sem] <;> rfl⟩,by omega,rfl⟩
 clear kb gl hMl hFl hM1 hF1 hMm hFm
 rintro m σ F' M1 ⟨i,lo,made,s,hi,hfr⟩
 obtain rfl:=s.ff
 by_cases hil:(i:Int) < p.stmts.length
 rotate_left
 ·have hm0:m=0:=by omega
  subst hm0
  simp only [go_sem,s.h18,s.h19,hil]
  exact endK_map hPm s.kb ⟨by rw [hfr]; rfl,rfl,rfl⟩
 have hi0:(0:Int)≤i:=by omega
 have hil':i < p.stmts.length:=by omega
 have ei:IntKind.i64.wrap ((i:Int)+1)=i+1:=w64 (by omega) (by omega)
 obtain ⟨m,rfl⟩:∃q,m=q+1:=⟨m - 1,by omega⟩
 simp only [freshF] at hfr
 obtain ⟨b,o,cs,ea,hb,d1,d2,d5,d6⟩:=sm_at hp s.old hil'
 have hbody:=bodyAt_get hil'
 have hels:=elsAt_get hil'
 have hop:opAt p.stmts i=p.stmts[i].op:=by unfold opAt; rw [List.getElem?_eq_getElem hil']; rfl
 have hna:nAt p.stmts i=p.stmts[i].n:=by unfold nAt; rw [List.getElem?_eq_getElem hil']; rfl
 have hc:=hch _ (List.getElem_mem hil')
 have hbd:=hp.bodies _ (List.getElem_mem hil')
 have hbf:=hfew.2.2.2.2.2 _ (List.getElem_mem hil')
 have hbz:=hp.zero.2.2 _ (List.getElem_mem hil')
 generalize p.stmts[i]=x at *
 have h17:=s.h17
 rw [ea] at h17
 simp only [go_sem,h17,s.h18,s.h19,hil,hi0,Int.toNat_natCast,hb,d1,d2]
 intro r6 hF6 hM6
 have kp6:∀e,Keep M1 (M1.upd r6 e):=fun e=>(Keep.refl M1).new hM6
 simp only [go_sem]
 intro r28 hF28 hM28
 have g28:=wV hM28
 have kp28:∀e e',Keep M1 ((M1.upd r6 e).upd r28 e'):=fun e e'=>(kp6 e).new g28.2.2
 have f6:∀e e',((M1.upd r6 e).upd r28 e') r6=some e:=fun e e'=>by rw [Hp.qK g28.2.1]; exact Hp.qJ _ _ _
 have old28:∀e e',Old F ((M1.upd r6 e).upd r28 e'):=fun e e'=>(s.old.upd hF6).upd hF28
 simp only [go_sem]
 refine qY (k130 _ _ (some ⟨r28,0,none⟩) 2 [(x.ba,x.bc,x.body),(x.ea,x.ec,x.els)] (old28 _ _) (gJ slC_len (by simp) (by simp) (by rw [wY]; simp [slC])) ?_ (by simp)) ?_
 ·intro y hy
  simp only [List.mem_cons,List.not_mem_nil,or_false] at hy
  rcases hy with rfl | rfl
  ·exact ⟨(hbd _ (old28 _ _)).1,by simp only []; omega,hbz.1⟩
  ·exact ⟨(hbd _ (old28 _ _)).2,by simp only []; omega,hbz.2⟩
 rintro u G M2 hq
 have e2:([(x.ba,x.bc,x.body),(x.ea,x.ec,x.els)]:List Lz).flatMap (·.2.2)=x.body++x.els:=by simp
 obtain ⟨L,hL⟩:∃L,L=x.body++x.els:=⟨_,rfl⟩
 rw [e2,←hL] at hq
 have own:=hq.own
 have hlen:L.length≤5000:=by rw [hL,List.length_append]; omega
 obtain ⟨hG,le,kq,oq,aq,cq,rfl,rdq⟩:=hq.le wD (by omega)
 rw [hG]
 refine ⟨(fun h=>by cases h),?_⟩
 have f62:=kq _ _ (f6 ⟨x.cs,37,7⟩ _)
 have old2:=oq (old28 _ _)
 have kp2:=(kp28 _ _).trans kq
 simp only [go_sem]
 refine loop_of (frI p r1 rl rm F M lo made i x L r6) L.length ?_ ?_
 ·exact ⟨0,lo,_,(s.grow kp2 old2).ext (by simp only [go_sem]) (by simp only [go_sem]) (by simp only [go_sem]) (by simp only [go_sem]) (by simp only [go_sem]),by omega,by simp only [go_sem] <;> rfl,own,by simp only [go_sem],by simp only [go_sem] <;> rfl,by simp only [go_sem],by simp only [go_sem],f62,by rw [List.drop_zero]⟩
 clear own old2 kp2 f62 rdq kq oq le hq e2 old28 f6 kp28 g28 hM28 hF28 kp6 hM6 hF6 h17 hb
 have hset:setLo p.stmts i lo=L.foldl (stepLo (decide (x.op=6)) i) lo:=by
  unfold setLo; rw [hbody,hels,hop,hL]; rfl
 have hlo0:=s.hlo
 rw [←hL] at hc
 clear hL
 clear s
 rintro mi σ F' M2 ⟨j,lo2,u,s,hj,h29,own,h30,h31,h5,h6,f6,hfold⟩
 obtain rfl:=s.ff
 obtain ⟨au,cu,eu⟩:∃a c,u=.slice a L.length c:=by
  rcases own with ⟨h1,h2⟩ | ⟨g,cap,h1,_⟩
  ·exact ⟨none,0,by rw [h1,h2]; rfl⟩
  ·exact ⟨_,cap,h1⟩
 have rdu:=own.rd wD (by omega)
 rw [eu] at h29 rdu
 have b6:=qG (F:=F) f6
 have bl:=qG (F:=F) s.fl
 by_cases hjl:(j:Int) < L.length
 ·have hj0:(0:Int)≤j:=by omega
  have hjl':j < L.length:=by omega
  have ej:IntKind.i64.wrap ((j:Int)+1)=j+1:=w64 (by omega) (by omega)
  obtain ⟨b,o,cs,ea,hb,d3⟩:=gH rdu hjl'
  have hk:=hc _ (List.getElem_mem hjl')
  rw [List.drop_eq_getElem_cons hjl',List.foldl_cons] at hfold
  generalize L[j]=y at *
  obtain ⟨z,rfl⟩:=Int.eq_ofNat_of_zero_le hk.1
  have hz:z < lo2.length:=by have:=s.hlo; omega
  have hiz:i < lo2.length:=by have:=s.hlo; omega
  have g1:=bol_get hiz
  have gset:∀v,(lo2.map Value.bool).take (z * 1)++[Value.bool v]++(lo2.map Value.bool).drop (z * 1+1)=(lo2.set z v).map Value.bool:=fun v=>bol_set hz
  have hzl:z * 1+1≤(lo2.map Value.bool).length:=by rw [List.length_map]; omega
  rw [ea] at h29
  have fin:∀(v:Bool) (σ':Env),v=(loopAt lo2 i || decide (x.op=6))→Ax.look σ' 3=some (.slice (some ⟨rl,0,none⟩) p.stmts.length p.stmts.length)→Ax.look σ' 4=some (.map (some rm))→Ax.look σ' 17=some (.slice p.sA p.stmts.length p.sC)→Ax.look σ' 18=some (.int .i64 p.stmts.length)→Ax.look σ' 19=some (.int .i64 i)→
    Ax.look σ' 29=some u→Ax.look σ' 30=some (.int .i64 L.length)→Ax.look σ' 31=some (.int .i64 (j+1))→Ax.look σ' 5=some (.int .i64 i)→Ax.look σ' 6=some (.pointer (some ⟨r6,0,none⟩))→
    ∃m',m' < mi∧frI p r1 rl rm F M lo made i x L r6 m' σ' (F.setM rm (madeM made)) (M2.upd rl ⟨(lo2.set z v).map Value.bool,4,p.stmts.length * 1⟩):=by
   intro v σ' hv e3 e4 e17 e18 e19 e29 e30 e31 e5 e6
   refine ⟨mi - 1,by omega,j+1,lo2.set z v,u,⟨rfl,s.kb.new s.n1,s.old.upd (s.old.free s.fl),s.n1,Hp.qJ _ _ _,by rw [List.length_set]; exact s.hlo,e3,e4,e17,e18,e19⟩,by omega,e29,?_,e30,e31,e5,e6,?_,?_⟩
   ·exact own.frame (e':=4) (fun r x hr hx=>by
     have:¬r=rl:=by rintro rfl; rw [s.fl] at hr; cases hr; exact hx rfl
     rw [Hp.qK this]; exact hr) (by decide)
   ·have:¬r6=rl:=by
     rintro rfl
     have h1:=s.fl
     rw [f6] at h1
     have:=congrArg (fun e=>e.map Ent.elem) h1
     simp at this
    rw [Hp.qK this]; exact f6
   ·rw [hfold,hv]; rfl
  cases hlp:loopAt lo2 i
  ·rw [hlp] at g1
   by_cases h66:x.op=6
   ·simp only [go_sem,s.h3,h29,h30,h31,h5,h6,hjl,hj0,hil,hi0,hk.1,hk.2,Int.toNat_natCast,hb,d3,b6,bl,g1,h66,s.fl,hzl]
    simp only [setH,go_sem,gset,ej]
    exact fin true _ (by rw [hlp]; simp [h66]) (by simp only [go_sem,s.h3]) (by simp only [go_sem,s.h4]) (by simp only [go_sem,s.h17]) (by simp only [go_sem,s.h18]) (by simp only [go_sem,s.h19]) (by simp only [go_sem,h29,eu,ea]) (by simp only [go_sem,h30]) (by simp only [go_sem]) (by simp only [go_sem,h5]) (by simp only [go_sem,h6])
   ·simp only [go_sem,s.h3,h29,h30,h31,h5,h6,hjl,hj0,hil,hi0,hk.1,hk.2,Int.toNat_natCast,hb,d3,b6,bl,g1,h66,s.fl,hzl]
    simp only [setH,go_sem,gset,ej]
    exact fin false _ (by rw [hlp]; simp [h66]) (by simp only [go_sem,s.h3]) (by simp only [go_sem,s.h4]) (by simp only [go_sem,s.h17]) (by simp only [go_sem,s.h18]) (by simp only [go_sem,s.h19]) (by simp only [go_sem,h29,eu,ea]) (by simp only [go_sem,h30]) (by simp only [go_sem]) (by simp only [go_sem,h5]) (by simp only [go_sem,h6])
  ·rw [hlp] at g1
   simp only [go_sem,s.h3,h29,h30,h31,h5,hjl,hj0,hil,hi0,hk.1,hk.2,Int.toNat_natCast,hb,d3,bl,g1,s.fl,hzl]
   simp only [setH,go_sem,gset,ej]
   exact fin true _ (by rw [hlp]; rfl) (by simp only [go_sem,s.h3]) (by simp only [go_sem,s.h4]) (by simp only [go_sem,s.h17]) (by simp only [go_sem,s.h18]) (by simp only [go_sem,s.h19]) (by simp only [go_sem,h29,eu,ea]) (by simp only [go_sem,h30]) (by simp only [go_sem]) (by simp only [go_sem,h5]) (by simp only [go_sem,h6])
 have hjn:j=L.length:=by omega
 have hlo2:setLo p.stmts i lo=lo2:=by
  rw [hset,hfold,hjn,List.drop_length]; rfl
 have hiz:i < lo2.length:=by have:=s.hlo; omega
 have g1:=bol_get hiz
 have fin:∀(made':List Int) (σ':Env),freshStep p.stmts (lo,made) i=some (lo2,made')→Ax.look σ' 3=some (.slice (some ⟨rl,0,none⟩) p.stmts.length p.stmts.length)→Ax.look σ' 4=some (.map (some rm))→Ax.look σ' 17=some (.slice p.sA p.stmts.length p.sC)→Ax.look σ' 18=some (.int .i64 p.stmts.length)→Ax.look σ' 19=some (.int .i64 (i+1))→
   ∃m',m' < m+1∧frO p r1 rl rm F M m' σ' (F.setM rm (madeM made')) M2:=fun made' σ' hst e3 e4 e17 e18 e19=>
  ⟨m,by omega,i+1,lo2,made',⟨rfl,s.kb,s.old,s.n1,s.fl,s.hlo,e3,e4,e17,e18,e19⟩,by omega,by rw [hfr,hst]; rfl⟩
 by_cases h33:x.op=3
 rotate_left
 ·simp only [go_sem,s.h19,h30,h31,h6,hjl,b6,h33,ei]
  exact fin made _ (by unfold freshStep; rw [hop,if_neg h33,hlo2]) (by simp only [go_sem,s.h3]) (by simp only [go_sem,s.h4]) (by simp only [go_sem,s.h17]) (by simp only [go_sem,s.h18]) (by simp only [go_sem])
 cases hlp:loopAt lo2 i
 rotate_left
 ·rw [hlp] at g1
  simp only [go_sem,s.h3,h30,h31,h5,h6,hjl,b6,bl,h33,hi0,hil,Int.toNat_natCast,g1]
  refine endK_map hPm s.kb ⟨?_,rfl,rfl⟩
  have:freshStep p.stmts (lo,made) i=none:=by
   unfold freshStep; rw [hop,if_pos h33,hlo2,if_pos (.inl hlp)]
  rw [hfr,this]; rfl
 rw [hlp] at g1
 simp only [go_sem,s.h3,s.h4,h30,h31,h5,h6,hjl,b6,bl,h33,hi0,hil,Int.toNat_natCast,g1]
 refine mlK_of setM_mp ?_
 rw [made_look]
 by_cases hmd:x.n∈made
 ·simp only [go_sem,hmd,decide_true]
  refine endK_map hPm s.kb ⟨?_,rfl,rfl⟩
  have:freshStep p.stmts (lo,made) i=none:=by
   unfold freshStep; rw [hop,if_pos h33,hlo2,hna,if_pos (.inr hmd)]
  rw [hfr,this]; rfl
 ·simp only [go_sem,s.h4,h6,b6,hmd,decide_false]
  refine muK_of setM_mp (made_new hmd) ?_
  rw [setM_setM,made_cons]
  simp only [go_sem,s.h19,ei]
  exact fin (x.n :: made) _ (by
   unfold freshStep; rw [hop,if_pos h33,hlo2,hna,if_neg (by rw [hlp]; simp [hmd])]) (by simp only [go_sem,s.h3]) (by simp only [go_sem,s.h4]) (by simp only [go_sem,s.h17]) (by simp only [go_sem,s.h18]) (by simp only [go_sem])
end Go.Proofs.Tryz.K
