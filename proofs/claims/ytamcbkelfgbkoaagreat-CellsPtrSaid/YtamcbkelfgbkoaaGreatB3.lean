/- Parts B3: the machine's runs of small codes, contracts of functions, plain facts. -/
import Derived.Test.YtamcbkelfgbkoaaGreatB2
set_option linter.unusedVariables false
set_option linter.unusedSimpArgs false
set_option maxRecDepth 100000
namespace Go.Ax
open Go
structure FitM (p:Pg)(m:List Bl):Prop where
 len:m.length=1+p.vars.length+p.news.length
 bytes:∀i (h:i < m.length),(∀x∈(m[i]).l,byteB x=true)∧0≤(m[i]).st∧(m[i]).st≤3∧(m[i]).l.length≤32
 size:∀i (h:i < m.length),(m[i]).st=1→((m[i]).l.length:Int)=szAt (wJ p) i
 dead:∀i (h:i < m.length),¬(m[i]).st=1→(m[i]).l=[]
 zero:∀h:0 < m.length,(m[0]).st=0
 ptrs:∀i (h:i < m.length),(m[i]).l.all (ptrIn (wJ p))=true
 live:∀i (h:i < m.length),1≤i→i≤p.vars.length→(m[i]).st=1
theorem FitM.of {p:Pg}{m:List Bl}(h:memIn p m=true):FitM p m:=by
 have hl:=sizes_len p
 simp only [memIn,Bool.and_eq_true,decide_eq_true_eq] at h
 obtain ⟨⟨h1,h2⟩,h3⟩:=h
 have hb:∀i (h:i < m.length),okBlk p.vars.length (wJ p) i m[i]=true:=fun i hi=>by
  unfold okAll at h3
  rw [List.all_eq_true] at h3
  have:=h3 i (List.mem_range.2 hi)
  simp only [List.getElem?_eq_getElem hi] at this
  exact this
 have hbl:∀i (h:i < m.length),blockB m[i]=true:=fun i hi=>memoryB_block h1 (List.getElem_mem hi)
 refine ⟨by omega,fun i hi=>?_,fun i hi hs=>?_,fun i hi hs=>?_,fun hz=>?_,fun i hi=>?_,fun i hi hi1 hi2=>?_⟩
 ·have:=hbl i hi
  simp only [blockB,Bool.and_eq_true,decide_eq_true_eq,List.all_eq_true] at this
  obtain ⟨⟨⟨a,b⟩,c⟩,d⟩:=this
  exact ⟨d,a.1,a.2,b⟩
 ·have:=hb i hi
  simp only [okBlk,hs,Bool.and_eq_true,Bool.not_eq_true',decide_true,Bool.true_and,Bool.not_eq_false',decide_eq_true_eq] at this
  exact this.1.1
 ·have:=hbl i hi
  simp only [blockB,Bool.and_eq_true,Bool.or_eq_true,decide_eq_true_eq] at this
  obtain ⟨⟨_,c⟩,_⟩:=this
  rcases c with c | c
  ·exact absurd c hs
  ·exact List.eq_nil_of_length_eq_zero c
 ·simp only [memoryB,Bool.and_eq_true] at h1
  have:=of_decide_eq_true h1.1.2
  unfold stAt at this
  rw [List.getElem?_eq_getElem hz] at this
  exact this
 ·have:=hb i hi
  simp only [okBlk,Bool.and_eq_true] at this
  exact this.2
 ·have:=hb i hi
  simp only [okBlk,Bool.and_eq_true] at this
  have h4:=this.1.2
  have e1:(1:Int)≤i:=by omega
  have e2:(i:Int)≤p.vars.length:=by omega
  simp only [e1,e2,decide_true,Bool.true_and,Bool.and_true,Bool.not_not,decide_eq_true_eq] at h4
  exact h4
structure FitC (p:Pg)(m:List Bl)(c:Pc):Prop where
 block:1≤c.b∧c.b < m.length
 inside:(yZ m c.b).st=1→0≤c.p∧c.p+wX p.ptr c.k≤(yZ m c.b).l.length
 kind:c.k=0∨c.k=11∨isS c.k=true
 content:yD c=true
theorem yH {m:List Bl}{i:Nat}(h:i < m.length):yZ m (i:Int)=m[i]:=by
 unfold yZ; rw [Int.toNat_natCast,List.getElem?_eq_getElem h]; rfl
theorem FitC.of {p:Pg}{m:List Bl}{c:Pc}(hm:FitM p m)(h:cellB p.ptr (wJ p) c=true):FitC p m c:=by
 have hl:=sizes_len p
 have hl2:=hm.len
 simp only [cellB,Bool.and_eq_true,decide_eq_true_eq] at h
 obtain ⟨⟨⟨⟨⟨h1,h2⟩,h3⟩,h4⟩,h5⟩,h6⟩:=h
 refine ⟨by omega,fun hs=>⟨h3,?_⟩,content_kind h1,h1⟩
 obtain ⟨i,hi⟩:=Int.eq_ofNat_of_zero_le (by omega:0≤c.b)
 have hil:i < m.length:=by omega
 rw [hi] at hs h6 ⊢
 rw [yH hil] at hs ⊢
 have:=hm.size i hil hs
 omega
theorem envB_cells {p:Pg}{e:Pe}(h:envB p e=true)(hn:e.no=false):(∀c∈e.cells,cellB p.ptr (wJ p) c=true)∧e.news.length=p.news.length∧e.news.all inB=true∧e.cells.length≤200:=by
 unfold envB at h
 rw [if_neg (by rw [hn]; exact Bool.false_ne_true)] at h
 simp only [Bool.and_eq_true,decide_eq_true_eq] at h
 obtain ⟨⟨⟨h1,h2⟩,h3⟩,h4⟩:=h
 refine ⟨fun c hc=>?_,h2,h3,h1⟩
 obtain ⟨i,hi,e1⟩:=List.getElem_of_mem hc
 unfold cellsUp at h4
 rw [List.all_eq_true] at h4
 have:=h4 i (List.mem_range.2 hi)
 rw [upAt_get (List.getElem?_eq_getElem hi),e1,Bool.and_eq_true] at this
 exact this.1
def Ask16.val (q:Ask16):Value:=.agg q.cs.toArray
@[go_sem] theorem Ask16.fold2 {q:Ask16}:Value.agg q.cs.toArray=q.val:=rfl
@[go_sem] theorem Ask16.cells_m {q:Ask16}:Value.cells.match_1 (fun _=>Array Value) q.val (fun cs=>cs) (fun u=>#[u])=q.cs.toArray:=rfl
@[go_sem] theorem Ask16.cells_val {q:Ask16}:q.val.cells=q.cs.toArray:=rfl
@[go_sem] theorem Ask16.cs_size {q:Ask16}:q.cs.toArray.size=10:=rfl
@[go_sem] theorem Ask16.cs_len {q:Ask16}:q.cs.length=10:=rfl
@[go_sem] theorem Ask16.jD {q:Ask16}:wZ q.cs=True:=by
 apply eq_true
 intro u hu
 simp only [Ask16.cs,Pg.cs,List.mem_append,List.mem_cons,List.not_mem_nil,or_false] at hu
 rcases hu with (rfl | rfl | rfl | rfl | rfl | rfl | rfl) | rfl | rfl | rfl <;> rfl
@[go_sem] theorem Ask16.take_all {q:Ask16}:q.cs.take 10=q.cs:=rfl
@[go_sem] theorem Ask16.take0 {q:Ask16}:q.cs.take 0=[]:=rfl
@[go_sem] theorem Ask16.drop_all {q:Ask16}:q.cs.drop 10=[]:=rfl
@[go_sem] theorem Ask16.ld {q:Ask16}:rd true 10 q.cs 0=some q.val:=rfl
@[go_sem] theorem Ask16.ldp {q:Ask16}:rd true 7 q.cs 0=some q.p.val:=rfl
@[go_sem] theorem Ask16.get2 {q:Ask16}:q.cs[2]? = some (.slice q.p.vA q.p.vars.length q.p.vC):=rfl
@[go_sem] theorem Ask16.get7 {q:Ask16}:q.cs[7]? = some (.slice q.sA q.s.length q.sC):=rfl
@[go_sem] theorem Ask16.ld7 {q:Ask16}:rd false 1 q.cs 7=some (.slice q.sA q.s.length q.sC):=rfl
@[go_sem] theorem Ask16.get8 {q:Ask16}:q.cs[8]? = some (.slice q.eA q.e.length q.eC):=rfl
@[go_sem] theorem Ask16.ld8 {q:Ask16}:rd false 1 q.cs 8=some (.slice q.eA q.e.length q.eC):=rfl
@[go_sem] theorem Ask16.get9 {q:Ask16}:q.cs[9]? = some (.slice q.xA q.x.length q.xC):=rfl
@[go_sem] theorem Ask16.ld9 {q:Ask16}:rd false 1 q.cs 9=some (.slice q.xA q.x.length q.xC):=rfl
@[go_sem] theorem Ask16.ld2 {q:Ask16}:rd false 1 q.cs 2=some (.slice q.p.vA q.p.vars.length q.p.vC):=rfl
theorem inBlock_st {P:Program}{c:SC}{Q:Post}{σ:Env}{F:Fz}{M:Hp}{i:Nat}(I:Env→Fz→Hp→Prop)(h:W P c (Post.inBlock i (cutQ (At I) Q)) σ F M)(hn:∀σ' F' M',Stay c.defs σ σ'→I σ' F' M'→Q .n σ' F' M'):W P c (Post.inBlock i Q) σ F M:=block_st (i:=i) I h hn
theorem Keep.le {F:Fz}{M M':Hp}(kp:Keep M M')(o:Old F M'):Le F M F M':=⟨fun _ _ h=>h,fun b e h=>⟨e,kp b e h,List.prefix_refl _⟩,fun b h _=>o b h⟩
def singleV (b p:Int)(x:By):Pc:=if x.st=1 then ⟨b,p,1,V.just 8 x.n,[]⟩ else if x.st=2 then ⟨b,p,11,V.just 8 x.i,[⟨x.b,V.just 8 x.o⟩]⟩ else ⟨b,p,0,V.zero,[]⟩
def ptrC (b p:Int)(s:Sc):Pc:=⟨b,p,7,V.zero,[⟨s.b,V.just 8 s.o⟩]⟩
def wholeV (big:Bool)(ptr:Nat)(l:List By)(at_:Nat):Sc × Bool:=
 if at_ % ptr=0∧at_+ptr≤l.length then ((yW big 7 ((l.drop at_).take ptr)).1,decide ((yW big 7 ((l.drop at_).take ptr)).2=0) && decide (0 < (yW big 7 ((l.drop at_).take ptr)).1.b)) else (⟨false,0,0,0⟩,false)
def stepV (big:Bool)(ptr:Nat)(b:Int)(l:List By)(at_:Nat):Pc × Nat:=
 if (wholeV big ptr l at_).2=true then (ptrC b at_ (wholeV big ptr l at_).1,at_+ptr) else (singleV b at_ (yQ l at_),at_+1)
def jV (big:Bool)(ptr:Nat)(b:Int)(l:List By):Nat→Nat→List Pc
 | 0,_=>[]
 | k+1,at_=>if at_ < l.length then (stepV big ptr b l at_).1 :: jV big ptr b l k (stepV big ptr b l at_).2 else []
def justL (big:Bool)(ptr:Nat)(m:List Bl):Nat→List Pc
 | 0=>[]
 | i+1=>justL big ptr m i++jV big ptr i (yZ m i).l ((yZ m i).l.length) 0
def justV (p:Pg)(m:List Bl):Pe:=⟨false,justL p.big p.ptr.toNat m m.length,(m.drop (1+p.vars.length)).map fun x=>shlv .i64 1 x.st⟩
theorem cellsAt_more (big:Bool)(ptr:Nat)(b:Int)(l:List By)(hp:0 < ptr):∀(k at_:Nat),l.length≤at_+k→jV big ptr b l k at_=jV big ptr b l (k+1) at_
 | 0,at_,h=>by
  have:¬at_ < l.length:=by omega
  simp [jV,this]
 | k+1,at_,h=>by
  have hs:at_+1≤(stepV big ptr b l at_).2:=by unfold stepV; split <;> omega
  rw [jV]
  conv=>rhs; rw [jV]
  split
  ·rw [cellsAt_more big ptr b l hp k _ (by omega)]
  ·rfl
theorem cellsAt_fuel {big:Bool}{ptr:Nat}{b:Int}{l:List By}(hp:0 < ptr){k at_:Nat}(h:l.length≤at_+k)(n:Nat):jV big ptr b l (k+n) at_=jV big ptr b l k at_:=by
 induction n with
 | zero=>rfl
 | succ n ih=>rw [←Nat.add_assoc,←cellsAt_more big ptr b l hp (k+n) at_ (by omega),ih]
theorem cellsAt_step {big:Bool}{ptr:Nat}{b:Int}{l:List By}(hp:0 < ptr){at_:Nat}(h:at_ < l.length) :
  jV big ptr b l (l.length - at_) at_=(stepV big ptr b l at_).1 :: jV big ptr b l (l.length - (stepV big ptr b l at_).2) (stepV big ptr b l at_).2:=by
 have hs:at_+1≤(stepV big ptr b l at_).2:=by unfold stepV; split <;> omega
 obtain ⟨k,hk⟩:∃k,l.length - at_=k+1:=⟨l.length - at_ - 1,by omega⟩
 rw [hk,jV,if_pos h]
 congr 1
 have:k=(l.length - (stepV big ptr b l at_).2)+(k - (l.length - (stepV big ptr b l at_).2)):=by omega
 rw [this]
 exact cellsAt_fuel hp (by omega) _
def soleB (c:Pc):Bool:=if c.k=0 then true else if c.k=11 then c.v.is1 && (onlyB 7 V.zero c.l).2 else (onlyB c.k c.v c.l).2
def coverB (ptr:Int)(b k:Nat)(c:Pc):Bool:=decide (c.b=b) && (decide (c.p≤k) && (decide ((k:Int) < c.p+wX ptr c.k) && soleB c))
def byteOne (ptr:Int)(l:List Pc)(b k:Nat):Bool:=l.any (coverB ptr b k)
def blockOne (ptr:Int)(l:List Pc)(m:List Bl)(b:Nat):Bool:=(List.range (yZ m b).l.length).all (byteOne ptr l b)
def exactB (p:Pg)(e:Pe)(m:List Bl):Bool:=inEnv p e m && (List.range m.length).all fun b=>decide (b=0) || blockOne p.ptr e.cells m b
theorem content_pre {c:Pc}(h:yD c=true):c.l.length≤7∧(¬c.k=0→¬c.k=7→c.v.ok=true)∧∀x∈c.l,0≤x.v.w∧x.v.w≤62∧x.v.ok=true:=by
 unfold yD at h
 split at h
 ·rename_i h0
  simp only [Bool.and_eq_true,decide_eq_true_eq] at h
  have hl:=List.eq_nil_of_length_eq_zero h.2
  rw [hl]
  exact ⟨by simp,fun h=>absurd h0 h,fun x hx=>by cases hx⟩
 split at h
 ·rename_i h0 h11
  simp only [Bool.and_eq_true,decide_eq_true_eq] at h
  have ha:absB 7 V.zero c.l=true:=by simp [absB,h.2]
  have hp:=abs_pre ha
  exact ⟨hp.1,fun _ _=>h.1.1,fun x hx=>⟨(hp.2.2 x hx).1,(hp.2.2 x hx).2.1,(hp.2.2 x hx).2.2.1⟩⟩
 ·rename_i h0 h11
  simp only [Bool.and_eq_true] at h
  have hp:=abs_pre h.2
  exact ⟨hp.1,fun _ h7=>(hp.2.1 h7).1,fun x hx=>⟨(hp.2.2 x hx).1,(hp.2.2 x hx).2.1,(hp.2.2 x hx).2.2.1⟩⟩
theorem n8 {n:Int}(h:0≤n∧n≤255):isN n 8=true:=by
 simp only [isN,show wH 8=255 from by decide,Bool.and_eq_true,decide_eq_true_eq]; exact h
theorem span_1 (ptr:Int):wX ptr 1=1:=by simp [wX]; decide
theorem span_7 (ptr:Int):wX ptr 7=ptr:=by simp [wX]
theorem span_0 (ptr:Int):wX ptr 0=1:=by simp [wX]
theorem span_11 (ptr:Int):wX ptr 11=1:=by simp [wX]
structure CellOk (p:Pg)(b:Nat)(l:List By)(at_:Nat)(c:Pc):Prop where
 cell:cellB p.ptr (wJ p) c=true
 blk:c.b=b
 pos:(at_:Int)≤c.p
 span:1≤wX p.ptr c.k
 fits:c.p+wX p.ptr c.k≤l.length
 say:sayV p.big c ((l.drop c.p.toNat).take (wX p.ptr c.k).toNat)=true
 sole:soleB c=true
theorem byte_ptr {x:By}(h:byteB x=true)(hb:0 < x.b):x.st=2:=by
 unfold byteB at h
 split at h
 ·have:=of_decide_eq_true h
  rw [this] at hb; exact absurd hb (by decide)
 split at h
 ·simp only [Bool.and_eq_true,decide_eq_true_eq] at h; omega
 split at h
 ·assumption
 ·cases h
theorem take1 {l:List By}{i:Nat}(h:i < l.length):(l.drop i).take 1=[yQ l i]:=by
 unfold yQ
 rw [List.getElem?_eq_getElem h,List.drop_eq_getElem_cons h]; rfl
theorem byAt_one {x:By}:yQ [x] 0=x:=rfl
theorem byAt_in {l:List By}{i:Nat}(h:i < l.length):yQ l i∈l:=by
 unfold yQ; rw [List.getElem?_eq_getElem h]; exact List.getElem_mem h
theorem pt_in {p:Pg}(hc:yK p=true){x:By}(h:byteB x=true)(hi:ptrIn (wJ p) x=true)(h2:x.st=2):(1≤x.b∧x.b≤(wJ p).length - 1∧x.b≤6)∧0≤x.o∧x.o≤32∧0≤x.i∧x.i≤3:=by
 have hs:=sizes_in hc x.b
 have hl:=sizes_len p
 obtain ⟨_,h4,h5,_⟩:=jW hc
 simp only [byteB,h2,Int.reduceEq,if_false,if_true,Bool.and_eq_true,decide_eq_true_eq] at h
 simp only [ptrIn,h2,decide_true,Bool.true_and,Bool.not_eq_true',Bool.or_eq_false_iff,decide_eq_false_iff_not] at hi
 omega
theorem pt_nat {b o:Int}(hb:1≤b∧b≤6)(ho:0≤o∧o≤32):jG [⟨b,V.just 8 o⟩]=true∧onlyP [⟨b,V.just 8 o⟩]=(⟨true,0,b,o⟩,1):=by
 obtain ⟨b,rfl⟩:=Int.eq_ofNat_of_zero_le (by omega:0≤b)
 obtain ⟨o,rfl⟩:=Int.eq_ofNat_of_zero_le ho.1
 have:=pt_one b (by omega) o (by omega) (.inl (by omega))
 exact ⟨this.1,this.2.1⟩
theorem points_one {b o:Int}(ho:0≤o∧o≤32):pointsB [⟨b,V.just 8 o⟩] b o=true:=by
 simp [pointsB,just_has ho.1 (by omega)]
theorem known_one {b n:Int}{v:V}(h:b≤n):knownB [⟨b,v⟩] n=true:=by simp [knownB,h]
theorem single_ok {p:Pg}(hc:yK p=true){b:Nat}{l:List By}(hb:1≤b∧b < (wJ p).length)(hsz:(l.length:Int)=szAt (wJ p) b)(hby:∀x∈l,byteB x=true)(hpt:∀x∈l,ptrIn (wJ p) x=true){at_:Nat}(hat:at_ < l.length) :
  CellOk p b l at_ (singleV b at_ (yQ l at_))∧(singleV b at_ (yQ l at_)).p=at_∧wX p.ptr (singleV b at_ (yQ l at_)).k=1:=by
 have hx:=byAt_in hat
 have t1:=take1 hat
 have h1:=hby _ hx
 have h2:=hpt _ hx
 generalize yQ l at_=x at *
 by_cases s1:x.st=1
 ·have e:singleV b at_ x=⟨b,at_,1,V.just 8 x.n,[]⟩:=by simp [singleV,s1]
  simp only [byteB,s1,Int.reduceEq,if_false,if_true,Bool.and_eq_true,decide_eq_true_eq] at h1
  have hn:isN x.n 8=true:=n8 (by omega)
  have ok:=gY (w:=8) (by decide) hn
  have is1:=just_is1 (w:=8) (by decide) hn
  refine ⟨?_,by rw [e],by rw [e]; exact span_1 _⟩
  rw [e]
  refine ⟨?_,rfl,Int.le_refl _,by rw [span_1]; omega,by rw [span_1]; show (at_:Int)+1≤_; omega,?_,?_⟩
  ·have hcb:yD ⟨b,at_,1,V.just 8 x.n,[]⟩=true:=by
    have e1:wK 1=8:=by decide
    simp [yD,absB,ok,e1,V.just_w,isS]
   simp only [cellB,hcb,span_1,knownB,List.all_nil,decide_true,Bool.and_true,Bool.true_and,Bool.and_eq_true,decide_eq_true_eq,Int.tmod_one]
   omega
  ·rw [span_1]
   show sayV p.big ⟨b,at_,1,V.just 8 x.n,[]⟩ ((l.drop at_).take 1)=true
   rw [t1]
   have hr:yW p.big 1 [x]=(⟨false,numL (ordL p.big [x]),0,0⟩,0):=by
    simp [yW,stIs,s1]
   have ho:ordL p.big [x]=[x]:=by unfold ordL; split <;> rfl
   have hnum:numL [x]=x.n:=by
    obtain ⟨n,hn'⟩:=Int.eq_ofNat_of_zero_le (by omega:0≤x.n)
    have hn2:n < 256:=by omega
    have key:∀n:Nat,n < 256→bor .i64 (shlv .i64 0 8) (n:Int)=n:=by decide +kernel
    show bor .i64 (shlv .i64 0 8) x.n=x.n
    rw [hn']; exact key n hn2
   simp only [sayV,Int.reduceEq,if_false,hr,ho,hnum,hasB,decide_true,Bool.true_and]
   rw [just_has (by omega) (by omega)]; simp
  ·simp [soleB,onlyB,is1.1]
 by_cases s2:x.st=2
 ·have e:singleV b at_ x=⟨b,at_,11,V.just 8 x.i,[⟨x.b,V.just 8 x.o⟩]⟩:=by simp [singleV,s2]
  obtain ⟨q1,q2,q3,q4,q5⟩:=pt_in hc h1 h2 s2
  have hn:isN x.i 8=true:=n8 (by omega)
  have ok:=gY (w:=8) (by decide) hn
  have is1:=just_is1 (w:=8) (by decide) hn
  have pn:=pt_nat ⟨q1.1,q1.2.2⟩ ⟨q2,q3⟩
  refine ⟨?_,by rw [e],by rw [e]; exact span_11 _⟩
  rw [e]
  refine ⟨?_,rfl,Int.le_refl _,by rw [span_11]; omega,by rw [span_11]; show (at_:Int)+1≤_; omega,?_,?_⟩
  ·simp only [cellB,yD,span_11,Int.reduceEq,if_false,if_true,ok,pn.1,known_one q1.2.1,V.just_w,decide_true,Bool.and_true,Bool.true_and,Bool.and_eq_true,decide_eq_true_eq,Int.tmod_one]
   omega
  ·rw [span_11]
   show sayV p.big ⟨b,at_,11,V.just 8 x.i,[⟨x.b,V.just 8 x.o⟩]⟩ ((l.drop at_).take 1)=true
   rw [t1]
   simp only [sayV,Int.reduceEq,if_false,if_true,byAt_one,s2,decide_true,Bool.true_and,points_one ⟨q2,q3⟩,Bool.and_true]
   rw [just_has (by omega) (by omega)]; simp
  ·simp [soleB,onlyB,is1.1,pn.2]
 ·have e:singleV b at_ x=⟨b,at_,0,V.zero,[]⟩:=by simp [singleV,s1,s2]
  have s0:x.st=0:=by
   simp only [byteB,s1,s2,if_false] at h1
   by_cases s0:x.st=0
   ·exact s0
   ·simp [s0] at h1
  refine ⟨?_,by rw [e],by rw [e]; exact span_0 _⟩
  rw [e]
  refine ⟨?_,rfl,Int.le_refl _,by rw [span_0]; omega,by rw [span_0]; show (at_:Int)+1≤_; omega,?_,?_⟩
  ·simp only [cellB,yD,span_0,if_true,knownB,List.all_nil,List.length_nil,decide_true,Bool.and_true,Bool.true_and,Bool.and_eq_true,decide_eq_true_eq,Int.tmod_one]
   omega
  ·rw [span_0]
   show sayV p.big ⟨b,at_,0,V.zero,[]⟩ ((l.drop at_).take 1)=true
   rw [t1]
   simp [sayV,byAt_one,s0]
  ·simp [soleB]
theorem ptr_ok {p:Pg}(hc:yK p=true){b:Nat}{l:List By}(hb:1≤b∧b < (wJ p).length)(hsz:(l.length:Int)=szAt (wJ p) b)(hby:∀x∈l,byteB x=true)(hpt:∀x∈l,ptrIn (wJ p) x=true){at_:Nat}(hat:at_ < l.length)
  (hw:(wholeV p.big p.ptr.toNat l at_).2=true) :
  CellOk p b l at_ (ptrC b at_ (wholeV p.big p.ptr.toNat l at_).1)∧at_+p.ptr.toNat≤l.length:=by
 have hp:=(jW hc).1
 unfold wholeV at hw ⊢
 split at hw
 rotate_left
 ·cases hw
 rename_i hcond
 rw [if_pos hcond]
 obtain ⟨hmod,hfit⟩:=hcond
 simp only [Bool.and_eq_true,decide_eq_true_eq] at hw
 refine ⟨?_,hfit⟩
 have hcut:((l.drop at_).take p.ptr.toNat).length=p.ptr.toNat:=cut_len hfit
 have hmem:∀x∈(l.drop at_).take p.ptr.toNat,x∈l:=fun x hx=>List.mem_of_mem_drop (List.mem_of_mem_take hx)
 have e7:wX p.ptr 7=p.ptr:=span_7 _
 obtain ⟨c,hcc⟩:∃c,c=(l.drop at_).take p.ptr.toNat:=⟨_,rfl⟩
 rw [←hcc] at hw hcut hmem ⊢
 obtain ⟨s,hs⟩:∃s,s=yW p.big 7 c:=⟨_,rfl⟩
 rw [←hs] at hw ⊢
 have hb1:s.1.b=(yQ c 0).b∧s.1.o=(yQ c 0).o:=by
  have h2:=hw.1
  rw [hs] at h2 ⊢
  simp only [yW] at h2 ⊢
  split at h2
  ·cases h2
  rename_i h0
  rw [if_neg h0]
  simp only [if_true,jJ] at h2 ⊢
  split at h2
  ·rename_i h3; rw [if_pos h3]; exact ⟨rfl,rfl⟩
  ·cases h2
 have hx:=byAt_in (l:=c) (i:=0) (by omega)
 have hx1:=hby _ (hmem _ hx)
 have hx2:=hpt _ (hmem _ hx)
 have hst:=byte_ptr hx1 (by omega)
 obtain ⟨q1,q2,q3,_,_⟩:=pt_in hc hx1 hx2 hst
 have pn:=pt_nat (b:=s.1.b) (o:=s.1.o) (by omega) (by omega)
 have hpo:=points_one (b:=s.1.b) (o:=s.1.o) (by omega)
 have hkn:=known_one (b:=s.1.b) (n:=((wJ p).length:Int) - 1) (v:=V.just 8 s.1.o) (by omega)
 unfold ptrC
 refine ⟨?_,rfl,Int.le_refl _,by simp only [e7]; omega,by simp only [e7]; omega,?_,?_⟩
 ·have hm:((at_:Int)).tmod p.ptr=0:=by
   rw [Int.tmod_eq_emod_of_nonneg (by omega)]
   rcases hp with h | h
   ·rw [h] at hmod ⊢
    have hmod:at_ % 2=0:=hmod
    omega
   ·rw [h] at hmod ⊢
    have hmod:at_ % 4=0:=hmod
    omega
  have hcb:yD ⟨b,at_,7,V.zero,[⟨s.1.b,V.just 8 s.1.o⟩]⟩=true:=by
   simp [yD,absB,pn.1,isS]
  simp only [cellB,hcb,e7,hkn,hm,decide_true,Bool.and_true,Bool.true_and,Bool.and_eq_true,decide_eq_true_eq]
  omega
 ·simp only [e7,Int.toNat_natCast]
  rw [←hcc]
  simp only [sayV,Int.reduceEq,if_false,hasB,if_true,←hs,hw.1,decide_true,Bool.true_and]
  exact hpo
 ·simp [soleB,onlyB,pn.2]
theorem step_ok {p:Pg}(hc:yK p=true){b:Nat}{l:List By}(hb:1≤b∧b < (wJ p).length)(hsz:(l.length:Int)=szAt (wJ p) b)(hby:∀x∈l,byteB x=true)(hpt:∀x∈l,ptrIn (wJ p) x=true){at_:Nat}(hat:at_ < l.length) :
  CellOk p b l at_ (stepV p.big p.ptr.toNat b l at_).1∧(stepV p.big p.ptr.toNat b l at_).1.p=at_∧((stepV p.big p.ptr.toNat b l at_).2:Int)=at_+wX p.ptr (stepV p.big p.ptr.toNat b l at_).1.k:=by
 have hp:=(jW hc).1
 unfold stepV
 split
 ·rename_i hw
  obtain ⟨h1,h2⟩:=ptr_ok hc hb hsz hby hpt hat hw
  refine ⟨h1,rfl,?_⟩
  show ((at_+p.ptr.toNat:Nat):Int)=at_+wX p.ptr 7
  rw [span_7]; omega
 ·obtain ⟨h1,h2,h3⟩:=single_ok hc hb hsz hby hpt hat
  exact ⟨h1,h2,by rw [h3]; rfl⟩
theorem CellOk.le {p:Pg}{b:Nat}{l:List By}{i j:Nat}{c:Pc}(h:CellOk p b l j c)(hij:i≤j):CellOk p b l i c:=⟨h.cell,h.blk,by have:=h.pos; omega,h.span,h.fits,h.say,h.sole⟩
theorem cellsAt_ok {p:Pg}(hc:yK p=true){b:Nat}{l:List By}(hb:1≤b∧b < (wJ p).length)(hsz:(l.length:Int)=szAt (wJ p) b)(hby:∀x∈l,byteB x=true)(hpt:∀x∈l,ptrIn (wJ p) x=true):∀(k at_:Nat),
  (∀c∈jV p.big p.ptr.toNat b l k at_,CellOk p b l at_ c)∧(jV p.big p.ptr.toNat b l k at_).Pairwise (fun x y=>x.p < y.p)∧(jV p.big p.ptr.toNat b l k at_).length≤k
   ∧(l.length≤at_+k→∀j,at_≤j→j < l.length→∃c∈jV p.big p.ptr.toNat b l k at_,c.p≤j∧(j:Int) < c.p+wX p.ptr c.k)
 | 0,at_=>⟨(fun c hc=>by cases hc),List.Pairwise.nil,Nat.le_refl _,fun h j h1 h2=>by omega⟩
 | k+1,at_=>by
  rw [jV]
  split
  ·rename_i hat
   obtain ⟨s1,s2,s3⟩:=step_ok hc hb hsz hby hpt hat
   have h1:=s1.span
   generalize stepV p.big p.ptr.toNat b l at_=s at *
   obtain ⟨i1,i2,i3,i4⟩:=cellsAt_ok hc hb hsz hby hpt k s.2
   refine ⟨fun c hc=>?_,?_,by simp only [List.length_cons]; omega,fun h j h1 h2=>?_⟩
   ·rcases List.mem_cons.1 hc with rfl | hc
    ·exact s1
    ·exact (i1 c hc).le (by omega)
   ·refine List.pairwise_cons.2 ⟨fun c hc=>?_,i2⟩
    have:=(i1 c hc).pos
    omega
   ·by_cases hj:j < s.2
    ·exact ⟨s.1,by simp,by omega,by omega⟩
    ·obtain ⟨c,hc,h3⟩:=i4 (by omega) j (by omega) h2
     exact ⟨c,List.mem_cons_of_mem _ hc,h3⟩
  ·exact ⟨(fun c hc=>by cases hc),List.Pairwise.nil,by simp,fun h j h1 h2=>by omega⟩
theorem justL_ok {p:Pg}(hc:yK p=true){m:List Bl}(hm:FitM p m):∀n,n≤m.length→
  (∀c∈justL p.big p.ptr.toNat m n,(cellB p.ptr (wJ p) c=true∧saysB p m c=true∧soleB c=true)∧c.b < n)∧(justL p.big p.ptr.toNat m n).Pairwise (fun x y=>beforeB x y=true)∧(justL p.big p.ptr.toNat m n).length≤32 * (n - 1)
   ∧∀b,b < n→∀j,j < (yZ m b).l.length→∃c∈justL p.big p.ptr.toNat m n,coverB p.ptr b j c=true
 | 0,_=>⟨(fun c hc=>by cases hc),List.Pairwise.nil,Nat.le_refl _,fun b hb=>by omega⟩
 | n+1,hn=>by
  obtain ⟨i1,i2,i3,i4⟩:=justL_ok hc hm n (by omega)
  have hl:=sizes_len p
  have hl2:=hm.len
  rw [justL]
  have hbl:=yH (m:=m) (i:=n) (by omega)
  by_cases hs:(m[n]'(by omega)).st=1
  rotate_left
  ·have hd:(yZ m (n:Int)).l=[]:=by rw [hbl]; exact hm.dead n (by omega) hs
   rw [hd]
   simp only [List.length_nil,jV,List.append_nil]
   refine ⟨fun c hc=>⟨(i1 c hc).1,by have:=(i1 c hc).2; omega⟩,i2,by omega,fun b hb j hj=>?_⟩
   by_cases hbn:b=n
   ·rw [hbn,hd] at hj; simp at hj
   ·exact i4 b (by omega) j hj
  have hn1:1≤n:=by
   rcases Nat.eq_zero_or_pos n with h0 | h0
   ·subst h0
    have:=hm.zero (by omega)
    omega
   ·exact h0
  obtain ⟨b1,b2,b3,b4⟩:=hm.bytes n (by omega)
  have b5:=hm.size n (by omega) hs
  have b6:=List.all_eq_true.1 (hm.ptrs n (by omega))
  have hst:(yZ m (n:Int)).st=1:=by rw [hbl]; exact hs
  rw [←hbl] at b1 b4 b5 b6
  obtain ⟨l,hll⟩:∃l,l=(yZ m (n:Int)).l:=⟨_,rfl⟩
  have hlc:=hll
  rw [←hll] at b1 b4 b5 b6 ⊢
  obtain ⟨c1,c2,c3,c4⟩:=cellsAt_ok hc ⟨hn1,by omega⟩ b5 b1 b6 l.length 0
  generalize jV p.big p.ptr.toNat n l l.length 0=cs at *
  refine ⟨fun c hcm=>?_,?_,by simp only [List.length_append]; omega,fun b hb j hj=>?_⟩
  ·rcases List.mem_append.1 hcm with hcm | hcm
   ·exact ⟨(i1 c hcm).1,by have:=(i1 c hcm).2; omega⟩
   ·have ok:=c1 c hcm
    refine ⟨⟨ok.cell,?_,ok.sole⟩,by rw [ok.blk]; omega⟩
    unfold saysB cutB
    rw [ok.blk,hst,←hll,ok.say]; rfl
  ·refine List.pairwise_append.2 ⟨i2,?_,fun x hx y hy=>?_⟩
   ·refine List.Pairwise.imp_of_mem (fun {x y} hx hy hxy=>?_) c2
    have e1:=(c1 x hx).blk
    have e2:=(c1 y hy).blk
    unfold beforeB
    rw [if_pos (by rw [e1,e2]),if_neg (by omega)]
    exact decide_eq_true hxy
   ·have e1:=(i1 x hx).2
    have e2:=(c1 y hy).blk
    unfold beforeB
    rw [if_neg (by omega)]
    exact decide_eq_true (by omega)
  ·by_cases hbn:b=n
   ·subst hbn
    rw [←hlc] at hj
    obtain ⟨c,hcm,h3,h4⟩:=c4 (by omega) j (by omega) hj
    refine ⟨c,List.mem_append_right _ hcm,?_⟩
    have ok:=c1 c hcm
    simp [coverB,ok.blk,h3,h4,ok.sole]
   ·obtain ⟨c,hcm,h3⟩:=i4 b (by omega) j hj
    exact ⟨c,List.mem_append_left _ hcm,h3⟩
theorem cellsUp_of {ptr:Int}{sz:List Int}{l:List Pc}(h:∀c∈l,cellB ptr sz c=true)(hp:l.Pairwise (fun x y=>beforeB x y=true)):cellsUp ptr sz l l.length=true:=by
 unfold cellsUp
 rw [List.all_eq_true]
 intro i hi
 have hi:=List.mem_range.1 hi
 rw [upAt_get (List.getElem?_eq_getElem hi),h _ (List.getElem_mem hi),Bool.true_and]
 by_cases h0:i=0
 ·simp [h0]
 ·have:=List.pairwise_iff_getElem.1 hp (i - 1) i (by omega) hi (by omega)
  rw [prevOk_get (List.getElem?_eq_getElem (by omega:i - 1 < l.length)),this]; simp
theorem st_in {s:Int}(h:0≤s∧s≤3):inB (shlv .i64 1 s)=true∧band .i64 (shrv .i64 (shlv .i64 1 s) s) 1=1:=by
 have:s=0∨s=1∨s=2∨s=3:=by omega
 rcases this with rfl | rfl | rfl | rfl <;> decide
theorem justV_news {p:Pg}{m:List Bl}(hm:FitM p m){i:Nat}(hi:i < p.news.length):(justV p m).news[i]? = some (shlv .i64 1 (yZ m ((p.vars.length:Int)+1+i)).st):=by
 have hl:=hm.len
 have e:(p.vars.length:Int)+1+i=((1+p.vars.length+i:Nat):Int):=by omega
 rw [e,yH (by omega)]
 simp only [justV,List.getElem?_map,List.getElem?_drop]
 rw [List.getElem?_eq_getElem (by omega)]; rfl
theorem justV_len {p:Pg}{m:List Bl}(hm:FitM p m):(justV p m).news.length=p.news.length:=by
 have hl:=hm.len
 simp only [justV,List.length_map,List.length_drop]; omega
theorem justV_env {p:Pg}(hc:yK p=true){m:List Bl}(hm:FitM p m):envB p (justV p m)=true:=by
 obtain ⟨i1,i2,i3,i4⟩:=justL_ok hc hm m.length (Nat.le_refl _)
 have hl:=hm.len
 obtain ⟨_,h4,h5,_⟩:=jW hc
 have hn:=justV_len hm
 have hin:(justV p m).news.all inB=true:=by
  rw [List.all_eq_true]
  intro x hx
  obtain ⟨i,hi,rfl⟩:=List.getElem_of_mem hx
  have e:=justV_news hm (i:=i) (by omega)
  rw [List.getElem?_eq_getElem hi] at e
  rw [Option.some.inj e]
  have e:(p.vars.length:Int)+1+i=((1+p.vars.length+i:Nat):Int):=by omega
  rw [e,yH (by omega)]
  obtain ⟨_,b2,b3,_⟩:=hm.bytes (1+p.vars.length+i) (by omega)
  exact (st_in ⟨b2,b3⟩).1
 unfold envB
 rw [if_neg (by simp [justV]),hn,hin]
 have e:(justV p m).cells=justL p.big p.ptr.toNat m m.length:=rfl
 rw [e,cellsUp_of (fun c hc=>(i1 c hc).1.1) i2]
 simp only [decide_true,Bool.and_true,decide_eq_true_eq]
 omega
theorem justV_exact {p:Pg}(hc:yK p=true){m:List Bl}(hm:FitM p m):exactB p (justV p m) m=true:=by
 obtain ⟨i1,i2,i3,i4⟩:=justL_ok hc hm m.length (Nat.le_refl _)
 have hl:=hm.len
 have hn:=justV_len hm
 have e:(justV p m).cells=justL p.big p.ptr.toNat m m.length:=rfl
 unfold exactB inEnv
 rw [e,hn]
 simp only [Bool.and_eq_true,List.all_eq_true,Bool.or_eq_true,decide_eq_true_eq,List.mem_range]
 refine ⟨⟨rfl,fun c hc=>(i1 c hc).1.2.1,fun i hi=>?_⟩,fun b hb=>.inr ?_⟩
 ·unfold newB
  rw [justV_news hm hi,Option.getD_some]
  have e:(p.vars.length:Int)+1+i=((1+p.vars.length+i:Nat):Int):=by omega
  rw [e,yH (by omega)]
  obtain ⟨_,b2,b3,_⟩:=hm.bytes (1+p.vars.length+i) (by omega)
  rw [(st_in ⟨b2,b3⟩).2]; rfl
 ·unfold blockOne byteOne
  rw [List.all_eq_true]
  intro j hj
  rw [List.any_eq_true]
  exact i4 b hb j (List.mem_range.1 hj)
structure Is1 (v:V)(w n:Int):Prop where
 ok:v.ok=true
 wd:v.w=w
 is1:v.is1=true
 at_:v.wQ 0=n
structure Vo (v:V)(w:Int):Prop where
 ok:v.ok=true
 wd:v.w=w
 none:v.wQ 0 < 0
theorem Is1.just {w n:Int}(hw:isW w=true)(hn:isN n w=true):Is1 (V.just w n) w n:=
 ⟨gY hw hn,rfl,(just_is1 hw hn).1,(just_is1 hw hn).2⟩
theorem Vo.nothing {w:Int}(hw:isW w=true):Vo (V.nothing w) w:=⟨gD hw,rfl,by rw [nothing_next]; decide⟩
theorem Is1.rng {v:V}{w n:Int}(h:Is1 v w n):0≤n∧n≤wH w:=by
 have:=is1_mem h.ok h.is1
 rw [h.at_,h.wd] at this
 exact ⟨this.1,this.2.1⟩
theorem Is1.has {v:V}{w n:Int}(h:Is1 v w n){y:Int}(h0:0≤y)(h1:y≤wH w):v.has y=decide (y=n):=by
 obtain ⟨_,_,a,b⟩:=is1_mem h.ok h.is1
 rw [h.at_] at a b
 by_cases e:y=n
 ·rw [e,a]; simp
 ·rw [decide_eq_false e]
  cases hy:v.has y with
  | false=>rfl
  | true=>exact absurd (b y h0 (by rw [h.wd]; exact h1) hy) e
theorem Is1.of {v:V}{w n:Int}(hv:v.ok=true)(hw:v.w=w)(h0:0≤n)(h1:n≤wH w)(hn:v.has n=true)(hy:∀y,0≤y→y≤wH w→v.has y=true→y=n):Is1 v w n:=by
 have:=single_of hv h0 (by rw [hw]; exact h1) hn (by rw [hw]; exact hy)
 exact ⟨hv,hw,this.2,this.1⟩
theorem Is1.both {a b z:V}{w n:Int}(ha:Vo a w)(hb:Is1 b w n)(h:BothR a b z):Is1 z w n:=by
 obtain ⟨r0,r1⟩:=hb.rng
 refine Is1.of h.ok (by rw [h.w,ha.wd]) r0 r1 (h.right _ r0 (by rw [hb.wd]; exact r1) (by rw [hb.has r0 r1]; simp)) fun y y0 y1 hy=>?_
 refine h.one n (fun x x0 x1 hx=>?_) y y0 (by rw [ha.wd]; exact y1) hy
 rw [ha.wd] at x1
 rcases hx with hx | hx
 ·rw [void_has ha.ok ha.none x x0 (by rw [ha.wd]; exact x1)] at hx; cases hx
 ·rw [hb.has x0 x1] at hx; exact of_decide_eq_true hx
theorem Is1.not_void {v:V}{w n:Int}(h:Is1 v w n):¬v.wQ 0 < 0:=by rw [h.at_]; have:=h.rng; omega
theorem Is1.next {v:V}{w n:Int}(h:Is1 v w n):v.wQ (n+1) < 0:=by
 have:=h.is1
 simp only [V.is1,Bool.and_eq_true,decide_eq_true_eq] at this
 rw [h.at_] at this; exact this.2
theorem Is1.mem {v:V}{w n:Int}(h:Is1 v w n)(k:Nat):v.members (k+1)=[n]:=by
 have h1:=h.not_void
 have h2:=h.next
 rw [h.at_] at h1
 simp [V.members,V.mem,h.at_,h1,h2]
theorem Is1.offs {v:V}{n:Int}(h:Is1 v 8 n)(hn:n≤32):v.offs=[n]:=by
 have:=h.rng
 unfold V.offs
 rw [h.at_,V.offF_in ⟨this.1,hn⟩,V.offF_out (by have:=h.next; omega)]
theorem sole_ptrs {b n:Int}{v:V}(hb:0≤b∧b≤6)(h:Is1 v 8 n)(h0:b=0→n=0):jG [⟨b,v⟩]=true:=by
 have hbase:baseB ⟨b,v⟩=true:=by
  simp only [baseB,h.ok,h.wd,h.is1,h.at_]
  by_cases e:b=0
  ·simp [e,h0 e]
  ·simp [e,hb]
 simp [jG,okAt,hbase]
theorem sole_mem {b n:Int}{v:V}(h:Is1 v 8 n)(hn:n≤32):memB [⟨b,v⟩]=[⟨true,0,b,n⟩]:=by
 simp [memB,h.offs hn]
theorem sole_only {b n:Int}{v z:V}(h:Is1 v 8 n)(hn:n≤32):onlyB 7 z [⟨b,v⟩]=(⟨true,0,b,n⟩,true):=by
 have h1:=h.rng
 have h2:=h.next
 have e1:¬(n < 0∨32 < n):=by omega
 have e2:¬(0≤v.wQ (n+1)∧v.wQ (n+1)≤32):=by omega
 simp only [onlyB,if_true,onlyP,List.foldl_cons,List.foldl_nil,onlyStep,h.at_,e1,e2,if_false]
 rfl
theorem sole_points {b n:Int}{v:V}(h:Is1 v 8 n){c o:Int}(h0:0≤o)(h1:o≤32):pointsB [⟨b,v⟩] c o=(decide (b=c) && decide (o=n)):=by
 have:wH 8=255:=by decide
 simp [pointsB,h.has h0 (by omega)]
def CanC (c:Pc):Prop:=
 (c.k=0∧c.v=V.zero∧c.l=[])∨
 (c.k=11∧∃b o i:Int,∃vo,Is1 c.v 8 i∧c.l=[⟨b,vo⟩]∧Is1 vo 8 o∧(1≤b∧b≤6)∧o≤32∧i≤3)∨
 (c.k=7∧∃b o:Int,∃vo,c.v=V.zero∧c.l=[⟨b,vo⟩]∧Is1 vo 8 o∧(1≤b∧b≤6)∧o≤32)∨
 (isK c.k=true∧∃n:Int,Is1 c.v (wK c.k) n∧c.l=[])
def jZ (big:Bool)(ptr:Int)(c:Pc):List By:=
 if c.k=0 then [⟨0,0,0,0,0⟩] else if c.k=11 then [⟨2,0,(onlyB 7 V.zero c.l).1.b,(onlyB 7 V.zero c.l).1.o,c.v.wQ 0⟩]
 else if c.k=7 then ptrL (onlyB 7 V.zero c.l).1.b (onlyB 7 V.zero c.l).1.o ptr.toNat else putL big (wX ptr c.k).toNat ⟨false,c.v.wQ 0,0,0⟩
theorem CanC.sole {c:Pc}(h:CanC c):soleB c=true:=by
 rcases h with ⟨h0,_⟩ | ⟨h1,b,o,i,vo,h2,h3,h4,_,h5,_⟩ | ⟨h1,b,o,vo,_,h3,h4,_,h5⟩ | ⟨h1,n,h2,_⟩
 ·simp [soleB,h0]
 ·simp [soleB,h1,h2.is1,h3,sole_only h4 h5]
 ·rename_i h6; simp [soleB,h1,h3,sole_only h4 h5]
 ·have:¬c.k=0∧¬c.k=11∧¬c.k=7:=by simp only [isK,Bool.and_eq_true,decide_eq_true_eq] at h1; omega
  simp [soleB,this,onlyB,h2.is1]
theorem CanC.content {c:Pc}(h:CanC c):yD c=true:=by
 rcases h with ⟨h0,h1,h2⟩ | ⟨h1,b,o,i,vo,h2,h3,h4,h6,h5,_⟩ | ⟨h1,b,o,vo,h2,h3,h4,h6,h5⟩ | ⟨h1,n,h2,h3⟩
 ·simp [yD,h0,h1,h2]
 ·simp [yD,h1,h2.ok,h2.wd,h3,sole_ptrs (b:=b) (by omega) h4 (by omega)]
 ·simp [yD,h1,isS,absB,h2,h3,sole_ptrs (b:=b) (by omega) h4 (by omega)]
 ·have:¬c.k=0∧¬c.k=11∧¬c.k=7:=by simp only [isK,Bool.and_eq_true,decide_eq_true_eq] at h1; omega
  have hw:0 < ofW c.k:=by have:=(ofW_most c.k).1; omega
  have hs:isS c.k=true:=by simp only [isK,isS,Bool.and_eq_true,decide_eq_true_eq] at h1 ⊢; omega
  simp [yD,this,hs,absB,h2.ok,h2.wd,h3]
  rw [wK_of h1]; exact hw
def byteV (x:Int)(i:Nat):Int:=band .i64 (shrv .i64 x (8 * (i:Int))) 255
theorem byteV_nat (x i:Nat)(h:i≤4):byteV x i=((x / 256 ^ i % 256:Nat):Int):=by
 unfold byteV
 have e:(8 * (i:Int))=((8 * i:Nat):Int):=by omega
 have e2:(255:Int)=2 ^ 8 - 1:=by decide
 rw [e,shrv_nat (by omega),e2,band_most _ (by decide),Nat.shiftRight_eq_div_pow,Nat.pow_mul,show (2:Nat) ^ 8=256 from rfl]
 omega
theorem bor_step {a b:Nat}(ha:a < 2 ^ 40)(hb:b < 256):bor .i64 (shlv .i64 (a:Int) 8) (b:Int)=((a * 256+b:Nat):Int):=by
 have e:(8:Int)=((8:Nat):Int):=rfl
 have hs:a <<< 8=a * 256:=by rw [Nat.shiftLeft_eq]
 rw [e,shlv_nat (by decide) (by omega),bor_nat (by omega) (by omega)]
 congr 1
 rw [←Nat.shiftLeft_add_eq_or_of_lt (show b < 2 ^ 8 from hb),hs]
theorem bytes_back (big:Bool){n x:Nat}(hn:n=1∨n=2∨n=4)(hx:x < 256 ^ n):numL (ordL big (putL big n ⟨false,x,0,0⟩))=x:=by
 have z8:∀y:Nat,y < 256→bor .i64 (shlv .i64 0 8) (y:Int)=y:=fun y hy=>by
  have:=bor_step (a:=0) (b:=y) (by decide) hy
  simpa using this
 rcases hn with rfl | rfl | rfl
 ·have e:ordL big (putL big 1 ⟨false,x,0,0⟩)=[⟨1,byteV x 0,0,0,0⟩]:=by cases big <;> rfl
  rw [e]
  show bor .i64 (shlv .i64 0 8) (byteV x 0)=x
  rw [byteV_nat _ _ (by decide),z8 _ (by omega)]
  simp at hx ⊢; omega
 ·have e:ordL big (putL big 2 ⟨false,x,0,0⟩)=[⟨1,byteV x 1,0,0,0⟩,⟨1,byteV x 0,0,0,0⟩]:=by cases big <;> rfl
  rw [e]
  show bor .i64 (shlv .i64 (bor .i64 (shlv .i64 0 8) (byteV x 1)) 8) (byteV x 0)=x
  rw [byteV_nat _ _ (by decide),byteV_nat _ _ (by decide),z8 _ (by omega),bor_step (by omega) (by omega)]
  simp at hx ⊢; omega
 ·have e:ordL big (putL big 4 ⟨false,x,0,0⟩)=[⟨1,byteV x 3,0,0,0⟩,⟨1,byteV x 2,0,0,0⟩,⟨1,byteV x 1,0,0,0⟩,⟨1,byteV x 0,0,0,0⟩]:=by cases big <;> rfl
  rw [e]
  show bor .i64 (shlv .i64 (bor .i64 (shlv .i64 (bor .i64 (shlv .i64 (bor .i64 (shlv .i64 0 8) (byteV x 3)) 8) (byteV x 2)) 8) (byteV x 1)) 8) (byteV x 0)=x
  rw [byteV_nat _ _ (by decide),byteV_nat _ _ (by decide),byteV_nat _ _ (by decide),byteV_nat _ _ (by decide),z8 _ (by omega),bor_step (by omega) (by omega),bor_step (by omega) (by omega),bor_step (by omega) (by omega)]
  simp at hx ⊢; omega
theorem span_num {ptr k:Int}(h:isK k=true):wX ptr k=1∨wX ptr k=2∨wX ptr k=4:=by
 rcases isK_cases h with rfl | rfl | rfl | rfl | rfl | rfl <;> simp [wX] <;> decide
theorem span_most {ptr k:Int}(h:isK k=true):wH (wK k)=256 ^ (wX ptr k).toNat - 1:=by
 rcases isK_cases h with rfl | rfl | rfl | rfl | rfl | rfl <;> simp [wX] <;> decide
theorem putL_st {big:Bool}{n:Nat}{x:Int}:∀y∈putL big n ⟨false,x,0,0⟩,y.st=1:=by
 intro y hy
 simp only [putL,List.mem_map] at hy
 obtain ⟨i,_,rfl⟩:=hy
 rfl
theorem st_num {big:Bool}{n:Nat}{x:Int}{s:Int}(hs:¬s=1):stIs s (putL big n ⟨false,x,0,0⟩)=false:=by
 rw [stIs,List.any_eq_false]
 intro y hy
 rw [putL_st y hy]; simp [Ne.symm hs]
theorem read_num (big:Bool){ptr k kk:Int}(hk:isK k=true)(hkk:¬kk=7){x:Int}(h0:0≤x)(h1:x≤wH (wK k)):yW big kk (putL big (wX ptr k).toNat ⟨false,x,0,0⟩)=(⟨false,x,0,0⟩,0):=by
 obtain ⟨n,rfl⟩:=Int.eq_ofNat_of_zero_le h0
 have hn:(wX ptr k).toNat=1∨(wX ptr k).toNat=2∨(wX ptr k).toNat=4:=by have:=span_num (ptr:=ptr) hk; omega
 have hm:=span_most (ptr:=ptr) hk
 have hx:n < 256 ^ (wX ptr k).toNat:=by
  rw [hm] at h1
  have:((256 ^ (wX ptr k).toNat:Nat):Int)=256 ^ (wX ptr k).toNat:=by simp
  omega
 unfold yW
 rw [st_num (by decide),st_num (by decide),if_neg (by simp),if_neg hkk,if_neg (by simp),bytes_back big hn hx]
theorem ptrL_0 {b o:Int}{n:Nat}(hn:0 < n):yQ (ptrL b o n) 0=wantB b o 0:=by
 unfold yQ; rw [ptrL_get hn]; rfl
theorem read_ptr (big:Bool){b o:Int}{n:Nat}(hn:0 < n)(hb:1≤b):yW big 7 (ptrL b o n)=(⟨true,0,b,o⟩,0):=by
 have h2:stIs 0 (ptrL b o n)=false:=by
  rw [stIs,List.any_eq_false]
  intro y hy
  simp only [ptrL,List.mem_map] at hy
  obtain ⟨i,_,rfl⟩:=hy
  unfold wantB
  rw [if_pos (by omega)]; simp
 have e:(wantB b o 0).b=b∧(wantB b o 0).o=o:=by unfold wantB; rw [if_pos (by omega)]; exact ⟨rfl,rfl⟩
 unfold yW
 rw [h2,if_neg (by simp),if_pos rfl]
 unfold jJ
 rw [ptrL_0 hn,e.1,e.2,ptrL_len,if_pos rfl]
theorem CanC.len {ptr:Int}{big:Bool}{c:Pc}(h:CanC c)(hp:ptr=2∨ptr=4):(jZ big ptr c).length=(wX ptr c.k).toNat:=by
 unfold jZ
 split
 ·rename_i h0; rw [h0,span_0]; rfl
 split
 ·rename_i h0; rw [h0,span_11]; rfl
 split
 ·rename_i h0; rw [h0,span_7,ptrL_len]
 ·rw [gV]
theorem CanC.says {ptr:Int}{big:Bool}{c:Pc}(h:CanC c)(hp:ptr=2∨ptr=4):sayV big c (jZ big ptr c)=true:=by
 rcases h with ⟨h0,h1,h2⟩ | ⟨h1,b,o,i,vo,h2,h3,h4,h6,h5,h7⟩ | ⟨h1,b,o,vo,h2,h3,h4,h6,h5⟩ | ⟨h1,n,h2,h3⟩
 ·unfold sayV jZ
  rw [if_pos h0,if_pos h0]; rfl
 ·have r1:=h2.rng
  have r2:=h4.rng
  have:=sole_only (b:=b) (z:=V.zero) h4 h5
  unfold sayV jZ
  rw [h1,if_neg (by decide),if_pos rfl,if_neg (by decide),if_pos rfl,h3,this,byAt_one,h2.at_]
  simp only [decide_true,Bool.true_and]
  rw [h2.has r1.1 r1.2,sole_points h4 r2.1 h5]; simp
 ·have r2:=h4.rng
  have:=sole_only (b:=b) (z:=V.zero) h4 h5
  unfold sayV jZ
  rw [h1,if_neg (by decide),if_neg (by decide),if_neg (by decide),if_neg (by decide),if_pos rfl,h3,this]
  show (decide ((yW big 7 (ptrL b o ptr.toNat)).2=0) && hasB 7 c.v [⟨b,vo⟩] (yW big 7 (ptrL b o ptr.toNat)).1)=true
  rw [read_ptr big (by omega) (by omega)]
  simp only [hasB,decide_true,Bool.true_and,if_true]
  rw [sole_points h4 r2.1 h5]; simp
 ·have:¬c.k=0∧¬c.k=11∧¬c.k=7:=by simp only [isK,Bool.and_eq_true,decide_eq_true_eq] at h1; omega
  have r1:=h2.rng
  unfold sayV jZ
  rw [if_neg this.1,if_neg this.2.1,if_neg this.1,if_neg this.2.1,if_neg this.2.2,h2.at_,read_num big h1 this.2.2 r1.1 r1.2]
  simp only [hasB,if_neg this.2.2,decide_true,Bool.true_and]
  rw [h2.has r1.1 r1.2]; simp
def OverC (ptr:Int)(b:Nat)(j:Nat)(c:Pc):Prop:=c.b=b∧c.p≤j∧(j:Int) < c.p+wX ptr c.k
def ApartC (ptr:Int)(a b:Pc):Prop:=¬a.b=b.b∨a.p+wX ptr a.k≤b.p∨b.p+wX ptr b.k≤a.p
structure CellIn (p:Pg)(m:List Bl)(c:Pc):Prop where
 can:CanC c
 blk:1≤c.b∧c.b < m.length
 pos:0≤c.p
 al:c.p.tmod (wX p.ptr c.k)=0
 fits:c.p+wX p.ptr c.k≤(yZ m c.b).l.length
 known:knownB c.l ((m.length:Int) - 1)=true
 is:cutB p.ptr m c=jZ p.big p.ptr c
structure Mir (p:Pg)(L:List Pc)(m:List Bl):Prop where
 cells:∀c∈L,CellIn p m c
 order:L.Pairwise (fun a b=>beforeB a b=true)
 apart:L.Pairwise (ApartC p.ptr)
 cover:∀b j:Nat,j < (yZ m (b:Int)).l.length→∃c∈L,OverC p.ptr b j c
theorem rising_len:∀(l:List Int) (lo hi:Int),l.Pairwise (· < ·)→(∀x∈l,lo≤x∧x < hi)→lo≤hi→(l.length:Int)≤hi - lo
 | [],lo,hi,_,_,h=>by simp; omega
 | x :: l,lo,hi,hp,hr,h=>by
  have hx:=hr x (by simp)
  have:=rising_len l (x+1) hi (List.pairwise_cons.1 hp).2 (fun y hy=>⟨by have:=(List.pairwise_cons.1 hp).1 y hy; omega,(hr y (List.mem_cons_of_mem _ hy)).2⟩) (by omega)
  simp only [List.length_cons]; omega
theorem CanC.kind {c:Pc}(h:CanC c):c.k=0∨c.k=11∨isS c.k=true:=content_kind h.content
theorem Mir.few {p:Pg}{L:List Pc}{m:List Bl}(h:Mir p L m)(hm:FitM p m)(hc:yK p=true):L.length≤192:=by
 have hp:=jW hc
 have hl:=hm.len
 have key:(L.map fun c=>c.b * 32+c.p).Pairwise (· < ·):=by
  rw [List.pairwise_map]
  refine (h.order.and h.apart).imp_of_mem fun {a b} ha hb hab=>?_
  obtain ⟨h1,h2⟩:=hab
  have ca:=h.cells a ha
  have cb:=h.cells b hb
  have sa:=jX hp.1 ca.can.kind
  have sb:=jX hp.1 cb.can.kind
  have fa:=ca.fits
  have fb:=cb.fits
  have:(yZ m a.b).l.length≤32:=by
   obtain ⟨i,hi⟩:=Int.eq_ofNat_of_zero_le (by have:=ca.blk; omega:0≤a.b)
   rw [hi,yH (by have:=ca.blk; omega)]
   exact (hm.bytes i (by have:=ca.blk; omega)).2.2.2
  have pa:=ca.pos
  have pb:=cb.pos
  unfold beforeB at h1
  unfold ApartC at h2
  split at h1
  ·split at h1
   ·omega
   ·have:=of_decide_eq_true h1; omega
  ·have:=of_decide_eq_true h1; omega
 have:=rising_len _ 32 224 key (fun x hx=>by
  obtain ⟨c,hcm,rfl⟩:=List.mem_map.1 hx
  have cc:=h.cells c hcm
  have s:=jX hp.1 cc.can.kind
  have f:=cc.fits
  have b:=cc.blk
  have:(yZ m c.b).l.length≤32:=by
   obtain ⟨i,hi⟩:=Int.eq_ofNat_of_zero_le (by omega:0≤c.b)
   rw [hi,yH (by omega)]
   exact (hm.bytes i (by omega)).2.2.2
  have:=cc.pos
  omega) (by decide)
 simp at this; omega
theorem alive_of {p:Pg}{m:List Bl}(hm:FitM p m){b:Int}(hb:1≤b∧b < m.length)(hl:0 < (yZ m b).l.length):(yZ m b).st=1∧((yZ m b).l.length:Int)=szAt (wJ p) b:=by
 obtain ⟨i,rfl⟩:=Int.eq_ofNat_of_zero_le (by omega:0≤b)
 have hi:i < m.length:=by omega
 rw [yH hi] at hl ⊢
 have hs:(m[i]).st=1:=Decidable.byContradiction fun h=>by rw [hm.dead i hi h] at hl; simp at hl
 exact ⟨hs,hm.size i hi hs⟩
theorem CellIn.cell {p:Pg}{m:List Bl}(hm:FitM p m)(hc:yK p=true){c:Pc}(h:CellIn p m c):cellB p.ptr (wJ p) c=true:=by
 have hp:=jW hc
 have hl:=hm.len
 have hl2:=sizes_len p
 have s:=jX hp.1 h.can.kind
 have f:=h.fits
 have q:=h.pos
 have b:=h.blk
 obtain ⟨_,hsz⟩:=alive_of hm b (by omega)
 have hk:=h.known
 have e:(m.length:Int) - 1=((wJ p).length:Int) - 1:=by omega
 rw [e] at hk
 simp only [cellB,h.can.content,hk,h.al,decide_true,Bool.and_true,Bool.true_and,Bool.and_eq_true,decide_eq_true_eq]
 omega
def newsV (p:Pg)(m:List Bl):List Int:=(m.drop (1+p.vars.length)).map fun x=>shlv .i64 1 x.st
theorem Mir.env {p:Pg}{L:List Pc}{m:List Bl}(h:Mir p L m)(hm:FitM p m)(hc:yK p=true):envB p ⟨false,L,newsV p m⟩=true:=by
 have hj:=justV_env hc hm
 have hf:=h.few hm hc
 unfold envB at hj ⊢
 rw [if_neg (by simp [justV])] at hj
 rw [if_neg (by simp)]
 simp only [Bool.and_eq_true,decide_eq_true_eq] at hj ⊢
 exact ⟨⟨⟨by omega,hj.1.1.2⟩,hj.1.2⟩,cellsUp_of (fun c hcm=>(h.cells c hcm).cell hm hc) h.order⟩
theorem Mir.has {p:Pg}{L:List Pc}{m:List Bl}(h:Mir p L m)(hm:FitM p m)(hc:yK p=true):inEnv p ⟨false,L,newsV p m⟩ m=true:=by
 have hp:=jW hc
 have hj:=justV_exact hc hm
 unfold exactB inEnv at hj
 unfold inEnv
 simp only [Bool.and_eq_true,List.all_eq_true] at hj ⊢
 refine ⟨rfl,fun c hcm=>?_,hj.1.2.2⟩
 have cc:=h.cells c hcm
 unfold saysB
 rw [cc.is,cc.can.says hp.1,Bool.or_true]
structure Gu where
 no:Bool
 num:V
 isv:V
 lA:Option Addr
 lC:Nat
 l:List Ba
def Gu.cs (s:Gu):List Value:=[.bool s.no,.int .i64 s.num.w,.bool s.num.no,.int .i64 s.num.low,.int .i64 s.num.high,.int .i64 s.num.free,.int .i64 s.num.bits,.int .i64 s.isv.w,.bool s.isv.no,.int .i64 s.isv.low,.int .i64 s.isv.high,.int .i64 s.isv.free,.int .i64 s.isv.bits,.slice s.lA s.l.length s.lC]
def Gu.val (s:Gu):Value:=.agg s.cs.toArray
@[go_sem] theorem Gu.fold2 {s:Gu}:Value.agg s.cs.toArray=s.val:=rfl
@[go_sem] theorem Gu.cells_m {s:Gu}:Value.cells.match_1 (fun _=>Array Value) s.val (fun cs=>cs) (fun u=>#[u])=s.cs.toArray:=rfl
@[go_sem] theorem Gu.cells_val {s:Gu}:s.val.cells=s.cs.toArray:=rfl
@[go_sem] theorem Gu.cs_size {s:Gu}:s.cs.toArray.size=14:=rfl
@[go_sem] theorem Gu.cs_len {s:Gu}:s.cs.length=14:=rfl
@[go_sem] theorem Gu.jD {s:Gu}:wZ s.cs=True:=by
 apply eq_true
 intro u hu
 simp only [Gu.cs,List.mem_cons,List.not_mem_nil,or_false] at hu
 rcases hu with rfl | rfl | rfl | rfl | rfl | rfl | rfl | rfl | rfl | rfl | rfl | rfl | rfl | rfl <;> rfl
theorem Gu.plain (s:Gu):wZ s.cs:=of_eq_true Gu.jD
theorem Gu.len (s:Gu):s.cs.length=14:=rfl
@[go_sem] theorem Gu.take_all {s:Gu}:s.cs.take 14=s.cs:=rfl
@[go_sem] theorem Gu.take0 {s:Gu}:s.cs.take 0=[]:=rfl
@[go_sem] theorem Gu.drop_all {s:Gu}:s.cs.drop 14=[]:=rfl
@[go_sem] theorem Gu.ld {s:Gu}:rd true 14 s.cs 0=some s.val:=rfl
@[go_sem] theorem Gu.get0 {s:Gu}:s.cs[0]? = some (.bool s.no):=rfl
@[go_sem] theorem Gu.ld0 {s:Gu}:rd false 1 s.cs 0=some (.bool s.no):=rfl
@[go_sem] theorem Gu.get1 {s:Gu}:s.cs[1]? = some (.int .i64 s.num.w):=rfl
@[go_sem] theorem Gu.ld1 {s:Gu}:rd false 1 s.cs 1=some (.int .i64 s.num.w):=rfl
@[go_sem] theorem Gu.get2 {s:Gu}:s.cs[2]? = some (.bool s.num.no):=rfl
@[go_sem] theorem Gu.ld2 {s:Gu}:rd false 1 s.cs 2=some (.bool s.num.no):=rfl
@[go_sem] theorem Gu.get3 {s:Gu}:s.cs[3]? = some (.int .i64 s.num.low):=rfl
@[go_sem] theorem Gu.ld3 {s:Gu}:rd false 1 s.cs 3=some (.int .i64 s.num.low):=rfl
@[go_sem] theorem Gu.get4 {s:Gu}:s.cs[4]? = some (.int .i64 s.num.high):=rfl
@[go_sem] theorem Gu.ld4 {s:Gu}:rd false 1 s.cs 4=some (.int .i64 s.num.high):=rfl
@[go_sem] theorem Gu.get5 {s:Gu}:s.cs[5]? = some (.int .i64 s.num.free):=rfl
@[go_sem] theorem Gu.ld5 {s:Gu}:rd false 1 s.cs 5=some (.int .i64 s.num.free):=rfl
@[go_sem] theorem Gu.get6 {s:Gu}:s.cs[6]? = some (.int .i64 s.num.bits):=rfl
@[go_sem] theorem Gu.ld6 {s:Gu}:rd false 1 s.cs 6=some (.int .i64 s.num.bits):=rfl
@[go_sem] theorem Gu.get7 {s:Gu}:s.cs[7]? = some (.int .i64 s.isv.w):=rfl
@[go_sem] theorem Gu.ld7 {s:Gu}:rd false 1 s.cs 7=some (.int .i64 s.isv.w):=rfl
@[go_sem] theorem Gu.get8 {s:Gu}:s.cs[8]? = some (.bool s.isv.no):=rfl
@[go_sem] theorem Gu.ld8 {s:Gu}:rd false 1 s.cs 8=some (.bool s.isv.no):=rfl
@[go_sem] theorem Gu.get9 {s:Gu}:s.cs[9]? = some (.int .i64 s.isv.low):=rfl
@[go_sem] theorem Gu.ld9 {s:Gu}:rd false 1 s.cs 9=some (.int .i64 s.isv.low):=rfl
@[go_sem] theorem Gu.get10 {s:Gu}:s.cs[10]? = some (.int .i64 s.isv.high):=rfl
@[go_sem] theorem Gu.ld10 {s:Gu}:rd false 1 s.cs 10=some (.int .i64 s.isv.high):=rfl
@[go_sem] theorem Gu.get11 {s:Gu}:s.cs[11]? = some (.int .i64 s.isv.free):=rfl
@[go_sem] theorem Gu.ld11 {s:Gu}:rd false 1 s.cs 11=some (.int .i64 s.isv.free):=rfl
@[go_sem] theorem Gu.get12 {s:Gu}:s.cs[12]? = some (.int .i64 s.isv.bits):=rfl
@[go_sem] theorem Gu.ld12 {s:Gu}:rd false 1 s.cs 12=some (.int .i64 s.isv.bits):=rfl
@[go_sem] theorem Gu.get13 {s:Gu}:s.cs[13]? = some (.slice s.lA s.l.length s.lC):=rfl
@[go_sem] theorem Gu.ld13 {s:Gu}:rd false 1 s.cs 13=some (.slice s.lA s.l.length s.lC):=rfl
@[go_sem] theorem Gu.sub_num {s:Gu}:rd true 6 s.cs 1=some (s.num.val):=rfl
@[go_sem] theorem Gu.sub_isv {s:Gu}:rd true 6 s.cs 7=some (s.isv.val):=rfl
structure Fo where
 v:V
 lA:Option Addr
 lC:Nat
 l:List Ba
 badsA:Option Addr
 badsC:Nat
 bads:List Int
def Fo.cs (s:Fo):List Value:=[.int .i64 s.v.w,.bool s.v.no,.int .i64 s.v.low,.int .i64 s.v.high,.int .i64 s.v.free,.int .i64 s.v.bits,.slice s.lA s.l.length s.lC,.slice s.badsA s.bads.length s.badsC]
def Fo.val (s:Fo):Value:=.agg s.cs.toArray
@[go_sem] theorem Fo.fold2 {s:Fo}:Value.agg s.cs.toArray=s.val:=rfl
@[go_sem] theorem Fo.cells_m {s:Fo}:Value.cells.match_1 (fun _=>Array Value) s.val (fun cs=>cs) (fun u=>#[u])=s.cs.toArray:=rfl
@[go_sem] theorem Fo.cells_val {s:Fo}:s.val.cells=s.cs.toArray:=rfl
@[go_sem] theorem Fo.cs_size {s:Fo}:s.cs.toArray.size=8:=rfl
@[go_sem] theorem Fo.cs_len {s:Fo}:s.cs.length=8:=rfl
@[go_sem] theorem Fo.jD {s:Fo}:wZ s.cs=True:=by
 apply eq_true
 intro u hu
 simp only [Fo.cs,List.mem_cons,List.not_mem_nil,or_false] at hu
 rcases hu with rfl | rfl | rfl | rfl | rfl | rfl | rfl | rfl <;> rfl
@[go_sem] theorem Fo.take_all {s:Fo}:s.cs.take 8=s.cs:=rfl
@[go_sem] theorem Fo.take0 {s:Fo}:s.cs.take 0=[]:=rfl
@[go_sem] theorem Fo.drop_all {s:Fo}:s.cs.drop 8=[]:=rfl
@[go_sem] theorem Fo.ld {s:Fo}:rd true 8 s.cs 0=some s.val:=rfl
@[go_sem] theorem Fo.get0 {s:Fo}:s.cs[0]? = some (.int .i64 s.v.w):=rfl
@[go_sem] theorem Fo.ld0 {s:Fo}:rd false 1 s.cs 0=some (.int .i64 s.v.w):=rfl
@[go_sem] theorem Fo.get1 {s:Fo}:s.cs[1]? = some (.bool s.v.no):=rfl
@[go_sem] theorem Fo.ld1 {s:Fo}:rd false 1 s.cs 1=some (.bool s.v.no):=rfl
@[go_sem] theorem Fo.get2 {s:Fo}:s.cs[2]? = some (.int .i64 s.v.low):=rfl
@[go_sem] theorem Fo.ld2 {s:Fo}:rd false 1 s.cs 2=some (.int .i64 s.v.low):=rfl
@[go_sem] theorem Fo.get3 {s:Fo}:s.cs[3]? = some (.int .i64 s.v.high):=rfl
@[go_sem] theorem Fo.ld3 {s:Fo}:rd false 1 s.cs 3=some (.int .i64 s.v.high):=rfl
@[go_sem] theorem Fo.get4 {s:Fo}:s.cs[4]? = some (.int .i64 s.v.free):=rfl
@[go_sem] theorem Fo.ld4 {s:Fo}:rd false 1 s.cs 4=some (.int .i64 s.v.free):=rfl
@[go_sem] theorem Fo.get5 {s:Fo}:s.cs[5]? = some (.int .i64 s.v.bits):=rfl
@[go_sem] theorem Fo.ld5 {s:Fo}:rd false 1 s.cs 5=some (.int .i64 s.v.bits):=rfl
@[go_sem] theorem Fo.get6 {s:Fo}:s.cs[6]? = some (.slice s.lA s.l.length s.lC):=rfl
@[go_sem] theorem Fo.ld6 {s:Fo}:rd false 1 s.cs 6=some (.slice s.lA s.l.length s.lC):=rfl
@[go_sem] theorem Fo.get7 {s:Fo}:s.cs[7]? = some (.slice s.badsA s.bads.length s.badsC):=rfl
@[go_sem] theorem Fo.ld7 {s:Fo}:rd false 1 s.cs 7=some (.slice s.badsA s.bads.length s.badsC):=rfl
@[go_sem] theorem Fo.sub_abs {s:Fo}:rd true 7 s.cs 0=some (abV s.v (.slice s.lA s.l.length s.lC)):=rfl
@[go_sem] theorem Fo.sub_num {s:Fo}:rd true 6 s.cs 0=some (s.v.val):=rfl
structure Sp where
 b:Int
 p:Int
def Sp.cs (s:Sp):List Value:=[.int .i64 s.b,.int .i64 s.p]
def Sp.val (s:Sp):Value:=.agg s.cs.toArray
@[go_sem] theorem Sp.fold2 {s:Sp}:Value.agg s.cs.toArray=s.val:=rfl
@[go_sem] theorem Sp.cells_m {s:Sp}:Value.cells.match_1 (fun _=>Array Value) s.val (fun cs=>cs) (fun u=>#[u])=s.cs.toArray:=rfl
@[go_sem] theorem Sp.cells_val {s:Sp}:s.val.cells=s.cs.toArray:=rfl
@[go_sem] theorem Sp.cs_size {s:Sp}:s.cs.toArray.size=2:=rfl
@[go_sem] theorem Sp.cs_len {s:Sp}:s.cs.length=2:=rfl
@[go_sem] theorem Sp.jD {s:Sp}:wZ s.cs=True:=by
 apply eq_true
 intro u hu
 simp only [Sp.cs,List.mem_cons,List.not_mem_nil,or_false] at hu
 rcases hu with rfl | rfl <;> rfl
theorem Sp.plain (s:Sp):wZ s.cs:=of_eq_true Sp.jD
theorem Sp.len (s:Sp):s.cs.length=2:=rfl
@[go_sem] theorem Sp.take_all {s:Sp}:s.cs.take 2=s.cs:=rfl
@[go_sem] theorem Sp.take0 {s:Sp}:s.cs.take 0=[]:=rfl
@[go_sem] theorem Sp.drop_all {s:Sp}:s.cs.drop 2=[]:=rfl
@[go_sem] theorem Sp.ld {s:Sp}:rd true 2 s.cs 0=some s.val:=rfl
@[go_sem] theorem Sp.get0 {s:Sp}:s.cs[0]? = some (.int .i64 s.b):=rfl
@[go_sem] theorem Sp.ld0 {s:Sp}:rd false 1 s.cs 0=some (.int .i64 s.b):=rfl
@[go_sem] theorem Sp.get1 {s:Sp}:s.cs[1]? = some (.int .i64 s.p):=rfl
@[go_sem] theorem Sp.ld1 {s:Sp}:rd false 1 s.cs 1=some (.int .i64 s.p):=rfl
theorem Sp.row {cs:List Value}{p:Nat}{s:Sp}(h:(cs.drop p).take 2=s.cs):cs[p]? = some (.int .i64 s.b)∧cs[p+1]? = some (.int .i64 s.p):=by
 have key:∀j,j < 2→cs[p+j]? = s.cs[j]?:=fun j hj=>by
  rw [←h,List.getElem?_take_of_lt hj,List.getElem?_drop]
 exact ⟨key 0 (by decide),key 1 (by decide)⟩
instance Sp.dec:DecidableEq Sp:=fun x y=>decidable_of_iff (x.b=y.b∧x.p=y.p) (by cases x; cases y; simp)
theorem decEq_Sp (a b:Sp):decide (a=b)=(decide (a.b=b.b) && (decide (a.p=b.p) && true)):=by
 rw [Bool.eq_iff_iff]
 cases a; cases b
 simp
@[go_sem] theorem eqV_Sp (a b:Sp):eqV (.st [(false,0,1,.i),(false,1,1,.i)]) a.val b.val=some (decide (a=b)):=by
 rw [decEq_Sp]; rfl
structure Si where
 p:Pg
 e:En
def Si.cs (s:Si):List Value:=s.p.cs++s.e.cs
def Si.val (s:Si):Value:=.agg s.cs.toArray
@[go_sem] theorem Si.fold2 {s:Si}:Value.agg s.cs.toArray=s.val:=rfl
@[go_sem] theorem Si.fold3 {p:Pg} {e:En}:Value.agg (p.cs++e.cs).toArray=(Si.mk p e).val:=rfl
@[go_sem] theorem Si.cells_m {s:Si}:Value.cells.match_1 (fun _=>Array Value) s.val (fun cs=>cs) (fun u=>#[u])=s.cs.toArray:=rfl
@[go_sem] theorem Si.cells_val {s:Si}:s.val.cells=s.cs.toArray:=rfl
@[go_sem] theorem Si.cs_size {s:Si}:s.cs.toArray.size=10:=rfl
@[go_sem] theorem Si.cs_len {s:Si}:s.cs.length=10:=rfl
@[go_sem] theorem Si.jD {s:Si}:wZ s.cs=True:=by
 apply eq_true
 intro u hu
 simp only [Si.cs,Pg.cs,En.cs,List.mem_append,List.mem_cons,List.not_mem_nil,or_false] at hu
 rcases hu with (rfl | rfl | rfl | rfl | rfl | rfl | rfl) | rfl | rfl | rfl <;> rfl
@[go_sem] theorem Si.take_all {s:Si}:s.cs.take 10=s.cs:=rfl
@[go_sem] theorem Si.take0 {s:Si}:s.cs.take 0=[]:=rfl
@[go_sem] theorem Si.drop_all {s:Si}:s.cs.drop 10=[]:=rfl
@[go_sem] theorem Si.ld {s:Si}:rd true 10 s.cs 0=some s.val:=rfl
@[go_sem] theorem Si.ldp {s:Si}:rd true 7 s.cs 0=some s.p.val:=rfl
@[go_sem] theorem Si.lda {s:Si}:rd true 2 s.cs 0=some (.agg #[.bool s.p.big,.int .i64 s.p.ptr]):=rfl
@[go_sem] theorem Si.lde {s:Si}:rd true 3 s.cs 7=some s.e.val:=rfl
@[go_sem] theorem Si.get0 {s:Si}:s.cs[0]? = some (.bool s.p.big):=rfl
@[go_sem] theorem Si.ld0 {s:Si}:rd false 1 s.cs 0=some (.bool s.p.big):=rfl
@[go_sem] theorem Si.get1 {s:Si}:s.cs[1]? = some (.int .i64 s.p.ptr):=rfl
@[go_sem] theorem Si.ld1 {s:Si}:rd false 1 s.cs 1=some (.int .i64 s.p.ptr):=rfl
@[go_sem] theorem Si.get2 {s:Si}:s.cs[2]? = some (.slice s.p.vA s.p.vars.length s.p.vC):=rfl
@[go_sem] theorem Si.ld2 {s:Si}:rd false 1 s.cs 2=some (.slice s.p.vA s.p.vars.length s.p.vC):=rfl
@[go_sem] theorem Si.get3 {s:Si}:s.cs[3]? = some (.slice s.p.nA s.p.news.length s.p.nC):=rfl
@[go_sem] theorem Si.ld3 {s:Si}:rd false 1 s.cs 3=some (.slice s.p.nA s.p.news.length s.p.nC):=rfl
@[go_sem] theorem Si.get7 {s:Si}:s.cs[7]? = some (.bool s.e.no):=rfl
@[go_sem] theorem Si.ld7 {s:Si}:rd false 1 s.cs 7=some (.bool s.e.no):=rfl
@[go_sem] theorem Si.get8 {s:Si}:s.cs[8]? = some (.slice s.e.cellsA s.e.cells.length s.e.cellsC):=rfl
@[go_sem] theorem Si.ld8 {s:Si}:rd false 1 s.cs 8=some (.slice s.e.cellsA s.e.cells.length s.e.cellsC):=rfl
@[go_sem] theorem Si.get9 {s:Si}:s.cs[9]? = some (.slice s.e.newsA s.e.news.length s.e.newsC):=rfl
@[go_sem] theorem Si.ld9 {s:Si}:rd false 1 s.cs 9=some (.slice s.e.newsA s.e.news.length s.e.newsC):=rfl
def Gu.rd (F:Fz)(M:Hp)(s:Gu):Prop:=RdG 7 Ba.cs F M (.slice s.lA s.l.length s.lC) s.l
structure Fo.rd (F:Fz)(M:Hp)(s:Fo):Prop where
 row:RdG 7 Ba.cs F M (.slice s.lA s.l.length s.lC) s.l
 bads:intR F M s.badsA s.badsC s.bads
theorem Fo.rd.keep {F:Fz}{M M':Hp}{s:Fo}(h:s.rd F M)(kp:Keep M M')(o:Old F M'):s.rd F M':=⟨h.row.keep kp o,h.bads.keep kp o⟩
structure GuR (g:Gu)(x:By):Prop where
 num:g.num.ok=true∧g.num.w=8
 isv:g.isv.ok=true∧g.isv.w=8
 row:jG g.l=true
 st0:x.st=0→x=⟨0,0,0,0,0⟩∧g.no=true∧Vo g.num 8∧Vo g.isv 8∧g.l=[]
 st1:x.st=1→x=⟨1,x.n,0,0,0⟩∧g.no=false∧Is1 g.num 8 x.n∧Vo g.isv 8∧g.l=[]
 st2:x.st=2→x=⟨2,0,x.b,x.o,x.i⟩∧g.no=false∧Vo g.num 8∧Is1 g.isv 8 x.i∧(1≤x.b∧x.b≤6)∧x.o≤32∧x.i≤3∧∃vo,g.l=[⟨x.b,vo⟩]∧Is1 vo 8 x.o
 st:x.st=0∨x.st=1∨x.st=2
def plainK (k:Int):Int:=k - (k - 1).tmod 2
theorem plain_k {k:Int}(h:isK k=true):isK (plainK k)=true∧ofW (plainK k)=ofW k∧sgn (plainK k)=false:=by
 rcases isK_cases h with rfl | rfl | rfl | rfl | rfl | rfl <;> decide
theorem span_ofW {ptr k:Int}(h:isK k=true):ofW k=8 * wX ptr k:=by
 rcases isK_cases h with rfl | rfl | rfl | rfl | rfl | rfl <;> simp [wX] <;> decide
theorem shr_two {ptr k n:Int}(h:isK k=true)(h0:0≤n)(h1:n≤wH (ofW k)){i:Nat}(hi:(i:Int) < wX ptr k):twoK 17 (plainK k) n (8 * (i:Int))=(n / 256 ^ i,0):=by
 obtain ⟨p1,p2,p3⟩:=plain_k h
 have hs:=span_ofW (ptr:=ptr) h
 have s1:gG (plainK k) n=n:=by simp [gG,p3]
 have s2:gG (plainK k) (8 * (i:Int))=8 * i:=by simp [gG,p3]
 have e2:(2:Int) ^ (8 * (i:Int)).toNat=256 ^ i:=by
  have:(8 * (i:Int)).toNat=8 * i:=by omega
  rw [this,Int.pow_mul]; rfl
 have hd:n / 256 ^ i≤n:=Int.ediv_le_self _ h0
 have hd0:0≤n / 256 ^ i:=Int.ediv_nonneg h0 (Int.pow_nonneg (by decide))
 have hm:n / 256 ^ i % 2 ^ (ofW k).toNat=n / 256 ^ i:=by
  refine Int.emod_eq_of_lt hd0 ?_
  unfold wH at h1
  omega
 simp only [twoK,Int.reduceEq,if_false,or_self,or_true,if_true,s1,s2,shiftK,p2]
 rw [if_neg (by omega),e2,hm]
theorem byteV_div {n:Int}(h0:0≤n){i:Nat}(hi:i≤4):n / 256 ^ i % 256=byteV n i:=by
 obtain ⟨m,rfl⟩:=Int.eq_ofNat_of_zero_le h0
 rw [byteV_nat m i hi]
 simp
def splice (l:List By)(at_:Nat)(bs:List By):List By:=l.take at_++bs++l.drop (at_+bs.length)
theorem splice_len {l:List By}{at_:Nat}{bs:List By}(h:at_+bs.length≤l.length):(splice l at_ bs).length=l.length:=by
 simp [splice]; omega
theorem splice_get {l:List By}{at_:Nat}{bs:List By}(h:at_+bs.length≤l.length)(i:Nat):(splice l at_ bs)[i]? = if at_≤i∧i < at_+bs.length then bs[i - at_]? else l[i]?:=by
 unfold splice
 have hl:(l.take at_).length=at_:=by simp; omega
 by_cases h1:i < at_
 ·rw [if_neg (by omega),List.append_assoc,List.getElem?_append_left (by rw [hl]; exact h1),List.getElem?_take_of_lt h1]
 ·rw [List.append_assoc,List.getElem?_append_right (by rw [hl]; omega),hl]
  by_cases h2:i < at_+bs.length
  ·rw [if_pos ⟨by omega,h2⟩,List.getElem?_append_left (by omega)]
  ·rw [if_neg (by omega),List.getElem?_append_right (by omega),List.getElem?_drop]
   congr 1; omega
theorem splice_cut {l:List By}{at_:Nat}{bs:List By}(h:at_+bs.length≤l.length){p s:Nat}(hp:p+s≤at_∨at_+bs.length≤p):((splice l at_ bs).drop p).take s=(l.drop p).take s:=by
 apply List.ext_getElem?
 intro i
 by_cases hi:i < s
 ·rw [List.getElem?_take_of_lt hi,List.getElem?_take_of_lt hi,List.getElem?_drop,List.getElem?_drop,splice_get h,if_neg (by omega)]
 ·rw [List.getElem?_eq_none (by simp; omega),List.getElem?_eq_none (by simp; omega)]
theorem splice_own {l:List By}{at_:Nat}{bs:List By}(h:at_+bs.length≤l.length):((splice l at_ bs).drop at_).take bs.length=bs:=by
 apply List.ext_getElem?
 intro i
 by_cases hi:i < bs.length
 ·rw [List.getElem?_take_of_lt hi,List.getElem?_drop,splice_get h,if_pos (by omega)]
  congr 1; omega
 ·rw [List.getElem?_eq_none (by simp; omega),List.getElem?_eq_none (by omega)]
structure MemSet (m:List Bl)(b at_:Nat)(bs:List By)(m':List Bl):Prop where
 len:m'.length=m.length
 st:∀i:Nat,(yZ m' i).st=(yZ m i).st
 l:∀i:Nat,(yZ m' i).l=if i=b then splice (yZ m b).l at_ bs else (yZ m i).l
theorem MemSet.size {m m':List Bl}{b at_:Nat}{bs:List By}(h:MemSet m b at_ bs m')(hf:at_+bs.length≤(yZ m b).l.length)(i:Nat):(yZ m' i).l.length=(yZ m i).l.length:=by
 rw [h.l]
 split
 ·rename_i e; subst e; exact splice_len hf
 ·rfl
theorem MemSet.fit {p:Pg}{m m':List Bl}{b at_:Nat}{bs:List By}(h:MemSet m b at_ bs m')(hm:FitM p m)(hf:at_+bs.length≤(yZ m b).l.length)(hb:0 < bs.length)(hby:∀x∈bs,byteB x=true∧ptrIn (wJ p) x=true):FitM p m':=by
 have key:∀i (hi:i < m'.length),∃hi':i < m.length,(m'[i]).st=(m[i]).st∧(m'[i]).l=if i=b then splice (yZ m b).l at_ bs else (m[i]).l:=fun i hi=>by
  have hi':i < m.length:=by rw [←h.len]; exact hi
  refine ⟨hi',?_,?_⟩
  ·have:=h.st i
   rw [yH hi,yH hi'] at this; exact this
  ·have:=h.l i
   rw [yH hi,yH hi'] at this; exact this
 have hbl:b < m.length:=by
  have:0 < (yZ m b).l.length:=by omega
  unfold yZ at this
  rw [Int.toNat_natCast] at this
  rcases Nat.lt_or_ge b m.length with h | h
  ·exact h
  ·rw [List.getElem?_eq_none h] at this; simp at this
 have bg:=yH hbl
 have hsp:∀x∈splice (yZ m b).l at_ bs,x∈bs∨x∈(m[b]).l:=fun x hx=>by
  unfold splice at hx
  rw [bg] at hx
  rcases List.mem_append.1 hx with hx | hx
  ·rcases List.mem_append.1 hx with hx | hx
   ·exact .inr (List.mem_of_mem_take hx)
   ·exact .inl hx
  ·exact .inr (List.mem_of_mem_drop hx)
 have hlen:=splice_len hf
 refine ⟨by rw [h.len]; exact hm.len,fun i hi=>?_,fun i hi hs=>?_,fun i hi hs=>?_,fun h0=>?_,fun i hi=>?_,fun i hi h1 h2=>?_⟩
 ·obtain ⟨hi',e1,e2⟩:=key i hi
  obtain ⟨b1,b2,b3,b4⟩:=hm.bytes i hi'
  rw [e1,e2]
  split
  ·rename_i e; subst e
   refine ⟨fun x hx=>?_,b2,b3,by rw [hlen,bg]; exact b4⟩
   rcases hsp x hx with hx | hx
   ·exact (hby x hx).1
   ·exact b1 x hx
  ·exact ⟨b1,b2,b3,b4⟩
 ·obtain ⟨hi',e1,e2⟩:=key i hi
  rw [e1] at hs
  have:=hm.size i hi' hs
  rw [e2]
  split
  ·rename_i e; subst e; rw [hlen,bg]; exact this
  ·exact this
 ·obtain ⟨hi',e1,e2⟩:=key i hi
  rw [e1] at hs
  have:=hm.dead i hi' hs
  rw [e2]
  split
  ·rename_i e; subst e
   rw [bg,this] at hf
   exact absurd hf (by simp only [List.length_nil]; omega)
  ·exact this
 ·obtain ⟨hi',e1,e2⟩:=key 0 h0
  rw [e1]; exact hm.zero hi'
 ·obtain ⟨hi',e1,e2⟩:=key i hi
  have:=hm.ptrs i hi'
  rw [e2]
  split
  ·rename_i e; subst e
   rw [List.all_eq_true] at this ⊢
   intro x hx
   rcases hsp x hx with hx | hx
   ·exact (hby x hx).2
   ·exact this x hx
  ·exact this
 ·obtain ⟨hi',e1,e2⟩:=key i hi
  rw [e1]; exact hm.live i hi' h1 h2
def HitC (ptr:Int)(b at_ n:Nat)(c:Pc):Prop:=c.b=b∧c.p < at_+n∧(at_:Int) < c.p+wX ptr c.k
structure Beside (p:Pg)(T:List Pc)(m:List Bl)(b at_ n:Nat):Prop where
 cells:∀c∈T,CellIn p m c∧¬HitC p.ptr b at_ n c
 apart:T.Pairwise (ApartC p.ptr)
 cover:∀b' j:Nat,j < (yZ m (b':Int)).l.length→¬(b'=b∧at_≤j∧j < at_+n)→∃c∈T,OverC p.ptr b' j c
theorem ApartC.symm {ptr:Int}{a b:Pc}(h:ApartC ptr a b):ApartC ptr b a:=by unfold ApartC at h ⊢; omega
theorem order_of {p:Pg}(hp:p.ptr=2∨p.ptr=4){L:List Pc}(hk:∀c∈L,c.k=0∨c.k=11∨isS c.k=true)(ha:L.Pairwise (ApartC p.ptr))(ho:L.Pairwise (fun x y=>¬ordV y x < 0)):L.Pairwise (fun a b=>beforeB a b=true):=by
 refine (ha.and ho).imp_of_mem fun {x y} hx hy hxy=>?_
 obtain ⟨h1,h2⟩:=hxy
 have sx:=jX hp (hk x hx)
 have sy:=jX hp (hk y hy)
 have:=ord_before y x
 rw [decide_eq_true (by omega)] at this
 have hn:beforeB y x=false:=by have h:=this.symm; rwa [Bool.not_eq_true'] at h
 unfold ApartC at h1
 unfold beforeB at hn ⊢
 split
 ·split
  ·omega
  ·rename_i e1 e2
   rw [if_pos e1.symm,if_neg (Ne.symm e2)] at hn
   have:=of_decide_eq_false hn
   exact decide_eq_true (by omega)
 ·rename_i e1
  rw [if_neg (Ne.symm e1)] at hn
  have:=of_decide_eq_false hn
  exact decide_eq_true (by omega)
theorem Beside.store {p:Pg}(hc:yK p=true){T L:List Pc}{m m':List Bl}{b at_ n:Nat}{c0:Pc}{bs:List By}(h:Beside p T m b at_ n)(hm:FitM p m)(h0:CanC c0)(hcb:c0.b=b)(hcp:c0.p=at_)(hsp:wX p.ptr c0.k=n)
  (hal:(at_:Int).tmod n=0)(hkn:knownB c0.l ((m.length:Int) - 1)=true)(hbs:bs=jZ p.big p.ptr c0)(hf:at_+n≤(yZ m b).l.length)(hb:1≤b)(hs:MemSet m b at_ bs m')(hL:L.Perm (T++[c0]))(ho:L.Pairwise (fun x y=>¬ordV y x < 0)):Mir p L m':=by
 have hp:=jW hc
 have hn:bs.length=n:=by rw [hbs,h0.len hp.1,hsp]; omega
 have hf':at_+bs.length≤(yZ m b).l.length:=by rw [hn]; exact hf
 have hsz:=hs.size hf'
 have hbl:b < m.length:=by
  have hpos:0 < n:=by have:=(jX hp.1 h0.kind).1; omega
  have:0 < (yZ m b).l.length:=by omega
  unfold yZ at this
  rw [Int.toNat_natCast] at this
  rcases Nat.lt_or_ge b m.length with h | h
  ·exact h
  ·rw [List.getElem?_eq_none h] at this; simp at this
 have c0in:CellIn p m' c0:=by
  refine ⟨h0,⟨by omega,by rw [hs.len]; omega⟩,by omega,by rw [hcp,hsp]; exact hal,by rw [hcb,hcp,hsp,hsz]; omega,by rw [hs.len]; exact hkn,?_⟩
  unfold cutB
  rw [hcb,hcp,hsp,hs.l,if_pos rfl,Int.toNat_natCast,Int.toNat_natCast,←hbs]
  have:=splice_own hf'
  rw [hn] at this
  exact this
 have cin:∀c∈T,CellIn p m' c:=fun c hcm=>by
  obtain ⟨ci,hh⟩:=h.cells c hcm
  obtain ⟨cb,hcb'⟩:=Int.eq_ofNat_of_zero_le (by have:=ci.blk; omega:0≤c.b)
  have ss:=jX hp.1 ci.can.kind
  have cp:=ci.pos
  have cf:=ci.fits
  refine ⟨ci.can,by rw [hs.len]; exact ci.blk,ci.pos,ci.al,by rw [hcb',hsz,←hcb']; exact ci.fits,by rw [hs.len]; exact ci.known,?_⟩
  rw [←ci.is]
  unfold cutB
  rw [hcb',hs.l]
  split
  ·rename_i e
   subst e
   refine splice_cut hf' ?_
   unfold HitC at hh
   rw [hn]
   omega
  ·rfl
 have hapart:(T++[c0]).Pairwise (ApartC p.ptr):=by
  refine List.pairwise_append.2 ⟨h.apart,List.pairwise_singleton _ _,fun x hx y hy=>?_⟩
  rw [List.mem_singleton] at hy
  subst hy
  obtain ⟨ci,hh⟩:=h.cells x hx
  unfold HitC at hh
  unfold ApartC
  rw [hcb,hcp,hsp]
  omega
 have hLa:L.Pairwise (ApartC p.ptr):=(hL.pairwise_iff (fun h=>h.symm)).2 hapart
 have hin:∀c∈L,CellIn p m' c:=fun c hcm=>by
  rcases List.mem_append.1 (hL.mem_iff.1 hcm) with hcm | hcm
  ·exact cin c hcm
  ·rw [List.mem_singleton.1 hcm]; exact c0in
 refine ⟨hin,order_of hp.1 (fun c hcm=>(hin c hcm).can.kind) hLa ho,hLa,fun b' j hj=>?_⟩
 rw [hsz] at hj
 by_cases hh:b'=b∧at_≤j∧j < at_+n
 ·refine ⟨c0,hL.mem_iff.2 (by simp),?_,?_,?_⟩
  ·rw [hcb,hh.1]
  ·rw [hcp]; omega
  ·rw [hcp,hsp]; omega
 ·obtain ⟨c,hcm,ho⟩:=h.cover b' j hj hh
  exact ⟨c,hL.mem_iff.2 (by simp [hcm]),ho⟩
theorem V.offF_up {v:V}(hv:v.ok=true):∀(f:Nat) (n0:Int),0≤n0→34≤n0+f→(v.offF f (v.wQ n0)).Pairwise (· < ·)
 | 0,n0,_,_=>by simp [V.offF]
 | f+1,n0,h0,hf=>by
  rcases nextR_spec hv h0 with ⟨a1,a2,_⟩ | ⟨a1,_⟩
  ·by_cases h32:v.wQ n0≤32
   ·rw [V.offF_in ⟨a1,h32⟩]
    refine List.pairwise_cons.2 ⟨fun y hy=>?_,V.offF_up hv f _ (by omega) (by omega)⟩
    have:=((V.offF_spec hv f (v.wQ n0+1) (by omega) (by omega)).1 y).1 hy
    omega
   ·rw [V.offF_out (by omega)]; exact List.Pairwise.nil
  ·rw [a1,V.offF_out (by omega)]; exact List.Pairwise.nil
theorem memB_nodup:∀{l:List Ba},(∀x∈l,x.v.ok=true)→l.Pairwise (fun x y=>x.b < y.b)→(memB l).Pairwise (fun a b=>¬a=b)
 | [],_,_=>List.Pairwise.nil
 | x :: l,hv,hp=>by
  have h1:=memB_nodup (l:=l) (fun y hy=>hv y (List.mem_cons_of_mem _ hy)) (List.pairwise_cons.1 hp).2
  rw [memB_cons]
  refine List.pairwise_append.2 ⟨?_,h1,fun a ha b hb hab=>?_⟩
  ·rw [List.pairwise_map]
   exact (V.offF_up (hv x (by simp)) 34 0 (by omega) (by omega)).imp fun {a b} h e=>by injection e; omega
  ·subst hab
   rw [List.mem_map] at ha
   obtain ⟨o,_,rfl⟩:=ha
   unfold memB at hb
   rw [List.mem_flatMap] at hb
   obtain ⟨y,hy,hb⟩:=hb
   rw [List.mem_map] at hb
   obtain ⟨o',_,e⟩:=hb
   have:=(List.pairwise_cons.1 hp).1 y hy
   injection e; omega
structure OneIs (k:Int)(v:V)(l:List Ba)(s:Sc):Prop where
 may:absB k v l=true
 has:memOf k v l s
 one:∀t,memOf k v l t→t=s
structure NoneIs (k:Int)(v:V)(l:List Ba):Prop where
 may:absB k v l=true
 none:∀t,¬memOf k v l t
theorem OneIs.only {k:Int}{v:V}{l:List Ba}{s:Sc}(h:OneIs k v l s):onlyB k v l=(s,true):=by
 have hm:=h.may
 have hs:=h.has
 by_cases h7:k=7
 ·subst h7
  simp only [absB,if_true,Bool.and_eq_true] at hm
  obtain ⟨hb,hp⟩:=okAt_base hm.2
  have hv:∀x∈l,x.v.ok=true:=fun x hx=>by have:=hb x hx; simp only [baseB,Bool.and_eq_true] at this; exact this.1.1.2
  have nd:=memB_nodup hv hp
  have key:∀t,t∈memB l↔memOf 7 v l t:=fun t=>by rw [mem_memB hv]; simp [memOf]
  have h1:memB l=[s]:=by
   have hin:=(key s).2 hs
   generalize hml:memB l=ml at *
   cases ml with
   | nil=>cases hin
   | cons a r=>
    have ea:=h.one a ((key a).1 (by simp))
    cases r with
    | nil=>rw [ea]
    | cons b r=>
     have eb:=h.one b ((key b).1 (by simp))
     exact absurd (ea.trans eb.symm) ((List.pairwise_cons.1 nd).1 b (by simp))
  have hd:decide ((onlyP l).2=1)=true:=by
   cases hx:decide ((onlyP l).2=1) with
   | true=>rfl
   | false=>exact absurd (by rw [h1]; rfl) ((onlyP_mem l).2 hx)
  have:=(onlyP_mem l).1 hd
  rw [h1] at this
  unfold onlyB
  rw [if_pos rfl,hd]
  injection this with e
  rw [←e]
 ·have hk:0 < wK k∧v.ok=true∧v.w=wK k∧l=[]:=by
   simp only [absB,h7,if_false,Bool.and_eq_true,decide_eq_true_eq,List.length_eq_zero_iff] at hm
   exact ⟨hm.1.1.1,hm.1.1.2,hm.1.2,hm.2⟩
  simp only [memOf,h7,if_false] at hs
  obtain ⟨s1,s2,s3,s4,s5,s6⟩:=hs
  have:=single_of hk.2.1 s4 s5 s6 (fun y y0 y1 hy=>by
   have:=h.one ⟨false,y,0,0⟩ (by simp only [memOf,h7,if_false]; exact ⟨trivial,trivial,trivial,y0,y1,hy⟩)
   rw [←this])
  unfold onlyB
  rw [if_neg h7,this.1,this.2]
  obtain ⟨p,n,b,o⟩:=s
  simp only at s1 s2 s3
  rw [s1,s2,s3]
theorem OneIs.hasB {k:Int}{v:V}{l:List Ba}{s:Sc}(h:OneIs k v l s):hasB k v l s=true:=memOf_has h.has
theorem OneIs.num {k:Int}(hk:isK k=true){v:V}{n:Int}(h:Is1 v (wK k) n):OneIs k v [] ⟨false,n,0,0⟩:=by
 have h7:¬k=7:=by simp only [isK,Bool.and_eq_true,decide_eq_true_eq] at hk; omega
 have hw:0 < wK k:=by rw [wK_of hk]; have:=(ofW_most k).1; omega
 have r:=h.rng
 refine ⟨by simp [absB,h7,hw,h.ok,h.wd],?_,fun t ht=>?_⟩
 ·simp only [memOf,h7,if_false]
  exact ⟨trivial,trivial,trivial,r.1,by rw [h.wd]; exact r.2,by rw [h.has r.1 r.2]; simp⟩
 ·simp only [memOf,h7,if_false] at ht
  obtain ⟨t1,t2,t3,t4,t5,t6⟩:=ht
  rw [h.wd] at t5
  rw [h.has t4 t5] at t6
  have:=of_decide_eq_true t6
  obtain ⟨p,x,b,o⟩:=t
  simp only at t1 t2 t3 this
  rw [t1,t2,t3,this]
theorem OneIs.ptr {v:V}{b o:Int}(hb:0≤b∧b≤6)(h:Is1 v 8 o)(ho:o≤32)(h0:b=0→o=0):OneIs 7 V.zero [⟨b,v⟩] ⟨true,0,b,o⟩:=by
 have r:=h.rng
 refine ⟨by simp [absB,sole_ptrs hb h h0],?_,fun t ht=>?_⟩
 ·simp only [memOf,if_true]
  exact ⟨trivial,trivial,r.1,ho,by rw [sole_points h r.1 ho]; simp⟩
 ·simp only [memOf,if_true] at ht
  obtain ⟨t1,t2,t3,t4,t5⟩:=ht
  rw [sole_points h t3 t4,Bool.and_eq_true,decide_eq_true_eq,decide_eq_true_eq] at t5
  obtain ⟨p,x,c,d⟩:=t
  simp only at t1 t2 t5
  rw [t1,t2,t5.1,t5.2]
theorem NoneIs.num {k:Int}(hk:isK k=true){v:V}(h:Vo v (wK k)):NoneIs k v []:=by
 have h7:¬k=7:=by simp only [isK,Bool.and_eq_true,decide_eq_true_eq] at hk; omega
 have hw:0 < wK k:=by rw [wK_of hk]; have:=(ofW_most k).1; omega
 refine ⟨by simp [absB,h7,hw,h.ok,h.wd],fun t ht=>?_⟩
 simp only [memOf,h7,if_false] at ht
 rw [void_has h.ok h.none _ ht.2.2.2.1 ht.2.2.2.2.1] at ht
 exact absurd ht.2.2.2.2.2 (by decide)
theorem NoneIs.ptr:NoneIs 7 V.zero []:=⟨by decide,fun t ht=>by simp [memOf,pointsB] at ht⟩
theorem NoneIs.empty {k:Int}{v:V}{l:List Ba}(h:NoneIs k v l):emptyB k v l=true:=by
 have hm:=h.may
 by_cases h7:k=7
 ·subst h7
  simp only [absB,if_true,Bool.and_eq_true] at hm
  obtain ⟨hb,_⟩:=okAt_base hm.2
  simp only [emptyB,if_true,Bool.not_eq_true',List.any_eq_false]
  intro x hx hn
  have hx':=hb x hx
  simp only [baseB,Bool.and_eq_true] at hx'
  simp only [Bool.and_eq_true,decide_eq_true_eq] at hn
  obtain ⟨a1,a2,a3⟩:=some_has hx'.1.1.2 (by omega)
  refine h.none ⟨true,0,x.b,x.v.wQ 0⟩ ?_
  simp only [memOf,if_true]
  exact ⟨trivial,trivial,hn.1,hn.2,List.any_eq_true.2 ⟨x,hx,by simp [a3]⟩⟩
 ·have hk:v.ok=true:=by
   simp only [absB,h7,if_false,Bool.and_eq_true] at hm; exact hm.1.1.2
  simp only [emptyB,h7,if_false,decide_eq_true_eq]
  refine Decidable.byContradiction fun hn=>?_
  obtain ⟨a1,a2,a3⟩:=some_has hk hn
  refine h.none ⟨false,v.wQ 0,0,0⟩ ?_
  simp only [memOf,h7,if_false]
  exact ⟨trivial,trivial,trivial,a1,a2,a3⟩
theorem OneIs.both {k:Int}{v1 v2 v:V}{l1 l2 l:List Ba}{s:Sc}(h1:NoneIs k v1 l1)(h2:OneIs k v2 l2 s)(h:BothA k v1 l1 v2 l2 v l):OneIs k v l s:=by
 refine ⟨h.may,?_,h.one s fun t ht=>?_⟩
 ·have:=h.right s h2.has
  have hs:=h2.has
  by_cases h7:k=7
  ·simp only [memOf,h7,if_true] at hs ⊢
   simp only [Ax.hasB,h7,if_true] at this
   exact ⟨hs.1,hs.2.1,hs.2.2.1,hs.2.2.2.1,this⟩
  ·have e1:v2.w=wK k:=by have:=h2.may; simp only [absB,h7,if_false,Bool.and_eq_true,decide_eq_true_eq] at this; exact this.1.2
   have e2:v.w=wK k:=by have:=h.may; simp only [absB,h7,if_false,Bool.and_eq_true,decide_eq_true_eq] at this; exact this.1.2
   simp only [memOf,h7,if_false] at hs ⊢
   simp only [Ax.hasB,h7,if_false] at this
   exact ⟨hs.1,hs.2.1,hs.2.2.1,hs.2.2.2.1,by rw [e2,←e1]; exact hs.2.2.2.2.1,this⟩
 ·rcases ht with ht | ht
  ·exact absurd ht (h1.none t)
  ·exact h2.one t ht
theorem NoneIs.both {k:Int}{v1 v2 v:V}{l1 l2 l:List Ba}(h1:NoneIs k v1 l1)(h2:NoneIs k v2 l2)(h:BothA k v1 l1 v2 l2 v l):NoneIs k v l:=by
 refine ⟨h.may,fun t ht=>?_⟩
 have hv:∀s t:Sc,memOf k v1 l1 t∨memOf k v2 l2 t→t=s:=fun s t ht=>by
  rcases ht with ht | ht
  ·exact absurd ht (h1.none t)
  ·exact absurd ht (h2.none t)
 have e1:=h.one ⟨true,5,5,5⟩ (hv _) t ht
 have e2:=h.one ⟨true,6,6,6⟩ (hv _) t ht
 rw [e1] at e2; injection e2 with _ e; exact absurd e (by decide)
def FoundIs (k:Int)(r:Sc × Int)(v:V)(l:List Ba)(bads:List Int):Prop:=
 (r.2=0∧bads=[]∧OneIs k v l r.1)∨(¬r.2=0∧bads=[r.2]∧NoneIs k v l)
def cutM (m:List Bl)(b at_ n:Nat):List By:=((yZ m b).l.drop at_).take n
theorem CellIn.byte {p:Pg}{m:List Bl}{c:Pc}(h:CellIn p m c){b j:Nat}(ho:OverC p.ptr b j c):yQ (jZ p.big p.ptr c) (j - c.p.toNat)=yQ (yZ m b).l j:=by
 obtain ⟨h1,h2,h3⟩:=ho
 have h4:=h.pos
 rw [←h.is]
 unfold cutB yQ
 rw [h1,List.getElem?_take_of_lt (by omega),List.getElem?_drop]
 congr 2; omega
theorem CellIn.read {p:Pg}(hp:p.ptr=2∨p.ptr=4){m:List Bl}{c:Pc}(h:CellIn p m c){b at_:Nat}{k:Int}(hk:isS k=true)(hb:c.b=b)(ha:c.p=at_)(hs:isS c.k=true)(h7:c.k=7↔k=7)(hsp:wX p.ptr c.k=wX p.ptr k) :
  FoundIs k (yW p.big k (cutM m b at_ (wX p.ptr k).toNat)) c.v c.l []:=by
 have e:cutM m b at_ (wX p.ptr k).toNat=jZ p.big p.ptr c:=by
  rw [←h.is]; unfold cutM cutB
  rw [hb,ha,hsp,Int.toNat_natCast]
 rw [e]
 rcases h.can with ⟨h0,_⟩ | ⟨h1,_⟩ | ⟨h1,b',o,vo,h2,h3,h4,h6,h5⟩ | ⟨h1,n,h2,h3⟩
 ·rw [h0] at hs; exact absurd hs (by decide)
 ·rw [h1] at hs; exact absurd hs (by decide)
 ·have k7:=h7.1 h1
  have e2:jZ p.big p.ptr c=ptrL b' o p.ptr.toNat:=by
   unfold jZ
   rw [h1,if_neg (by decide),if_neg (by decide),if_pos rfl,h3,sole_only h4 h5]
  rw [e2,k7,read_ptr p.big (by omega) (by omega),h2,h3]
  exact .inl ⟨rfl,rfl,OneIs.ptr (by omega) h4 h5 (by omega)⟩
 ·have hn:¬c.k=0∧¬c.k=11∧¬c.k=7:=by simp only [isK,Bool.and_eq_true,decide_eq_true_eq] at h1; omega
  have k7:¬k=7:=fun e=>hn.2.2 (h7.2 e)
  have hkk:isK k=true:=by simp only [isS,isK,Bool.and_eq_true,decide_eq_true_eq] at hk ⊢; omega
  have r:=h2.rng
  have e2:jZ p.big p.ptr c=putL p.big (wX p.ptr c.k).toNat ⟨false,n,0,0⟩:=by
   unfold jZ
   rw [if_neg hn.1,if_neg hn.2.1,if_neg hn.2.2,h2.at_]
  have ew:wK c.k=wK k:=by
   have a1:=span_ofW (ptr:=p.ptr) h1
   have a2:=span_ofW (ptr:=p.ptr) hkk
   rw [wK_of h1,wK_of hkk,a1,a2,hsp]
  rw [e2,read_num p.big h1 k7 r.1 r.2,h3]
  rw [ew] at h2
  exact .inl ⟨rfl,rfl,OneIs.num hkk h2⟩
@[go_sem] theorem Gu.bd2 {a b:V}:Value.agg (Value.bool false :: (a.cs++b.cs++List.drop 12 (a.cs++[Value.int .i64 0,Value.bool false,Value.int .i64 0,Value.int .i64 0,Value.int .i64 0,Value.int .i64 0,Value.slice none 0 0]))).toArray=(Gu.mk false a b none 0 []).val:=rfl
@[go_sem] theorem Gu.take_num {g:Gu}:List.take 6 (List.drop 1 g.cs)=g.num.cs:=rfl
@[go_sem] theorem Gu.take_isv {g:Gu}:List.take 6 (List.drop 7 g.cs)=g.isv.cs:=rfl
@[go_sem] theorem Fo.take_abs {s:Fo}:List.take 7 s.cs=yJ s.v (.slice s.lA s.l.length s.lC):=rfl
@[go_sem] theorem Fo.take_num {s:Fo}:List.take 6 s.cs=s.v.cs:=rfl
@[go_sem] theorem Si.take_p {s:Si}:List.take 7 s.cs=s.p.cs:=rfl
@[go_sem] theorem Si.take_e {s:Si}:List.take 3 (List.drop 7 s.cs)=s.e.cs:=rfl
@[go_sem] theorem Si.take_a {s:Si}:List.take 2 s.cs=[.bool s.p.big,.int .i64 s.p.ptr]:=rfl
@[go_sem] theorem Gu.set_no {g:Gu} {b:Bool}:Value.bool b :: List.drop 1 g.cs=(Gu.mk b g.num g.isv g.lA g.lC g.l).cs:=rfl
@[go_sem] theorem Gu.set_num {g:Gu} {v:V}:List.take 1 g.cs++v.cs++List.drop 7 g.cs=(Gu.mk g.no v g.isv g.lA g.lC g.l).cs:=rfl
@[go_sem] theorem Gu.set_isv {g:Gu} {v:V}:List.take 7 g.cs++v.cs++List.drop 13 g.cs=(Gu.mk g.no g.num v g.lA g.lC g.l).cs:=rfl
@[go_sem] theorem Gu.set_l {g:Gu} {a:Option Addr} {l:List Ba} {c:Nat}:List.take 13 g.cs++[Value.slice a l.length c]=(Gu.mk g.no g.num g.isv a c l).cs:=rfl
theorem GuR.part {b o:Int}{vo iv:V}{i:Nat}{a:Option Addr}{c:Nat}(h4:Is1 vo 8 o)(h5:1≤b∧b≤6)(h6:o≤32)(hi:(i:Int)≤3)(hv:Is1 iv 8 i):GuR (Gu.mk false (V.nothing 8) iv a c [⟨b,vo⟩]) ⟨2,0,b,o,i⟩:=by
 have v0:=Vo.nothing (w:=8) (by decide)
 refine ⟨⟨v0.ok,v0.wd⟩,⟨hv.ok,hv.wd⟩,sole_ptrs (by omega) h4 (by omega),(fun h=>by simp at h),(fun h=>by simp at h),fun _=>⟨rfl,rfl,v0,hv,h5,h6,hi,vo,rfl,h4⟩,.inr (.inr rfl)⟩
theorem GuR.num1 {n:Int}{v:V}{a:Option Addr}{c:Nat}(hv:Is1 v 8 n):GuR (Gu.mk false v (V.nothing 8) a c []) ⟨1,n,0,0,0⟩:=by
 have v0:=Vo.nothing (w:=8) (by decide)
 exact ⟨⟨hv.ok,hv.wd⟩,⟨v0.ok,v0.wd⟩,rfl,(fun h=>by simp at h),fun _=>⟨rfl,rfl,hv,v0,rfl⟩,(fun h=>by simp at h),.inr (.inl rfl)⟩
theorem GuR.none {a:Option Addr}{c:Nat}:GuR (Gu.mk true (V.nothing 8) (V.nothing 8) a c []) ⟨0,0,0,0,0⟩:=by
 have v0:=Vo.nothing (w:=8) (by decide)
 exact ⟨⟨v0.ok,v0.wd⟩,⟨v0.ok,v0.wd⟩,rfl,fun _=>⟨rfl,rfl,v0,v0,rfl⟩,(fun h=>by simp at h),(fun h=>by simp at h),.inl rfl⟩
theorem numL_app (l:List By)(x:By):numL (l++[x])=bor .i64 (shlv .i64 (numL l) 8) x.n:=by simp [numL,List.foldl_append]
theorem numL_lt:∀(n:Nat) (l:List By),l.length=n→n≤4→(∀x∈l,0≤x.n∧x.n≤255)→∃m:Nat,numL l=m∧m < 256 ^ n
 | 0,l,h,_,_=>⟨0,by rw [List.eq_nil_of_length_eq_zero h]; rfl,by decide⟩
 | n+1,l,h,h4,hx=>by
  obtain ⟨l',x,rfl⟩:∃l' x,l=l'++[x]:=by
   rcases List.eq_nil_or_concat l with rfl | ⟨l',x,rfl⟩
   ·simp at h
   ·exact ⟨l',x,by simp⟩
  obtain ⟨m,hm,hlt⟩:=numL_lt n l' (by simpa using h) (by omega) (fun y hy=>hx y (by simp [hy]))
  obtain ⟨x0,x1⟩:=hx x (by simp)
  obtain ⟨k,hk⟩:=Int.eq_ofNat_of_zero_le x0
  have hp:256 ^ n≤256 ^ 3:=Nat.pow_le_pow_right (by decide) (by omega)
  rw [numL_app,hm,hk,bor_step (by omega) (by omega)]
  exact ⟨m * 256+k,rfl,by rw [Nat.pow_succ]; omega⟩
def ByteOk (x:By):Prop:=x=⟨0,0,0,0,0⟩∨(∃n,x=⟨1,n,0,0,0⟩∧0≤n∧n≤255)∨∃b o i,x=⟨2,0,b,o,i⟩∧(1≤b∧b≤6)∧(0≤o∧o≤32)∧0≤i∧i≤3
theorem GuR.ok {g:Gu}{x:By}(h:GuR g x):ByteOk x:=by
 rcases h.st with s | s | s
 ·exact .inl (h.st0 s).1
 ·obtain ⟨e,_,i1,_⟩:=h.st1 s
  have:=i1.rng
  have e8:wH 8=255:=by decide
  exact .inr (.inl ⟨x.n,e,by omega,by omega⟩)
 ·obtain ⟨e,_,_,i1,hb,ho,hi,vo,_,i2⟩:=h.st2 s
  exact .inr (.inr ⟨x.b,x.o,x.i,e,hb,⟨i2.rng.1,ho⟩,i1.rng.1,hi⟩)
theorem read_ok (big:Bool){ptr k:Int}(hp:ptr=2∨ptr=4)(hk:isS k=true){xs:List By}(hl:(xs.length:Int)=wX ptr k)(hx:∀x∈xs,ByteOk x) :
  ((yW big k xs).2=0→(k=7→∃vo,Is1 vo 8 (yW big k xs).1.o∧(yW big k xs).1.o≤32∧(0≤(yW big k xs).1.b∧(yW big k xs).1.b≤6)∧((yW big k xs).1.b=0→(yW big k xs).1.o=0)∧(yW big k xs).1.p=true∧(yW big k xs).1.n=0)∧(¬k=7→isN (yW big k xs).1.n (ofW k)=true∧(yW big k xs).1=⟨false,(yW big k xs).1.n,0,0⟩)):=by
 have hs:=jX hp (.inr (.inr hk))
 intro h0
 by_cases s0:stIs 0 xs=true
 ·unfold yW at h0; rw [if_pos s0] at h0; exact absurd h0 (by decide)
 refine ⟨fun h7=>?_,fun h7=>?_⟩
 ·subst h7
  have e:yW big 7 xs=jJ xs:=by unfold yW; rw [if_neg s0,if_pos rfl]
  rw [e] at h0 ⊢
  unfold jJ at h0 ⊢
  split at h0
  ·rename_i hc
   rw [if_pos hc]
   have h0m:yQ xs 0∈xs:=byAt_in (by omega)
   have hw:(0≤(yQ xs 0).b∧(yQ xs 0).b≤6)∧(0≤(yQ xs 0).o∧(yQ xs 0).o≤32)∧((yQ xs 0).b=0→(yQ xs 0).o=0):=by
    rcases hx _ h0m with h | ⟨n,h,_⟩ | ⟨b,o,i,h,h1,h2,_⟩ <;> rw [h] <;> simp <;> omega
   refine ⟨V.just 8 (yQ xs 0).o,Is1.just (by decide) (n8 ⟨hw.2.1.1,by omega⟩),hw.2.1.2,hw.1,hw.2.2,rfl,rfl⟩
  ·exact absurd h0 (by decide)
 ·have hkk:isK k=true:=by simp only [isS,isK,Bool.and_eq_true,decide_eq_true_eq] at hk ⊢; omega
  have hsn:=span_num (ptr:=ptr) hkk
  by_cases s2:stIs 2 xs=true
  ·unfold yW at h0; rw [if_neg s0,if_neg h7,if_pos s2] at h0; exact absurd h0 (by decide)
  have e:yW big k xs=(⟨false,numL (ordL big xs),0,0⟩,0):=by unfold yW; rw [if_neg s0,if_neg h7,if_neg s2]
  rw [e]
  refine ⟨?_,rfl⟩
  have ho:(ordL big xs).length=xs.length:=by unfold ordL; split <;> simp
  have hm:∀x∈ordL big xs,x∈xs:=fun x hx=>by
   unfold ordL at hx
   split at hx
   ·exact hx
   ·simpa using hx
  obtain ⟨m,hm1,hm2⟩:=numL_lt xs.length (ordL big xs) ho (by omega) (fun x hxm=>by
   rcases hx x (hm x hxm) with h | ⟨n,h,h1,h2⟩ | ⟨b,o,i,h,_⟩ <;> rw [h] <;> simp <;> omega)
  have hmm:=span_most (ptr:=ptr) hkk
  rw [wK_of hkk] at hmm
  have hl':xs.length=(wX ptr k).toNat:=by omega
  show isN (numL (ordL big xs)) (ofW k)=true
  rw [hm1]
  simp only [isN,hmm,Bool.and_eq_true,decide_eq_true_eq]
  rw [hl'] at hm2
  have:((256 ^ (wX ptr k).toNat:Nat):Int)=256 ^ (wX ptr k).toNat:=by simp
  omega
theorem none_is {k:Int}(hk:isS k=true):NoneIs k (if k=7 then V.zero else V.nothing (ofW k)) []:=by
 by_cases h7:k=7
 ·subst h7; exact NoneIs.ptr
 ·have hkk:isK k=true:=by simp only [isS,isK,Bool.and_eq_true,decide_eq_true_eq] at hk ⊢; omega
  rw [if_neg h7]
  have:=Vo.nothing (gZ k)
  rw [←wK_of hkk] at this ⊢
  exact NoneIs.num hkk this
structure Mv (S:Nat→Prop)(M:Hp)(S':Nat→Prop)(M':Hp):Prop where
 stay:∀q x,M q=some x→¬S q→M' q=some x
 new:∀q,S' q→S q∨M q=none
theorem Mv.refl {S:Nat→Prop}{M:Hp}:Mv S M S M:=⟨fun _ _ h _=>h,fun _ h=>.inl h⟩
theorem Mv.trans {S S1 S2:Nat→Prop}{M M1 M2:Hp}(h:Mv S M S1 M1)(k:Mv S1 M1 S2 M2):Mv S M S2 M2:=by
 refine ⟨fun q x hq hs=>?_,fun q hq=>?_⟩
 ·refine k.stay q x (h.stay q x hq hs) fun h1=>?_
  rcases h.new q h1 with h2 | h2
  ·exact hs h2
  ·rw [h2] at hq; cases hq
 ·rcases k.new q hq with h1 | h1
  ·exact h.new q h1
  ·by_cases hs:S q
   ·exact .inl hs
   ·refine .inr ?_
    cases hM:M q with
    | none=>rfl
    | some x=>rw [h.stay q x hM hs] at h1; cases h1
theorem Mv.keep {S:Nat→Prop}{M M':Hp}(kp:Keep M M'):Mv S M S M':=⟨fun q x h _=>kp q x h,fun _ h=>.inl h⟩
theorem Mv.add {S S':Nat→Prop}{M M':Hp}(h:Mv S M S' M'){g:Nat}:Mv (fun q=>S q∨q=g) M (fun q=>S' q∨q=g) M':=
 ⟨fun q x hq hs=>h.stay q x hq (fun h1=>hs (.inl h1)),fun q hq=>by
  rcases hq with h1 | h1
  ·rcases h.new q h1 with h2 | h2
   ·exact .inl (.inl h2)
   ·exact .inr h2
  ·exact .inl (.inr h1)⟩
theorem Mv.own {S:Nat→Prop}{M:Hp}{g:Nat}{e:Ent}:Mv (fun q=>S q∨q=g) M (fun q=>S q∨q=g) (M.upd g e):=
 ⟨fun q x hq hs=>by rw [Hp.upd_ne (fun h=>hs (.inr h))]; exact hq,fun _ h=>.inl h⟩
structure DelCl {α:Type}(P:Program)(F:Fz)(g:Nat)(ca:List Value)(val:α→Value)(L:List α)(p:α→Bool)(St:Nat→(Nat→Prop)→Hp→Prop):Prop where
 call:∀i (hi:i < L.length) S M,St i S M→Old F M→CallsA P g ([val L[i]]++ca) F M fun r F' M'=>F'=F∧r=.bool (p L[i])∧Old F M'∧∃S',St (i+1) S' M'∧Mv S M S' M'
 stab:∀i S M M',St i S M→(∀q x,M q=some x→S q→M' q=some x)→St i S M'
 dom:∀i S M q,St i S M→S q→¬M q=none
theorem flat_set {α:Type}{sz:Nat}{f:α→List Value}(hf:∀x,(f x).length=sz){A B:List α}{x y:α}:((A++x :: B).flatMap f).take (A.length * sz)++f y++((A++x :: B).flatMap f).drop (A.length * sz+sz)=((A++[y])++B).flatMap f:=by
 have h1:=gW hf A
 have e:(A++x :: B).flatMap f=A.flatMap f++(f x++B.flatMap f):=by simp
 rw [e,List.take_left' h1]
 have e2:(A.flatMap f++(f x++B.flatMap f))=(A.flatMap f++f x)++B.flatMap f:=by simp
 rw [e2,List.drop_left' (by rw [List.length_append,h1,hf])]
 simp
theorem filter_take {α:Type}{L:List α}{p:α→Bool}{i:Nat}(h:(L.take i).any p=false):(L.take i).filter (fun x=>!p x)=L.take i:=by
 rw [List.filter_eq_self]
 intro x hx
 rw [List.any_eq_false] at h
 have:=h x hx
 simpa using this
theorem filter_le {α:Type}{L:List α}{p:α→Bool}(j:Nat):((L.take j).filter p).length≤j:=Nat.le_trans (List.length_filter_le _ _) (by rw [List.length_take]; omega)
structure PartC (p:Pg)(m:List Bl)(b a n:Nat)(G T0:List Pc)(j i:Nat)(T:List Pc):Prop where
 cells:∀c∈T,CellIn p m c∧¬HitC p.ptr b a n c
 apart:T.Pairwise (ApartC p.ptr)
 cover:∀b' k:Nat,((∃c∈T0,OverC p.ptr b' k c)∨((∃jj,∃h:jj < G.length,(jj < j∨(jj=j∧(k:Int) < G[jj].p+i))∧OverC p.ptr b' k G[jj])∧¬(b'=b∧a≤k∧k < a+n)))→∃c∈T,OverC p.ptr b' k c
theorem PartC.start {p:Pg}{m:List Bl}{b a n:Nat}{G T0:List Pc}(h1:∀c∈T0,CellIn p m c∧¬HitC p.ptr b a n c)(h2:T0.Pairwise (ApartC p.ptr)):PartC p m b a n G T0 0 0 T0:=by
 refine ⟨h1,h2,fun b' k h=>?_⟩
 rcases h with h | ⟨⟨jj,h,h3 | ⟨rfl,h3⟩,h4⟩,_⟩
 ·exact h
 ·omega
 ·have:=h4.2.1; omega
theorem PartC.next {p:Pg}{m:List Bl}{b a n:Nat}{G T0 T:List Pc}{j i:Nat}(h:PartC p m b a n G T0 j i T)(hj:j < G.length)(hi:wX p.ptr G[j].k≤i):PartC p m b a n G T0 (j+1) 0 T:=by
 refine ⟨h.cells,h.apart,fun b' k hk=>h.cover b' k ?_⟩
 rcases hk with hk | ⟨⟨jj,h1,h2,h3⟩,h4⟩
 ·exact .inl hk
 ·refine .inr ⟨⟨jj,h1,?_,h3⟩,h4⟩
  rcases h2 with h2 | ⟨rfl,h2⟩
  ·by_cases hjj:jj=j
   ·subst hjj; exact .inr ⟨rfl,by have:=h3.2.2; omega⟩
   ·exact .inl (by omega)
  ·have:=h3.2.1; omega
theorem PartC.skip {p:Pg}{m:List Bl}{b a n:Nat}{G T0 T:List Pc}{j i k:Nat}(h:PartC p m b a n G T0 j i T)(hj:j < G.length)(hb:G[j].b=b)(hk:(k:Int)=G[j].p+i)(hs:(a≤k∧k < a+n)∨∃c∈T,OverC p.ptr b k c):PartC p m b a n G T0 j (i+1) T:=by
 refine ⟨h.cells,h.apart,fun b' k' hk'=>?_⟩
 rcases hk' with hk' | ⟨⟨jj,h1,h2,h3⟩,h4⟩
 ·exact h.cover b' k' (.inl hk')
 ·rcases h2 with h2 | ⟨rfl,h2⟩
  ·exact h.cover b' k' (.inr ⟨⟨jj,h1,.inl h2,h3⟩,h4⟩)
  ·by_cases he:(k':Int) < G[jj].p+i
   ·exact h.cover b' k' (.inr ⟨⟨jj,h1,.inr ⟨rfl,he⟩,h3⟩,h4⟩)
   ·have hkk:k'=k:=by omega
    subst hkk
    have hbb:b'=b:=by have:=h3.1; omega
    subst hbb
    rcases hs with hs | hs
    ·exact absurd ⟨rfl,hs⟩ h4
    ·exact hs
theorem PartC.add {p:Pg}{m:List Bl}{b a n:Nat}{G T0 T:List Pc}{j i k:Nat}(h:PartC p m b a n G T0 j i T)(hj:j < G.length)(hb:G[j].b=b)(hk:(k:Int)=G[j].p+i)(hr:¬(a≤k∧k < a+n))(hn:¬∃c∈T,OverC p.ptr b k c){c:Pc}(hc:CellIn p m c)(h1:c.b=b)(h2:c.p=k)(h3:wX p.ptr c.k=1)
  (hsp:∀x∈T,1≤wX p.ptr x.k):PartC p m b a n G T0 j (i+1) (T++[c]):=by
 have ho:OverC p.ptr b k c:=⟨h1,by omega,by omega⟩
 refine ⟨fun x hx=>?_,?_,fun b' k' hk'=>?_⟩
 ·rcases List.mem_append.1 hx with hx | hx
  ·exact h.cells x hx
  ·rw [List.mem_singleton.1 hx]
   exact ⟨hc,fun hh=>by unfold HitC at hh; omega⟩
 ·refine List.pairwise_append.2 ⟨h.apart,by simp,fun x hx y hy=>?_⟩
  rw [List.mem_singleton.1 hy]
  have hnx:¬OverC p.ptr b k x:=fun hh=>hn ⟨x,hx,hh⟩
  have hs:=hsp x hx
  unfold OverC at hnx
  unfold ApartC
  have:=(h.cells x hx).1.pos
  omega
 ·have old:(∃c∈T,OverC p.ptr b' k' c)→∃c'∈T++[c],OverC p.ptr b' k' c':=fun ⟨x,hx,hh⟩=>⟨x,List.mem_append_left _ hx,hh⟩
  rcases hk' with hk' | ⟨⟨jj,h1',h2',h3'⟩,h4⟩
  ·exact old (h.cover b' k' (.inl hk'))
  ·rcases h2' with h2' | ⟨rfl,h2'⟩
   ·exact old (h.cover b' k' (.inr ⟨⟨jj,h1',.inl h2',h3'⟩,h4⟩))
   ·by_cases he:(k':Int) < G[jj].p+i
    ·exact old (h.cover b' k' (.inr ⟨⟨jj,h1',.inr ⟨rfl,he⟩,h3'⟩,h4⟩))
    ·have hkk:k'=k:=by omega
     subst hkk
     have hbb:b'=b:=by have:=h3'.1; omega
     subst hbb
     exact ⟨c,by simp,ho⟩
theorem PartC.done {p:Pg}{L:List Pc}{m:List Bl}{b a n:Nat}{T0 G T:List Pc}(h:PartC p m b a n G T0 G.length 0 T)(hm:Mir p L m)(hL:∀c∈L,c∈T0∨c∈G):Beside p T m b a n:=by
 refine ⟨h.cells,h.apart,fun b' j hj hr=>?_⟩
 obtain ⟨c,hc,ho⟩:=hm.cover b' j hj
 rcases hL c hc with h1 | h1
 ·exact h.cover b' j (.inl ⟨c,h1,ho⟩)
 ·obtain ⟨jj,hjj,rfl⟩:=List.getElem_of_mem h1
  exact h.cover b' j (.inr ⟨⟨jj,hjj,.inl hjj,ho⟩,hr⟩)
theorem CellIn.one {p:Pg}(hp:p.ptr=2∨p.ptr=4){m:List Bl}(hm:FitM p m){c:Pc}{b k:Nat}(hb:1≤b)(hk:k < (yZ m b).l.length)(h0:CanC c)(h1:c.b=b)(h2:c.p=k)(h3:wX p.ptr c.k=1)(h4:jZ p.big p.ptr c=[yQ (yZ m b).l k])(h5:∀y∈c.l,(yQ (yZ m b).l k).st=2∧y.b=(yQ (yZ m b).l k).b):CellIn p m c:=by
 have hbl:b < m.length:=by
  rcases Nat.lt_or_ge b m.length with h | h
  ·exact h
  ·unfold yZ at hk; rw [Int.toNat_natCast,List.getElem?_eq_none h] at hk; simp at hk
 refine ⟨h0,by omega,by omega,?_,by rw [h1,h2,h3]; omega,?_,?_⟩
 ·rw [h3]; exact Int.tmod_one _
 ·unfold knownB
  rw [List.all_eq_true]
  intro y hy
  obtain ⟨e1,e2⟩:=h5 y hy
  have hpt:=hm.ptrs b hbl
  rw [List.all_eq_true] at hpt
  have hx:yQ (yZ m b).l k=(yZ m b).l[k]:=by unfold yQ; rw [List.getElem?_eq_getElem hk]; rfl
  have hin:yQ (yZ m b).l k∈m[b].l:=by rw [hx,←yH hbl]; exact List.getElem_mem hk
  have:=hpt _ hin
  unfold ptrIn at this
  rw [e1] at this
  simp only [decide_true,Bool.true_and,Bool.not_eq_true',Bool.or_eq_false_iff,decide_eq_false_iff_not] at this
  have hl:=sizes_len p
  have:=hm.len
  simp only [decide_eq_true_eq]
  omega
 ·unfold cutB
  rw [h1,h2,h3,h4]
  have hx:yQ (yZ m b).l k=(yZ m b).l[k]:=by unfold yQ; rw [List.getElem?_eq_getElem hk]; rfl
  rw [hx,Int.toNat_natCast,List.drop_eq_getElem_cons hk]
  rfl
end Go.Ax
namespace Go.Proofs.Tryz.K
open Go Go.Ax Go.Proofs.Tryz.S
set_option maxRecDepth 100000
set_option linter.unusedSimpArgs false
set_option linter.unusedVariables false
abbrev Same (F:Fz) (M:Hp) (r:Value):Value→Fz→Hp→Prop:=fun v F' M'=>v=r∧F'=F∧M'=M
theorem hm:Tryz.prog.follows .mixedOrders=true:=by kernel_rfl
variable (F:Fz) (M:Hp)
theorem k121 (w:Int):CallsA Tryz.prog 121 [.int .i64 w] F M (Same F M (.bool (isW w))):=by
 refine qZ hm Tryz.func121 e121 (Nat.le_of_ble_eq_true rfl) ?_
 simp only [c121,go_sem]
 repeat' (refine gK_of (fun h=>?_) (fun h=>?_) <;> simp only [go_sem,h])
 all_goals exact qW ⟨by simp_all [isW],rfl,rfl⟩
theorem k112 (w:Int):CallsA Tryz.prog 112 [.int .i64 w] F M (Same F M (.bool (isW w))):=by
 refine qZ hm Tryz.func112 e112 (Nat.le_of_ble_eq_true rfl) ?_
 simp only [c112,go_sem]
 repeat' (refine gK_of (fun h=>?_) (fun h=>?_) <;> simp only [go_sem,h])
 all_goals exact qW ⟨by simp_all [isW],rfl,rfl⟩
theorem k114 (n m:Int):CallsA Tryz.prog 114 [.int .i64 n,.int .i64 m] F M (Same F M (.bool (decide (0≤n) && decide (n≤m)))):=by
 refine qZ hm Tryz.func114 e114 (Nat.le_of_ble_eq_true rfl) ?_
 simp only [c114,go_sem]
 repeat' (refine gK_of (fun h=>?_) (fun h=>?_) <;> simp only [go_sem,h])
 all_goals exact qW ⟨by simp_all,rfl,rfl⟩
theorem k33 (n l m:Int):CallsA Tryz.prog 33 [.int .i64 n,.int .i64 l,.int .i64 m] F M (Same F M (.bool (decide (l≤n) && decide (n≤m)))):=by
 refine qZ hm Tryz.func33 e33 (Nat.le_of_ble_eq_true rfl) ?_
 simp only [c33,go_sem]
 repeat' (refine gK_of (fun h=>?_) (fun h=>?_) <;> simp only [go_sem,h])
 all_goals exact qW ⟨by simp_all,rfl,rfl⟩
theorem k170 (w:Int)(h0:0≤w)(h1:w≤62):CallsA Tryz.prog 170 [.int .i64 w] F M (Same F M (.int .i64 (wH w))):=by
 refine qZ hm Tryz.func170 e170 (Nat.le_of_ble_eq_true rfl) ?_
 have:¬w < 0:=by omega
 simp only [c170,go_sem,this,shl1 h0 h1,most_wrap h0 h1]
 exact qW ⟨rfl,rfl,rfl⟩
theorem k123 (n w:Int)(h0:0≤w)(h1:w≤62):CallsA Tryz.prog 123 [.int .i64 n,.int .i64 w] F M (Same F M (.bool (isN n w))):=by
 refine qZ hm Tryz.func123 e123 (Nat.le_of_ble_eq_true rfl) ?_
 simp only [c123,go_sem]
 refine gK_of (fun h=>?_) (fun h=>?_) <;> simp only [go_sem,h]
 ·refine qQ (k170 F M w h0 h1) ?_
  simp only [go_sem]
  exact qW ⟨by simp_all [isN],rfl,rfl⟩
 ·exact qW ⟨by simp_all [isN]; omega,rfl,rfl⟩
theorem k113 (n w:Int)(h0:0≤w)(h1:w≤62):CallsA Tryz.prog 113 [.int .i64 n,.int .i64 w] F M (Same F M (.bool (isN n w))):=by
 refine qZ hm Tryz.func113 e113 (Nat.le_of_ble_eq_true rfl) ?_
 have:¬w < 0:=by omega
 simp only [c113,go_sem,this,shl1 h0 h1,most_wrap h0 h1]
 refine qQ (k114 F M n (wH w)) ?_
 simp only [go_sem]
 exact qW ⟨rfl,rfl,rfl⟩
theorem k122 (w:Int):CallsA Tryz.prog 122 [.int .i64 w] F M (Same F M (V.nothing w).val):=by
 refine qZ hm Tryz.func122 e122 (Nat.le_of_ble_eq_true rfl) ?_
 simp only [c122,go_sem]
 intro r hF hM
 simp only [go_sem]
 exact qV hM (qW ⟨rfl,rfl,rfl⟩)
theorem k166 (w n:Int):CallsA Tryz.prog 166 [.int .i64 w,.int .i64 n] F M (Same F M (V.just w n).val):=by
 refine qZ hm Tryz.func166 e166 (Nat.le_of_ble_eq_true rfl) ?_
 simp only [c166,go_sem]
 intro r hF hM
 simp only [go_sem]
 exact qV hM (qW ⟨rfl,rfl,rfl⟩)
end Go.Proofs.Tryz.K
namespace Go.Proofs.Tryz.K
open Go Go.Ax Go.Proofs.Tryz.S
variable (F:Fz) (M:Hp)
theorem k64 (v:V):CallsA Tryz.prog 64 [v.val] F M (Same F M (.bool v.ok)):=by
 refine qZ hm Tryz.func64 e64 (Nat.le_of_ble_eq_true rfl) ?_
 simp only [c64,go_sem]
 intro r hF hM
 simp only [go_sem]
 refine qQ (k112 F _ v.w) ?_
 cases hw:isW v.w
 ·simp only [go_sem]
  exact qV hM (qW ⟨by simp [V.ok,hw],rfl,rfl⟩)
 have hl:=gQ hw
 cases hno:v.no
 ·simp only [go_sem,hno]
  refine qQ (k113 F _ v.low v.w hl.1 hl.2) ?_
  cases h1:isN v.low v.w
  ·simp only [go_sem]
   exact qV hM (qW ⟨by simp [V.ok,hw,hno,h1],rfl,rfl⟩)
  simp only [go_sem]
  refine qQ (k113 F _ v.high v.w hl.1 hl.2) ?_
  cases h2:isN v.high v.w
  ·simp only [go_sem]
   exact qV hM (qW ⟨by simp [V.ok,hw,hno,h1,h2],rfl,rfl⟩)
  simp only [go_sem]
  refine qQ (k113 F _ v.free v.w hl.1 hl.2) ?_
  cases h3:isN v.free v.w
  ·simp only [go_sem]
   exact qV hM (qW ⟨by simp [V.ok,hw,hno,h1,h2,h3],rfl,rfl⟩)
  simp only [go_sem]
  refine qQ (k113 F _ v.bits v.w hl.1 hl.2) ?_
  cases h4:isN v.bits v.w
  ·simp only [go_sem]
   exact qV hM (qW ⟨by simp [V.ok,hw,hno,h1,h2,h3,h4],rfl,rfl⟩)
  simp only [go_sem]
  exact qV hM (qW ⟨by simp [V.ok,hw,hno,h1,h2,h3,h4],rfl,rfl⟩)
 ·simp only [go_sem,hno]
  exact qV hM (qW ⟨by simp [V.ok,hw,hno],rfl,rfl⟩)
theorem k53 (v:V)(n:Int):CallsA Tryz.prog 53 [v.val,.int .i64 n] F M (Same F M (.bool (v.has n))):=by
 refine qZ hm Tryz.func53 e53 (Nat.le_of_ble_eq_true rfl) ?_
 simp only [c53,go_sem]
 intro r hF hM
 simp only [go_sem]
 cases hno:v.no
 ·simp only [go_sem]
  by_cases hb:bclr .i64 n v.free=v.bits
  ·simp only [go_sem,hb,decide_true]
   by_cases hlh:v.low≤v.high
   ·simp only [go_sem,hlh,decide_true]
    refine qQ (k33 F _ n v.low v.high) ?_
    simp only [go_sem]
    exact qV hM (qW ⟨by simp [V.has,hno,hb,V.within,hlh],rfl,rfl⟩)
   ·simp only [go_sem,hlh,decide_false]
    refine gK_of (fun h=>?_) (fun h=>?_) <;> simp only [go_sem,h]
    all_goals exact qV hM (qW ⟨by simp only [V.has,V.within,hno,hb,hlh,if_false,h]; simp,rfl,rfl⟩)
  ·simp only [go_sem,hb,decide_false]
   exact qV hM (qW ⟨by simp [V.has,hno,hb],rfl,rfl⟩)
 ·simp only [go_sem]
  exact qV hM (qW ⟨by simp [V.has,hno],rfl,rfl⟩)
theorem k253 (v:V)(n:Int):CallsA Tryz.prog 253 [v.val,.int .i64 n] F M (Same F M (.bool (v.within n))):=by
 refine qZ hm Tryz.func253 e253 (Nat.le_of_ble_eq_true rfl) ?_
 simp only [c253,go_sem]
 intro r hF hM
 simp only [go_sem]
 by_cases hlh:v.low≤v.high <;> simp only [go_sem,hlh,decide_true,decide_false]
 all_goals refine gK_of (fun h=>?_) (fun h=>?_) <;> simp only [go_sem,h]
 all_goals exact qV hM (qW ⟨by simp only [V.within,hlh,if_true,if_false,h]; simp,rfl,rfl⟩)
theorem k206 (v:V)(n:Int):CallsA Tryz.prog 206 [v.val,.int .i64 n] F M (Same F M (.bool (v.has n))):=by
 refine qZ hm Tryz.func206 e206 (Nat.le_of_ble_eq_true rfl) ?_
 simp only [c206,go_sem]
 intro r hF hM
 simp only [go_sem]
 cases hno:v.no <;> simp only [go_sem]
 ·by_cases hb:bclr .i64 n v.free=v.bits <;> simp only [go_sem,hb,decide_true,decide_false]
  ·refine qQ (k253 F _ v n) ?_
   simp only [go_sem]
   exact qV hM (qW ⟨by simp [V.has,hno,hb],rfl,rfl⟩)
  ·exact qV hM (qW ⟨by simp [V.has,hno,hb],rfl,rfl⟩)
 ·exact qV hM (qW ⟨by simp [V.has,hno],rfl,rfl⟩)
def mayI (v:V)(F:Fz)(M:Hp)(r r1:Nat)(m:Nat)(σ:Env)(F':Fz)(M':Hp):Prop:=
 F'=F∧M'=(M.upd r ⟨v.cs,59,6⟩).upd r1 ⟨[.int .i64 v.low,.int .i64 v.high,.int .i64 v.free,.int .i64 v.bits],3,4⟩∧
   Ax.look σ 1=some (.pointer (some ⟨r,0,none⟩))∧Ax.look σ 24=some (.slice (some ⟨r1,0,none⟩) 4 4)∧Ax.look σ 25=some (.int .i64 4)∧
   (m=4∧Ax.look σ 26=some (.int .i64 0)∨m=3∧Ax.look σ 26=some (.int .i64 1)∧isN v.low v.w=true∨m=2∧Ax.look σ 26=some (.int .i64 2)∧isN v.low v.w=true∧isN v.high v.w=true∨
    m=1∧Ax.look σ 26=some (.int .i64 3)∧isN v.low v.w=true∧isN v.high v.w=true∧isN v.free v.w=true∨
    m=0∧Ax.look σ 26=some (.int .i64 4)∧isN v.low v.w=true∧isN v.high v.w=true∧isN v.free v.w=true∧isN v.bits v.w=true)
theorem k73 (v:V):CallsA Tryz.prog 73 [v.val] F M (Same F M (.bool v.ok)):=by
 refine qZ hm Tryz.func73 e73 (Nat.le_of_ble_eq_true rfl) ?_
 simp only [c73,go_sem]
 intro r hF hM
 simp only [go_sem]
 refine qQ (k121 F _ v.w) ?_
 cases hw:isW v.w
 ·simp only [go_sem]
  exact qV hM (qW ⟨by simp [V.ok,hw],rfl,rfl⟩)
 have hl:=gQ hw
 cases hno:v.no
 ·simp only [go_sem,hno]
  intro r1 hF1 hM1
  have hr:=wV hM1
  simp only [go_sem]
  refine loop_of (mayI v F M r r1) 4 ?_ ?_
  ·simp only [mayI,go_sem]
  ·rintro m σ F' M' ⟨rfl,rfl,h1,h24,h25,h26⟩
   rcases h26 with ⟨rfl,h26⟩ | ⟨rfl,h26,g1⟩ | ⟨rfl,h26,g1,g2⟩ | ⟨rfl,h26,g1,g2,g3⟩ | ⟨rfl,h26,g1,g2,g3,g4⟩
   ·simp only [go_sem,h1,h24,h25,h26,hr]
    refine qQ (k123 F' _ v.low v.w hl.1 hl.2) ?_
    cases g:isN v.low v.w
    ·simp only [go_sem]
     exact qV hM1 (qV hM (qW ⟨by simp [V.ok,hw,hno,g],rfl,rfl⟩))
    ·simp only [go_sem,h26]
     exact ⟨3,by omega,rfl,rfl,h1,h24,h25,by simp [go_sem,go_sem,g]⟩
   ·simp only [go_sem,h1,h24,h25,h26,hr]
    refine qQ (k123 F' _ v.high v.w hl.1 hl.2) ?_
    cases g:isN v.high v.w
    ·simp only [go_sem]
     exact qV hM1 (qV hM (qW ⟨by simp [V.ok,hw,hno,g],rfl,rfl⟩))
    ·simp only [go_sem,h26]
     exact ⟨2,by omega,rfl,rfl,h1,h24,h25,by simp [go_sem,go_sem,g,g1]⟩
   ·simp only [go_sem,h1,h24,h25,h26,hr]
    refine qQ (k123 F' _ v.free v.w hl.1 hl.2) ?_
    cases g:isN v.free v.w
    ·simp only [go_sem]
     exact qV hM1 (qV hM (qW ⟨by simp [V.ok,hw,hno,g],rfl,rfl⟩))
    ·simp only [go_sem,h26]
     exact ⟨1,by omega,rfl,rfl,h1,h24,h25,by simp [go_sem,go_sem,g,g1,g2]⟩
   ·simp only [go_sem,h1,h24,h25,h26,hr]
    refine qQ (k123 F' _ v.bits v.w hl.1 hl.2) ?_
    cases g:isN v.bits v.w
    ·simp only [go_sem]
     exact qV hM1 (qV hM (qW ⟨by simp [V.ok,hw,hno,g],rfl,rfl⟩))
    ·simp only [go_sem,h26]
     exact ⟨0,by omega,rfl,rfl,h1,h24,h25,by simp [go_sem,go_sem,g,g1,g2,g3]⟩
   ·simp only [go_sem,h1,h25,h26,hr]
    exact qV hM1 (qV hM (qW ⟨by simp [V.ok,hw,hno,g1,g2,g3,g4],rfl,rfl⟩))
 ·simp only [go_sem,hno]
  refine qQ (k122 F _ v.w) ?_
  simp only [go_sem]
  exact qV hM (qW ⟨by simp only [V.ok,hw,hno,Bool.true_and,if_true]; rfl,rfl,rfl⟩)
theorem ok_isW {v:V}(h:v.ok=true):isW v.w=true:=by
 simp [V.ok] at h; exact h.1
def fillI (v:V)(n:Int)(F:Fz)(M:Hp)(r:Nat)(m:Nat)(σ:Env)(F':Fz)(M':Hp):Prop:=
 F'=F∧M'=M.upd r ⟨v.cs,59,6⟩∧∃j:Nat,j+m=v.w.toNat∧Ax.look σ 1=some (.int .i64 n)∧Ax.look σ 2=some (.pointer (some ⟨r,0,none⟩))∧Ax.look σ 17=some (.int .i64 v.w)∧Ax.look σ 18=some (.int .i64 j)∧v.fillGo n m j=v.fillF n
theorem k220 (v:V)(n:Int)(hw:v.w≤62):CallsA Tryz.prog 220 [v.val,.int .i64 n] F M (Same F M (.int .i64 (v.fillF n))):=by
 refine qZ hm Tryz.func220 e220 (Nat.le_of_ble_eq_true rfl) ?_
 simp only [c220,go_sem]
 intro r hF hM
 simp only [go_sem]
 by_cases hb:bclr .i64 n v.free=v.bits
 ·simp only [go_sem,hb]
  exact qV hM (qW ⟨by simp [V.fillF,hb],rfl,rfl⟩)
 simp only [go_sem,hb]
 refine loop_of (fillI v n F M r) v.w.toNat ?_ ?_
 ·exact ⟨rfl,rfl,0,by omega,by simp only [go_sem],by simp only [go_sem],by simp only [go_sem],by simp only [go_sem],by simp [V.fillF,hb]⟩
 ·rintro m σ F' M' ⟨rfl,rfl,j,hj,h1,h2,h6,h5,hg⟩
  by_cases hjw:(j:Int) < v.w
  ·obtain ⟨f,rfl⟩:∃f,m=f+1:=⟨m - 1,by omega⟩
   have e1:IntKind.i64.wrap ((j:Int)+1)=j+1:=w64 (by omega) (by omega)
   have e2:¬((j:Int)+1 < 0):=by omega
   have e3:¬((j:Int) < 0):=by omega
   have e4:shlv .i64 1 (j:Int)=2 ^ j:=by rw [shl1 (by omega) (by omega)]; simp
   have e5:IntKind.i64.wrap ((2:Int) ^ j - 1)=2 ^ j - 1:=by
    have:=most_wrap (w:=(j:Int)) (by omega) (by omega)
    simpa [wH] using this
   simp only [go_sem,e3,e4,h1,h5,h6,hjw]
   simp only [V.fillGo] at hg
   by_cases a1:band .i64 n (2 ^ j)=0
   ·simp only [go_sem,e5,h1,h2,a1]
    by_cases a2:bclr .i64 (bclr .i64 (bor .i64 (bclr .i64 n (2 ^ j - 1)) (2 ^ j)) v.free) (2 ^ j - 1)=bclr .i64 v.bits (2 ^ j - 1)
    ·simp only [go_sem,e5,h2,a2]
     exact qV hM (qW ⟨by rw [←hg,V.fillStep,if_pos ⟨a1,a2⟩],rfl,rfl⟩)
    ·simp only [go_sem,e1,h5,a2]
     exact ⟨f,by omega,rfl,rfl,j+1,by omega,by simp only [go_sem,h1],by simp only [go_sem,h2],by simp only [go_sem,h6],by simp only [go_sem]; rfl,by rw [←hg,V.fillStep,if_neg (by simp [a2])]⟩
   ·simp only [go_sem,e1,h5,a1]
    exact ⟨f,by omega,rfl,rfl,j+1,by omega,by simp only [go_sem,h1],by simp only [go_sem,h2],by simp only [go_sem,h6],by simp only [go_sem]; rfl,by rw [←hg,V.fillStep,if_neg (by simp [a1])]⟩
  ·simp only [go_sem,h5,h6,hjw]
   obtain rfl:m=0:=by omega
   exact qV hM (qW ⟨by rw [←hg]; rfl,rfl,rfl⟩)
end Go.Proofs.Tryz.K
