/- A part of a proof about the given program: an abstract machine, what the given functions come to, and plain laws. -/
import Derived.Test.YtoginabccpjeoaaMachA
import Derived.Tactics2
import Derived.WalkKit
import Derived.Below
import Derived.Laws.IdiomCopy
import Derived.DeepKeys
import Derived.Laws.StructEq
set_option linter.unusedVariables false
set_option linter.unusedSimpArgs false
namespace Go.AM
inductive Loc where
 | absent
 | none
 | at (blk base room:Nat)
abbrev LMap:=Key->Loc
abbrev segVals:AV->List AV:=segValsOf
def flat (ss:List AV):List AV:=ss.flatMap segVals
theorem q001 (v:AV):(segVals v).length=segLen v:=by
 cases v<;>simp [segVals,segValsOf,segLen,recVals]
theorem q002 (ss:List AV):(flat ss).length=lenOf ss:=by
 induction ss with
 | nil=>rfl
 | cons s ss ih=>simp [flat,lenOf,q001] at *;try omega
theorem q003 (a b:List AV):flat (a++b)=flat a++flat b:=by simp [flat]
theorem q004 (a:AV)(b:List AV):flat (a::b)=segVals a++flat b:=by simp [flat]
def segLenAt (h:Heap)(b:Key)(s:Nat):Option Nat:=((blk? h b).bind (·[s]?)).map segLen
def segOff (h:Heap)(b:Key)(s:Nat):Nat:=lenOf ((blkD h b).take s)
abbrev has (h:Heap)(b:Key):Prop:=∃ ss,blk? h b=some ss
inductive VR (h:Heap) (μ:LMap):AV->Value->Prop where
 | undef (c:Value):VR h μ .undef c
 | bool (b:Bool):VR h μ (.bool b) (.bool b)
 | int (k:IntKind) (n:Int):fits k n=true->VR h μ (.int k n) (.int k n)
 | str (s:List UInt8):VR h μ (.str s) (.string ⟨s.toArray⟩)
 | ptr (p:Place) (a:Addr) (L:Nat):segLenAt h p.b p.s=some L->p.n<=L ->
   (p.n=L->∃ k base room,μ p.b=.at k base room∧a=⟨k,base+segOff h p.b p.s+p.o,none⟩)->VR h μ (.ptr p) (.pointer (some a))
 | slice (p:Place) (len cap es:Nat) (ex:Bool) (a:Option Addr) (cap':Nat) (L:Nat):segLenAt h p.b p.s=some L->p.n<=L->(len<=cap∧(0<cap->a≠none)) ->
   (p.n=L->cap<=cap'∧(ex=true->cap'=cap)∧((∃ k base room,μ p.b=.at k base room∧a=some ⟨k,base+segOff h p.b p.s+p.o,none⟩∧(ex=false->segOff h p.b p.s+p.o+cap'*es<=room))∨(μ p.b=.none∧a=none∧cap'=0))) ->
   VR h μ (.slice p len cap es ex) (.slice a len cap')
 | rptr (p:Place) (c:Nat) (a:Addr) (L:Nat):segLenAt h p.b p.s=some L->p.n<=L ->
   (p.n=L->∃ k base room,μ p.b=.at k base room∧a=⟨k,base+segOff h p.b p.s+p.o+c,none⟩)->VR h μ (.rptr p c) (.pointer (some a))
 | nils:VR h μ .nils (.slice none 0 0)
 | func (f:FuncId) (caps:List AV) (cs:Array Value):caps.length=cs.size->(∀ i,VR h μ (caps.getD i .undef) (cs.getD i Go.undef)) ->
   VR h μ (.func f caps) (.func (.func f) #[] cs)
 | agg (ss:List AV) (cs:Array Value):(flat ss).length=cs.size->(∀ i,VR h μ ((flat ss).getD i .undef) (cs.getD i Go.undef))->VR h μ (.agg ss) (.agg cs)
 | tuple (vs:List AV) (cs:Array Value):vs.length=cs.size->(∀ i,VR h μ (vs.getD i .undef) (cs.getD i Go.undef))->VR h μ (.tuple vs) (.tuple cs)
structure Le (h:Heap) (μ:LMap) (h':Heap) (μ':LMap):Prop where
 lens:∀ b s L,segLenAt h b s=some L->∃ L',segLenAt h' b s=some L'∧L<=L'∧(L=L'->segOff h' b s=segOff h b s∧(μ b≠.absent->μ' b=μ b))
theorem Le.refl (h:Heap)(μ:LMap):Le h μ h μ:=⟨fun _ _ L hl=>⟨L,hl,Nat.le_refl _,fun _=>⟨rfl,fun _=>rfl⟩⟩⟩
theorem Le.trans {h μ h1 μ1 h2 μ2}(a:Le h μ h1 μ1)(b:Le h1 μ1 h2 μ2):Le h μ h2 μ2:=⟨fun x s L hl=>by
 obtain ⟨L1,h1l,le1,e1⟩:=a.lens x s L hl
 obtain ⟨L2,h2l,le2,e2⟩:=b.lens x s L1 h1l
 refine ⟨L2,h2l,Nat.le_trans le1 le2,fun e=>?_⟩
 have q1:L=L1:=by omega
 have q2:L1=L2:=by omega
 refine ⟨(e2 q2).1.trans (e1 q1).1,fun hn=>?_⟩
 have r1:=(e1 q1).2 hn
 have r2:=(e2 q2).2 (by rw [r1];exact hn)
 exact r2.trans r1⟩
theorem VR.mono {h h':Heap}{μ μ':LMap}(le:Le h μ h' μ'){v:AV}{c:Value}(hv:VR h μ v c):VR h' μ' v c:=by
 induction hv with
 | undef c=>exact .undef c
 | bool b=>exact .bool b
 | int k n h=>exact .int k n h
 | str s=>exact .str s
 | ptr p a L hl hn hf=>
  obtain ⟨L',hl',hle,he⟩:=le.lens _ _ _ hl
  refine .ptr p a L' hl' (Nat.le_trans hn hle) fun e=>?_
  have e1:p.n=L:=by omega
  have e2:L=L':=by omega
  obtain ⟨k,base,room,hm,ha⟩:=hf e1
  refine ⟨k,base,room,?_,?_⟩
  ·rw [(he e2).2 (by rw [hm];simp),hm]
  ·rw [(he e2).1,ha]
 | rptr p c a L hl hn hf=>
  obtain ⟨L',hl',hle,he⟩:=le.lens _ _ _ hl
  refine .rptr p c a L' hl' (Nat.le_trans hn hle) fun e=>?_
  have e1:p.n=L:=by omega
  have e2:L=L':=by omega
  obtain ⟨k,base,room,hm,ha⟩:=hf e1
  refine ⟨k,base,room,?_,?_⟩
  ·rw [(he e2).2 (by rw [hm];simp),hm]
  ·rw [(he e2).1,ha]
 | slice p len cap es ex a cap' L hl hn hlc hf=>
  obtain ⟨L',hl',hle,he⟩:=le.lens _ _ _ hl
  refine .slice p len cap es ex a cap' L' hl' (Nat.le_trans hn hle) hlc fun e=>?_
  have e1:p.n=L:=by omega
  have e2:L=L':=by omega
  obtain ⟨c1,c2,c3⟩:=hf e1
  refine ⟨c1,c2,?_⟩
  rcases c3 with ⟨k,base,room,hm,ha,hrm⟩ | ⟨hm,ha,hc⟩
  ·exact .inl ⟨k,base,room,by rw [(he e2).2 (by rw [hm];simp),hm],by rw [(he e2).1,ha],by rw [(he e2).1];exact hrm⟩
  ·exact .inr ⟨by rw [(he e2).2 (by rw [hm];simp),hm],ha,hc⟩
 | nils=>exact .nils
 | func f caps cs h1 _ ih=>exact .func f caps cs h1 ih
 | agg ss cs h1 _ ih=>exact .agg ss cs h1 ih
 | tuple vs cs h1 _ ih=>exact .tuple vs cs h1 ih
inductive Scoped (h:Heap):AV->Prop where
 | undef:Scoped h .undef
 | bool (b:Bool):Scoped h (.bool b)
 | int (k:IntKind) (n:Int):Scoped h (.int k n)
 | str (s:List UInt8):Scoped h (.str s)
 | nils:Scoped h .nils
 | ptr (p:Place) (L:Nat):segLenAt h p.b p.s=some L->p.n<=L->Scoped h (.ptr p)
 | rptr (p:Place) (c:Nat) (L:Nat):segLenAt h p.b p.s=some L->p.n<=L->Scoped h (.rptr p c)
 | slice (p:Place) (len cap es:Nat) (ex:Bool) (L:Nat):segLenAt h p.b p.s=some L->p.n<=L->Scoped h (.slice p len cap es ex)
 | func (f:FuncId) (caps:List AV):(∀ i,Scoped h (caps.getD i .undef))->Scoped h (.func f caps)
 | agg (ss:List AV):(∀ i,Scoped h ((flat ss).getD i .undef))->Scoped h (.agg ss)
 | tuple (vs:List AV):(∀ i,Scoped h (vs.getD i .undef))->Scoped h (.tuple vs)
theorem VR.inScope {h:Heap}{μ:LMap}{v:AV}{c:Value}(hv:VR h μ v c):Scoped h v:=by
 induction hv with
 | undef=>exact .undef
 | bool=>exact .bool _
 | int=>exact .int _ _
 | str=>exact .str _
 | ptr p a L h1 h2 _=>exact .ptr p L h1 h2
 | rptr p c a L h1 h2 _=>exact .rptr p c L h1 h2
 | slice p len cap es ex a cap' L h1 h2 _ _=>exact .slice p len cap es ex L h1 h2
 | nils=>exact .nils
 | func f caps cs _ _ ih=>exact .func f caps ih
 | agg ss cs _ _ ih=>exact .agg ss ih
 | tuple vs cs _ _ ih=>exact .tuple vs ih
theorem Scoped.mono {h h':Heap}(hl:∀ b s L,segLenAt h b s=some L->∃ L',segLenAt h' b s=some L'∧L<=L'){v:AV}(hv:Scoped h v):Scoped h' v:=by
 induction hv with
 | undef=>exact .undef
 | bool=>exact .bool _
 | int=>exact .int _ _
 | str=>exact .str _
 | nils=>exact .nils
 | ptr p L h1 h2=>
  obtain ⟨L',h3,h4⟩:=hl _ _ _ h1
  exact .ptr p L' h3 (Nat.le_trans h2 h4)
 | rptr p c L h1 h2=>
  obtain ⟨L',h3,h4⟩:=hl _ _ _ h1
  exact .rptr p c L' h3 (Nat.le_trans h2 h4)
 | slice p len cap es ex L h1 h2=>
  obtain ⟨L',h3,h4⟩:=hl _ _ _ h1
  exact .slice p len cap es ex L' h3 (Nat.le_trans h2 h4)
 | func f caps _ ih=>exact .func f caps ih
 | agg ss _ ih=>exact .agg ss ih
 | tuple vs _ ih=>exact .tuple vs ih
theorem Le.inScope {h h':Heap}{μ μ':LMap}(le:Le h μ h' μ'){v:AV}(hv:Scoped h v):Scoped h' v:=
 hv.mono fun b s L hl=>let ⟨L',h1,h2,_⟩:=le.lens b s L hl;⟨L',h1,h2⟩
def ScopedH (h:Heap):Prop:=∀ (b:Key) (ss:Blk),blk? h b=some ss->∀ (i:Nat) (v:AV),(flat ss)[i]?=some v->Scoped h v
structure HR (ro:Nat) (h:Heap) (μ:LMap) (w:World):Prop where
 nil_:∀ (b:Key) ss,blk? h b=some ss->μ b=.none->flat ss=[]
 at_:∀ (b:Key) ss k base room,blk? h b=some ss->μ b=.at k base room->k<w.heap.size∧(flat ss).length<=room ∧
  (∀ i,i<room->(∃ c,w.cell? ⟨k,base+i,none⟩=some c)∧w.frozen? ⟨k,base+i,none⟩=false) ∧
  ∀ i v,(flat ss)[i]?=some v->∃ c,w.cell? ⟨k,base+i,none⟩=some c∧c.oneCell'=true∧VR h μ v c
 inj:∀ (b b':Key) k base room base' room',ro<=b.b->has h b->has h b'->b≠b'->μ b=.at k base room->μ b'≠.at k base' room'
 scope:ScopedH h
 rol:ro<=h.length
structure Ext (ro:Nat) (h:Heap) (μ:LMap) (w:World) (h':Heap) (μ':LMap) (w':World):Prop where
 le:Le h μ h' μ'
 os:w'.os=w.os
 tape:w'.tape=w.tape
 output:w'.output=w.output
 size:w.heap.size<=w'.heap.size
 len:h.length<=h'.length
 frame:∀ k,k<w.heap.size->(∀ (b:Key) base room,ro<=b.b->has h b->μ b≠.at k base room)->w'.heap[k]?=w.heap[k]?
 rob:∀ b,b<ro->b<h.length->h'[b]?=h[b]?∧∀ r,μ' ⟨b,r⟩=μ ⟨b,r⟩
 moved:∀ (b:Key) k base room,has h' b->μ' b=.at k base room->(∃ b2 base2 room2,has h b2∧μ b2=.at k base2 room2∧(ro<=b2.b∨b2=b))∨w.heap.size<=k
 froz:∀ a,w'.frozen? a=w.frozen? a
theorem Ext.refl (ro:Nat)(h:Heap)(μ:LMap)(w:World):Ext ro h μ w h μ w:=
 ⟨.refl _ _,rfl,rfl,rfl,Nat.le_refl _,Nat.le_refl _,fun _ _ _=>rfl,fun _ _ _=>⟨rfl,fun _=>rfl⟩,fun b _ base room hb hm=>.inl ⟨b,base,room,hb,hm,.inr rfl⟩,fun _=>rfl⟩
theorem Ext.trans {ro h μ w h1 μ1 w1 h2 μ2 w2}(a:Ext ro h μ w h1 μ1 w1)(b:Ext ro h1 μ1 w1 h2 μ2 w2):Ext ro h μ w h2 μ2 w2 where
 le:=a.le.trans b.le
 os:=b.os.trans a.os
 tape:=b.tape.trans a.tape
 output:=b.output.trans a.output
 size:=Nat.le_trans a.size b.size
 len:=Nat.le_trans a.len b.len
 frame k hk hn:=by
  rw [b.frame k (Nat.lt_of_lt_of_le hk a.size) fun x base room hx hx1 hm=>?_,a.frame k hk hn]
  rcases a.moved x k base room hx1 hm with ⟨b2,base2,room2,h1,h2,h3⟩ | h1
  ·exact hn b2 base2 room2 (h3.elim id fun e=>by rw [e];exact hx) h1 h2
  ·omega
 rob x hx hl:=by
  obtain ⟨h1,h2⟩:=a.rob x hx hl
  obtain ⟨h3,h4⟩:=b.rob x hx (Nat.lt_of_lt_of_le hl a.len)
  exact ⟨h3.trans h1,fun r=>(h4 r).trans (h2 r)⟩
 moved x k base room hx hm:=by
  rcases b.moved x k base room hx hm with ⟨b1,base1,room1,h1,h2,h3⟩ | h1
  ·rcases a.moved b1 k base1 room1 h1 h2 with ⟨b2,base2,room2,g1,g2,g3⟩ | g1
   ·refine .inl ⟨b2,base2,room2,g1,g2,?_⟩
    rcases g3 with g3 | rfl
    ·exact .inl g3
    ·exact h3
   ·exact .inr g1
  ·exact .inr (Nat.le_trans a.size h1)
 froz x:=(b.froz x).trans (a.froz x)
def TR (h:Heap)(μ:LMap)(t:List AV)(tmps:Array Value):Prop:=t.length=tmps.size∧∀ i,VR h μ (t.getD i .undef) (tmps.getD i Go.undef)
theorem TR.mono {h h':Heap}{μ μ':LMap}(le:Le h μ h' μ'){t:List AV}{ts:Array Value}(ht:TR h μ t ts):TR h' μ' t ts:=⟨ht.1,fun i=>(ht.2 i).mono le⟩
theorem q005 {β:Type}(l:List β)(i j:Nat)(v d:β):(l.set i v).getD j d=if i=j∧i<l.length then v else l.getD j d:=by
 simp only [List.getD_eq_getElem?_getD,List.getElem?_set]
 by_cases h:i=j
 ·subst h
  by_cases h2:i<l.length
  ·simp [h2]
  ·simp [h2]
 ·simp [h]
theorem q006 {β:Type}(l:Array β)(i j:Nat)(v d:β):(l.setIfInBounds i v).getD j d=if i=j∧i<l.size then v else l.getD j d:=by
 rw [Array.getD_eq_getD_getElem?,Array.getD_eq_getD_getElem?,Array.getElem?_setIfInBounds]
 by_cases h:i=j
 ·subst h
  by_cases h2:i<l.size
  ·simp [h2]
  ·simp [h2]
 ·simp [h]
theorem TR.put {h:Heap}{μ:LMap}{t:List AV}{a:Act}(ht:TR h μ t a.tmps)(dst:Option Nat){v:AV}{c:Value}(hv:VR h μ v c):
  TR h μ (putO t dst v) (a.put dst c).tmps:=by
 cases dst with
 | none=>exact ht
 | some d=>
  refine ⟨by simp [putO,Act.put,ht.1],fun i=>?_⟩
  simp only [putO,Act.put,q005,q006,<- ht.1]
  split
  ·exact hv
  ·exact ht.2 i
end Go.AM
namespace Go.AM
theorem q007 {α:Type}{b:Bool}{x y:Option α}{r:α}(h:br b x y=some r):(b=true∧x=some r)∨(b=false∧y=some r):=by
 cases b
 ·exact .inr ⟨rfl,h⟩
 ·exact .inl ⟨rfl,h⟩
theorem q008 {α:Type}{b:Bool}{x:Option α}{r:α}(h:br b x none=some r):b=true∧x=some r:=by
 rcases q007 h with h | ⟨_,h⟩
 ·exact h
 ·cases h
theorem q009 {h:Heap}{b:Key}{ss:Blk}(hb:blk? h b=some ss):blkD h b=ss:=by
 unfold blk? at hb
 unfold blkD
 split at hb
 ·split at hb
  ·rename_i x hx
   cases hp:isPool x<;>rw [hp] at hb<;>simp only [cond_true,cond_false,reduceCtorEq,Option.some.injEq] at hb
   simp only [hb,cond_false]
  ·cases hb
 ·split at hb
  ·rename_i x hx
   split at hb
   ·rename_i k rows hr
    split at hb
    ·rename_i xs hxs
     simp only [Option.some.injEq] at hb
     simp only [hr,List.getD_eq_getElem?_getD,hxs,Option.getD_some,hb]
    ·cases hb
   ·cases hb
  ·cases hb
theorem q00a {h h':Heap}{b b':Key}(hx:∃ ss,blk? h b=some ss)(e:blk? h' b'=blk? h b):blkD h' b'=blkD h b:=by
 obtain ⟨ss,hx⟩:=hx
 rw [q009 hx,q009 (e.trans hx)]
theorem q00b {h h':Heap}{κ κ':Key}(hr:κ'.r=κ.r)(hb:h'[κ'.b]?=h[κ.b]?):blkD h' κ'=blkD h κ:=by
 unfold blkD
 rw [hr,hb]
theorem q00c {h:Heap}{b:Key}(hr:b.r=0)(hb:blk? h b=none):blkD h b=[]:=by
 unfold blk? at hb
 unfold blkD
 rw [hr] at hb ⊢
 simp only at hb ⊢
 split at hb
 ·rename_i x hx
  cases hp:isPool x with
  | true=>simp
  | false=>rw [hp] at hb;cases hb
 ·simp
theorem q00d {h:Heap}{b:Key}{s:Nat}(h0:0<segLen (getSeg h b s)):has h b:=by
 cases hq:blk? h b with
 | some ss=>exact ⟨ss,hq⟩
 | none=>
  exfalso
  unfold getSeg at h0
  have:∀ s,segLen ((blkD h b).getD s .undef)=0:=by
   unfold blk? at hq
   unfold blkD
   split at hq
   ·split at hq
    ·rename_i x hx
     intro s
     cases hp:isPool x with
     | true=>simp [segLen]
     | false=>rw [hp] at hq;cases hq
    ·rename_i hx;intro s;simp [segLen]
   ·split at hq
    ·rename_i x hx
     split at hq
     ·rename_i r k rows hr
      split at hq
      ·cases hq
      ·rename_i hxs
       intro s
       simp only [hr,List.getD_eq_getElem?_getD,hxs,Option.getD_none]
       cases s<;>simp [segLen]
     ·rename_i hr
      intro s
      simp [hr,segLen]
    ·rename_i hx;intro s;simp [segLen]
  rw [this] at h0
  omega
theorem q00e {h:Heap}{b:Nat}{x:Blk}(hx:isPool x=false)(hb:h[b]?=some x):blk? h ⟨b,0⟩=some x:=by
 simp only [blk?,hb,hx,cond_false]
theorem q00f {x:Blk}{k:IntKind}{rows:List (List Int)}(h:poolOf x=some (k,rows)):x=[.pool k rows]:=by
 unfold poolOf at h
 split at h
 ·cases h;rfl
 ·cases h
theorem q00g {x:Blk}:isPool x=true↔∃ k rows,poolOf x=some (k,rows):=by
 constructor
 ·intro h
  unfold isPool at h
  split at h
  ·exact ⟨_,_,rfl⟩
  ·cases h
 ·rintro ⟨k,rows,h⟩
  rw [q00f h]
  rfl
theorem q00h {h:Heap}{b r:Nat}{k:IntKind}{rows:List (List Int)}{xs:List Int}(hb:h[b]?=some [.pool k rows])(hr:rows[r]?=some xs):blk? h ⟨b,r+1⟩=some [.vec k xs]:=by
 simp only [blk?,hb,poolOf,hr]
theorem q00i {h:Heap}{κ:Key}{x:Blk}(hb:blk? h κ=some x):(κ.r=0∧h[κ.b]?=some x∧isPool x=false)∨∃ r k rows xs,κ.r=r+1∧h[κ.b]?=some [.pool k rows]∧rows[r]?=some xs∧x=[.vec k xs]:=by
 unfold blk? at hb
 split at hb
 ·rename_i hr
  split at hb
  ·rename_i y hy
   cases hp:isPool y with
   | true=>rw [hp] at hb;cases hb
   | false=>
    rw [hp] at hb
    simp only [cond_false,Option.some.injEq] at hb
    subst hb
    exact .inl ⟨hr,hy,hp⟩
  ·cases hb
 ·rename_i r hr
  split at hb
  ·rename_i y hy
   split at hb
   ·rename_i k rows hk
    split at hb
    ·rename_i xs hxs
     cases hb
     exact .inr ⟨r,k,rows,xs,hr,by rw [hy,q00f hk],hxs,rfl⟩
    ·cases hb
   ·cases hb
  ·cases hb
theorem q00j {h:Heap}{κ:Key}(hb:has h κ):κ.b<h.length:=by
 obtain ⟨x,hb⟩:=hb
 rcases q00i hb with ⟨_,h1,_⟩ | ⟨_,_,_,_,_,h1,_,_⟩
 ·exact (List.getElem?_eq_some_iff.1 h1).1
 ·exact (List.getElem?_eq_some_iff.1 h1).1
theorem q00k {h h':Heap}{κ κ':Key}(hr:κ'.r=κ.r)(hb:h'[κ'.b]?=h[κ.b]?):blk? h' κ'=blk? h κ:=by
 unfold blk?
 rw [hr,hb]
theorem q00l (ss:List AV)(s i:Nat):(flat ss)[lenOf (ss.take s)+i]?=(flat (ss.drop s))[i]?:=by
 have e:flat ss=flat (ss.take s)++flat (ss.drop s):=by rw [<- q003,List.take_append_drop]
 rw [e,List.getElem?_append_right (by rw [q002];omega),q002]
 congr 1
 omega
theorem q00m {h:Heap}{b:Key}{s L:Nat}(hl:segLenAt h b s=some L):∃ ss,blk? h b=some ss∧ss[s]?=some (getSeg h b s)∧segLen (getSeg h b s)=L:=by
 unfold segLenAt at hl
 cases hb:blk? h b with
 | none=>simp [hb] at hl
 | some ss=>
  cases hs:ss[s]? with
  | none=>simp [hb,hs] at hl
  | some seg=>
   have e:getSeg h b s=seg:=by simp [getSeg,List.getD_eq_getElem?_getD,q009 hb,hs]
   refine ⟨ss,rfl,?_,?_⟩
   ·rw [e,hs]
   ·rw [e];simpa [hb,hs] using hl
theorem q00n {h:Heap}{b:Key}{s:Nat}{ss:Blk}(hb:blk? h b=some ss):segOff h b s=lenOf (ss.take s):=by
 rw [segOff,q009 hb]
theorem q00o {ss:List AV}{s:Nat}{seg:AV}(hs:ss[s]?=some seg):ss.drop s=seg::ss.drop (s+1):=by
 obtain ⟨hlt,he⟩:=List.getElem?_eq_some_iff.1 hs
 rw [List.drop_eq_getElem_cons hlt,he]
theorem HR.row {ro:Nat}{h:Heap}{μ:LMap}{w:World}(H:HR ro h μ w){b:Key}{s L k base room:Nat}(hl:segLenAt h b s=some L)(hm:μ b=.at k base room){i:Nat}{v:AV}
  (hv:(flat ((blkD h b).drop s))[i]?=some v):
  ∃ c,w.cell? ⟨k,base+segOff h b s+i,none⟩=some c∧w.frozen? ⟨k,base+segOff h b s+i,none⟩=false∧c.oneCell'=true∧VR h μ v c:=by
 obtain ⟨ss,hb,hs,hL⟩:=q00m hl
 obtain ⟨_,hr,hx,hc⟩:=H.at_ b ss k base room hb hm
 have hd:blkD h b=ss:=q009 hb
 rw [hd,<- q00l] at hv
 have ho:=q00n (s:=s) hb
 have hlt:lenOf (ss.take s)+i<(flat ss).length:=by
  rcases Nat.lt_or_ge (lenOf (ss.take s)+i) (flat ss).length with h | h
  ·exact h
  ·rw [List.getElem?_eq_none h] at hv;cases hv
 obtain ⟨c,h1,h2,h3⟩:=hc _ v hv
 rw [ho,Nat.add_assoc]
 exact ⟨c,h1,(hx _ (by omega)).2,h2,h3⟩
theorem q00p {h:Heap}{b:Key}{s L:Nat}(hl:segLenAt h b s=some L){i:Nat}{v:AV}(hv:(segVals (getSeg h b s))[i]?=some v):(flat ((blkD h b).drop s))[i]?=some v:=by
 obtain ⟨ss,hb,hs,hL⟩:=q00m hl
 have hd:blkD h b=ss:=q009 hb
 rw [hd,q00o hs,q004,List.getElem?_append_left,hv]
 rcases Nat.lt_or_ge i (segVals (getSeg h b s)).length with h | h
 ·exact h
 ·rw [List.getElem?_eq_none h] at hv;cases hv
theorem q00q (k o i:Nat):(⟨k,o,none⟩:Addr).add i=⟨k,o+i,none⟩:=by
 unfold Addr.add;split<;>simp_all
theorem q00r {k:IntKind}{n:Nat}{f:Nat->Int}{i:Nat}(hi:i<n):(segVals (.ints k n f))[i]?=some (.int k (f i)):=by simp [segVals,segValsOf,hi]
theorem q00s {n:Nat}{f:Nat->Bool}{i:Nat}(hi:i<n):(segVals (.bools n f))[i]?=some (.bool (f i)):=by simp [segVals,segValsOf,hi]
theorem q00t {k:IntKind}{xs:List Int}{i:Nat}(hi:i<xs.length):(segVals (.vec k xs))[i]?=some (.int k (xs.getD i 0)):=by
 simp [segVals,segValsOf,List.getD_eq_getElem?_getD,hi]
theorem q00u {b:Nat}{ids:List (Nat×Nat)}{i:Nat}(hi:i<ids.length):(segVals (.hdr b ids))[i]?=some (idCell b (ids.getD i (0,0))):=by
 simp [segVals,segValsOf,List.getD_eq_getElem?_getD,hi]
theorem q00v {xs:List (List UInt8)}{i:Nat}(hi:i<xs.length):(segVals (.strs xs))[i]?=some (.str (xs.getD i [])):=by
 simp [segVals,segValsOf,List.getD_eq_getElem?_getD,hi]
section
variable {α:Type} {P:Program} {r:α}
def LoadSem (P:Program)(t:TypeId)(p:Place)(h:Heap)(v:AV):Prop:=
 ∀ (ro:Nat) (μ:LMap) (w:World) (a:Addr),VR h μ (.ptr p) (.pointer (some a))->HR ro h μ w->∃ c,(loadVar t a).run P w=.ok c w∧VR h μ v c
theorem VR.ptr_inv {h:Heap}{μ:LMap}{p:Place}{c:Value}(hv:VR h μ (.ptr p) c):
  ∃ a L,c=.pointer (some a)∧segLenAt h p.b p.s=some L∧p.n<=L∧(p.n=L->∃ k base room,μ p.b=.at k base room∧a=⟨k,base+segOff h p.b p.s+p.o,none⟩):=by
 cases hv with
 | ptr _ a L h1 h2 h3=>exact ⟨a,L,rfl,h1,h2,h3⟩
theorem q00w {h:Heap}{μ:LMap}{p:Place}{a:Addr}(hv:VR h μ (.ptr p) (.pointer (some a)))(hn:p.n=segLen (getSeg h p.b p.s)):
  ∃ L k base room,segLenAt h p.b p.s=some L∧μ p.b=.at k base room∧a=⟨k,base+segOff h p.b p.s+p.o,none⟩:=by
 obtain ⟨a',L,e,h1,h2,h3⟩:=hv.ptr_inv
 cases e
 obtain ⟨ss,_,_,hL⟩:=q00m h1
 obtain ⟨k,base,room,h4,h5⟩:=h3 (by omega)
 exact ⟨L,k,base,room,h1,h4,h5⟩
theorem q00x {t:TypeId}{d:TypeDesc}(hu:P.underlying t=some d)(hd:∀ fs,d≠.struct fs)(hd2:∀ n e,d≠.array n e){w:World}{a:Addr}{c:Value}(hc:w.cell? a=some c):
  (loadVar t a).run P w=.ok c w:=by
 have h1:(isAgg t).run P w=.ok false w:=by
  simp only [isAgg,Sem.run_bind,run_underlying hu,Result.andThen_ok]
  cases d<;>first | rfl | exact absurd rfl (hd _) | exact absurd rfl (hd2 _ _)
 simp [loadVar,Sem.run_bind,h1,hc]
theorem q00y {t:TypeId}{d:TypeDesc}(hu:P.underlying t=some d)(hd:∀ fs,d≠.struct fs)(hd2:∀ n e,d≠.array n e){p:Place}{h:Heap}{K:AV->Option α}
  (he:loadCell p h K=some r):∃ v,K v=some r∧LoadSem P t p h v:=by
 have key:∀ v,p.n=segLen (getSeg h p.b p.s)->(segVals (getSeg h p.b p.s))[p.o]?=some v->LoadSem P t p h v:=by
  intro v hn hv ro μ w a hp H
  obtain ⟨L,k,base,room,h1,h2,rfl⟩:=q00w hp hn
  obtain ⟨c,h3,_,_,h4⟩:=H.row h1 h2 (q00p h1 hv)
  exact ⟨c,q00x hu hd hd2 h3,h4⟩
 unfold loadCell at he
 split at he
 ·rename_i k n f hs
  obtain ⟨hb,hk⟩:=q008 he
  simp only [Bool.and_eq_true,Nat.blt_eq] at hb
  exact ⟨_,hk,key _ (by rw [hs];simpa [segLen] using hb.1) (by rw [hs];exact q00r hb.2)⟩
 ·rename_i k xs hs
  obtain ⟨hb,hk⟩:=q008 he
  simp only [Bool.and_eq_true,Nat.blt_eq] at hb
  exact ⟨_,hk,key _ (by rw [hs];simpa [segLen] using hb.1) (by rw [hs];exact q00t hb.2)⟩
 ·rename_i n f hs
  obtain ⟨hb,hk⟩:=q008 he
  simp only [Bool.and_eq_true,Nat.blt_eq] at hb
  exact ⟨_,hk,key _ (by rw [hs];simpa [segLen] using hb.1) (by rw [hs];exact q00s hb.2)⟩
 ·rename_i vs hs
  obtain ⟨hb,hk⟩:=q008 he
  have hb:=Nat.eq_of_beq_eq_true hb
  split at hk
  ·cases hk
  ·rename_i v hne
   refine ⟨_,hk,key _ (by rw [hs];simpa [segLen] using hb) ?_⟩
   rw [hs]
   simp only [segVals,segValsOf]
   rw [List.getD_eq_getElem?_getD] at hne ⊢
   cases hq:vs[p.o]? with
   | none=>simp [hq] at hne
   | some v=>simp
 ·rename_i pb ids hs
  obtain ⟨hb,hk⟩:=q008 he
  simp only [Bool.and_eq_true,Nat.blt_eq] at hb
  exact ⟨_,hk,key _ (by rw [hs];simpa [segLen] using hb.1) (by rw [hs];exact q00u hb.2)⟩
 ·rename_i xs hs
  obtain ⟨hb,hk⟩:=q008 he
  simp only [Bool.and_eq_true,Nat.blt_eq] at hb
  exact ⟨_,hk,key _ (by rw [hs];simpa [segLen] using hb.1) (by rw [hs];exact q00v hb.2)⟩
 ·cases he
theorem q00z {k k':IntKind}(h:keq k k'=true):k=k':=by cases k<;>cases k'<;>first | rfl | simp [keq] at h
theorem q010 (o x:Nat):addO o x=o+x:=by cases o<;>simp [addO]
theorem q011 (x m:Nat):mulS x m=x*m:=by
 unfold mulS
 split
 ·simp
 ·rfl
theorem q012 {β:Type}(f:Nat->β)(o i:Nat):shiftF f o i=f (o+i):=by cases o<;>simp [shiftF]
theorem q013 {t:TypeId}{k:IntKind}{m:Nat}(h:homT P t=some (k,m)):m=P.cellsOf t:=by
 unfold homT at h
 split at h
 ·rename_i k' m' _
  cases hc:Nat.beq (P.cellsOf t) m' with
  | false=>simp [hc] at h
  | true=>
   simp only [hc,cond_true,Option.some.injEq,Prod.mk.injEq] at h
   have:=Nat.eq_of_beq_eq_true hc
   omega
 ·cases h
theorem q014:∀ (l:List AV) (n:Nat) (r:List AV),takeSegs l n=some r->(flat r).length=n∧∀ i,i<n->(flat r)[i]?=(flat l)[i]?
 | l,0,r,h=>by
  have:r=[]:=by cases l<;>simp [takeSegs] at h<;>exact h
  subst this
  exact ⟨rfl,fun i hi=>by omega⟩
 | [],n+1,r,h=>by simp [takeSegs] at h
 | s::rest,n+1,r,h=>by
  simp only [takeSegs] at h
  cases hc:(Nat.ble (segLen s) (n+1)&&Nat.blt 0 (segLen s)) with
  | false=>simp [hc] at h
  | true=>
   simp only [hc,cond_true] at h
   simp only [Bool.and_eq_true,Nat.ble_eq,Nat.blt_eq] at hc
   cases hr:takeSegs rest (n+1-segLen s) with
   | none=>simp [hr] at h
   | some r'=>
    simp only [hr,Option.some.injEq] at h
    subst h
    obtain ⟨h1,h2⟩:=q014 rest _ r' hr
    rw [q004,q004]
    refine ⟨by simp [q001,h1];omega,fun i hi=>?_⟩
    by_cases hlt:i<segLen s
    ·rw [List.getElem?_append_left (by rw [q001];exact hlt),List.getElem?_append_left (by rw [q001];exact hlt)]
    ·rw [List.getElem?_append_right (by rw [q001];omega),List.getElem?_append_right (by rw [q001];omega),q001]
     exact h2 _ (by omega)
termination_by _ n _ _=>n
decreasing_by simp only [Bool.and_eq_true,Nat.ble_eq,Nat.blt_eq] at hc;omega
theorem q015 {t:TypeId}{d:TypeDesc}(hu:P.underlying t=some d):∃ i,P.info? t=some i:=by
 unfold Program.underlying at hu
 cases h:P.info? t with
 | none=>simp [h] at hu
 | some i=>exact ⟨i,rfl⟩
theorem q016 {t:TypeId}{d:TypeDesc}(hu:P.underlying t=some d)(w:World):(sizeOf t).run P w=.ok (P.cellsOf t) w:=by
 obtain ⟨i,hi⟩:=q015 hu
 simp [sizeOf,typeInfo,hi,Program.cellsOf]
theorem q017 {t:TypeId}{d:TypeDesc}(hu:P.underlying t=some d)(hd:(∃ fs,d=.struct fs)∨(∃ n e,d=.array n e)){w:World}{k o:Nat}{h:Heap}{μ:LMap}{ss:List AV}
  (hn:(flat ss).length=P.cellsOf t)
  (hc:∀ i v,(flat ss)[i]?=some v->∃ c,w.cell? ⟨k,o+i,none⟩=some c∧VR h μ v c):∃ c,(loadVar t ⟨k,o,none⟩).run P w=.ok c w∧VR h μ (.agg ss) c:=by
 have h1:(isAgg t).run P w=.ok true w:=by
  simp only [isAgg,Sem.run_bind,run_underlying hu,Result.andThen_ok]
  rcases hd with ⟨fs,rfl⟩ | ⟨n,e,rfl⟩<;>rfl
 let f:Nat->Value:=fun i=>(w.cell? ⟨k,o+i,none⟩).getD Go.undef
 have h2:∀ j,j<P.cellsOf t->w.cell? ((⟨k,o,none⟩:Addr).add j)=some (f j):=by
  intro j hj
  rw [q00q]
  rw [<- hn] at hj
  obtain ⟨c,hc1,_⟩:=hc j _ (List.getElem?_eq_getElem hj)
  simp [f,hc1]
 refine ⟨.agg ((List.range (P.cellsOf t)).map f).toArray,?_,?_⟩
 ·simp [loadVar,Sem.run_bind,h1,q016 hu,run_loadCells w _ _ f h2]
 ·refine .agg _ _ (by simp [hn]) fun i=>?_
  by_cases hi:i<(flat ss).length
  ·obtain ⟨c,hc1,hc2⟩:=hc i _ (List.getElem?_eq_getElem hi)
   have e1:(flat ss).getD i .undef=(flat ss)[i]:=by simp [List.getD_eq_getElem?_getD,hi]
   have e2:((List.range (P.cellsOf t)).map f).toArray.getD i Go.undef=c:=by
    rw [Array.getD_eq_getD_getElem?]
    simp [<- hn,hi,f,hc1]
   rw [e1,e2]
   exact hc2
  ·have e1:(flat ss).getD i .undef=.undef:=by simp [List.getD_eq_getElem?_getD,hi]
   rw [e1]
   exact .undef _
theorem q018 {ks:List (Option IntKind)}{xs:List Int}{i:Nat}(hi:i<xs.length):(recVals ks xs)[i]?=some (convC (ks.getD (i%ks.length) none) (xs.getD i 0)):=by
 simp [recVals,hi]
theorem q019 (xs:List Int)(o:Nat):∀ (ks:List (Option IntKind)) (j i:Nat),(recCells ks xs o j)[i]?=(ks[i]?).map fun k=>convC k (xs.getD (o+(j+i)) 0):=by
 intro ks
 induction ks with
 | nil=>intro j i;simp [recCells]
 | cons k ks ih=>
  intro j i
  cases i with
  | zero=>simp [recCells,q010]
  | succ i=>simp only [recCells,List.getElem?_cons_succ,ih];rw [show j+1+i=j+(i+1) by omega]
theorem q01a (xs:List Int)(o:Nat):∀ (ks:List (Option IntKind)) (j:Nat),(recCells ks xs o j).length=ks.length:=by
 intro ks
 induction ks with
 | nil=>intro j;rfl
 | cons k ks ih=>intro j;simp [recCells,ih]
theorem q01b {t:TypeId}{d:TypeDesc}(hu:P.underlying t=some d)(hd:(∃ fs,d=.struct fs)∨(∃ n e,d=.array n e)){p:Place}{h:Heap}{K:AV->Option α}
  (he:loadAgg P t p h K=some r):∃ v,K v=some r∧LoadSem P t p h v:=by
 have key:∀ ss,p.n=segLen (getSeg h p.b p.s)->(flat ss).length=P.cellsOf t->(∀ i v,(flat ss)[i]?=some v->(flat ((blkD h p.b).drop p.s))[p.o+i]?=some v)->LoadSem P t p h (.agg ss):=by
  intro ss hn hl hv ro μ w a hp H
  obtain ⟨L,k,base,room,h1,h2,rfl⟩:=q00w hp hn
  refine q017 hu hd hl fun i v hi=>?_
  obtain ⟨c,h3,_,_,h4⟩:=H.row h1 h2 (hv i v hi)
  exact ⟨c,by rw [Nat.add_assoc];exact h3,h4⟩
 have one:∀ {L:Nat} {i:Nat} {v:AV},segLenAt h p.b p.s=some L->(segVals (getSeg h p.b p.s))[i]?=some v->(flat ((blkD h p.b).drop p.s))[i]?=some v:=fun h1 h2=>q00p h1 h2
 have vals:loadAgg.loadVals P t p h K=some r->∃ v,K v=some r∧LoadSem P t p h v:=by
  intro he
  unfold loadAgg.loadVals at he
  split at he
  ·rename_i vs hs
   obtain ⟨hb,hk⟩:=q008 he
   simp only [Bool.and_eq_true,Nat.ble_eq] at hb
   have hn:p.n=segLen (getSeg h p.b p.s):=by rw [hs];simpa [segLen] using hb.1
   refine ⟨_,hk,fun ro μ w a hp H=>?_⟩
   obtain ⟨L,_,_,_,h1,_,_⟩:=q00w hp hn
   refine key _ hn (by simp [flat,segVals,segValsOf];omega) (fun i v hi=>one h1 ?_) ro μ w a hp H
   rw [hs]
   simp only [flat,List.flatMap_cons,List.flatMap_nil,List.append_nil,segVals,segValsOf,List.getElem?_take,List.getElem?_drop] at hi ⊢
   split at hi
   ·exact hi
   ·cases hi
  ·cases he
 unfold loadAgg at he
 split at he
 ·rename_i k m hh
  split at he
  ·rename_i k' n f hs
   obtain ⟨hb,hk⟩:=q008 he
   simp only [Bool.and_eq_true,Nat.ble_eq] at hb
   have hn:p.n=segLen (getSeg h p.b p.s):=by rw [hs];simpa [segLen] using hb.1.2
   have hkk:=q00z hb.1.1
   subst hkk
   refine ⟨_,hk,fun ro μ w a hp H=>?_⟩
   obtain ⟨L,_,_,_,h1,_,_⟩:=q00w hp hn
   refine key _ hn (by simp [flat,segVals,segValsOf,q013 hh]) (fun i v hi=>one h1 ?_) ro μ w a hp H
   simp only [flat,List.flatMap_cons,List.flatMap_nil,List.append_nil] at hi
   have hlt:i<m:=by
    rcases Nat.lt_or_ge i (segVals (.ints k m (shiftF f p.o))).length with h | h
    ·simpa [segVals,segValsOf] using h
    ·rw [List.getElem?_eq_none h] at hi;cases hi
   rw [q00r hlt] at hi
   rw [hs,q00r (by omega),<- hi,q012]
  ·rename_i k' xs hs
   obtain ⟨hb,hk⟩:=q008 he
   simp only [Bool.and_eq_true,Nat.ble_eq] at hb
   have hn:p.n=segLen (getSeg h p.b p.s):=by rw [hs];simpa [segLen] using hb.1.2
   have hkk:=q00z hb.1.1
   subst hkk
   refine ⟨_,hk,fun ro μ w a hp H=>?_⟩
   obtain ⟨L,_,_,_,h1,_,_⟩:=q00w hp hn
   refine key _ hn (by simp [flat,segVals,segValsOf,q013 hh]) (fun i v hi=>one h1 ?_) ro μ w a hp H
   simp only [flat,List.flatMap_cons,List.flatMap_nil,List.append_nil] at hi
   have hlt:i<m:=by
    rcases Nat.lt_or_ge i (segVals (.ints k m fun j=>xs.getD (addO p.o j) 0)).length with h | h
    ·simpa [segVals,segValsOf] using h
    ·rw [List.getElem?_eq_none h] at hi;cases hi
   rw [q00r hlt] at hi
   rw [hs,q00t (by omega),<- hi,q010]
  ·cases he
 ·split at he
  ·rename_i ks xs hs
   obtain ⟨hb,hk⟩:=q008 he
   simp only [Bool.and_eq_true,Nat.ble_eq] at hb
   obtain ⟨b1,b2,b3,b4⟩:=hb
   have b2:=Nat.eq_of_beq_eq_true b2
   have b3:=Nat.eq_of_beq_eq_true b3
   have hn:p.n=segLen (getSeg h p.b p.s):=by rw [hs];simpa [segLen] using b1
   have hfl:flat [AV.vals (recCells ks xs p.o 0)]=recCells ks xs p.o 0:=by simp [flat,segValsOf]
   refine ⟨_,hk,fun ro μ w a hp H=>?_⟩
   obtain ⟨L,_,_,_,h1,_,_⟩:=q00w hp hn
   refine key _ hn (by rw [hfl,q01a];exact b2.symm) (fun i v hi=>one h1 ?_) ro μ w a hp H
   rw [hfl,q019] at hi
   cases hki:ks[i]? with
   | none=>rw [hki] at hi;simp at hi
   | some kk=>
    rw [hki] at hi
    simp only [Option.map_some,Option.some.injEq] at hi
    have hlt:=(List.getElem?_eq_some_iff.1 hki).1
    rw [hs]
    show (recVals ks xs)[p.o+i]?=_
    rw [q018 (by omega),<- hi,Nat.zero_add]
    have e1:(p.o+i)%ks.length=i:=by
     rw [Nat.add_mod,b3,Nat.zero_add,Nat.mod_mod,Nat.mod_eq_of_lt hlt]
    rw [e1,List.getD_eq_getElem?_getD,hki]
    rfl
  ·split at he
   ·rename_i ho
    split at he
    ·rename_i ss hss
     obtain ⟨hb,hk⟩:=q008 he
     have hb:=Nat.eq_of_beq_eq_true hb
     obtain ⟨h1,h2⟩:=q014 _ _ _ hss
     refine ⟨_,hk,key _ hb h1 fun i v hi=>?_⟩
     have hlt:i<P.cellsOf t:=by
      rcases Nat.lt_or_ge i (flat ss).length with h | h
      ·omega
      ·rw [List.getElem?_eq_none h] at hi;cases hi
     rw [ho,Nat.zero_add,<- h2 i hlt,hi]
    ·exact vals he
   ·exact vals he
def LoadSemR (P:Program)(t:TypeId)(p:Place)(c:Nat)(h:Heap)(v:AV):Prop:=
 ∀ (ro:Nat) (μ:LMap) (w:World) (a:Addr),VR h μ (.rptr p c) (.pointer (some a))->HR ro h μ w->∃ c',(loadVar t a).run P w=.ok c' w∧VR h μ v c'
theorem q01c {h:Heap}{μ:LMap}{p:Place}{c:Nat}{a:Addr}(hv:VR h μ (.rptr p c) (.pointer (some a)))(hn:p.n=segLen (getSeg h p.b p.s)):
  ∃ L k base room,segLenAt h p.b p.s=some L∧μ p.b=.at k base room∧a=⟨k,base+segOff h p.b p.s+p.o+c,none⟩:=by
 cases hv with
 | rptr _ _ _ L h1 h2 h3=>
  obtain ⟨ss,_,_,hL⟩:=q00m h1
  obtain ⟨k,base,room,h4,h5⟩:=h3 (by omega)
  exact ⟨L,k,base,room,h1,h4,h5⟩
theorem q01d {ks:List (Option IntKind)}{xs:List Int}{o c:Nat}(h1:c<ks.length)(h2:o%ks.length=0)(h3:o+ks.length<=xs.length):
  (recVals ks xs)[o+c]?=some (convC (ks.getD c none) (xs.getD (addO o c) 0)):=by
 have e1:(o+c)%ks.length=c:=by rw [Nat.add_mod,h2,Nat.zero_add,Nat.mod_mod,Nat.mod_eq_of_lt h1]
 rw [q018 (by omega),e1,q010]
theorem q01e {t:TypeId}{p:Place}{c:Nat}{h:Heap}{K:AV->Option α}(he:loadRec P t p c h K=some r):∃ v,K v=some r∧LoadSemR P t p c h v:=by
 unfold loadRec at he
 split at he
 ·cases he
 ·cases he
 ·rename_i d h1 h2 hu
  split at he
  ·rename_i ks xs hs
   obtain ⟨hb,hk⟩:=q008 he
   simp only [Bool.and_eq_true,Nat.ble_eq,Nat.blt_eq] at hb
   obtain ⟨b1,b2,b3,b4⟩:=hb
   have hn:p.n=segLen (getSeg h p.b p.s):=by rw [hs];simpa [segLen] using b1
   refine ⟨_,hk,fun ro μ w a hp H=>?_⟩
   obtain ⟨L,k,base,room,g1,g2,rfl⟩:=q01c hp hn
   have hv:(segVals (getSeg h p.b p.s))[p.o+c]?=some (convC (ks.getD c none) (xs.getD (addO p.o c) 0)):=by
    rw [hs];exact q01d b2 (Nat.eq_of_beq_eq_true b3) b4
   obtain ⟨c',h3,_,_,h4⟩:=H.row g1 g2 (q00p g1 hv)
   exact ⟨c',q00x hu (fun fs e=>h1 fs e) (fun n e' e=>h2 n e' e) (by rw [Nat.add_assoc _ p.o c];exact h3),h4⟩
  ·cases he
 ·cases he
end
end Go.AM
namespace Go.AM
theorem q01f {i j:Nat}(h:¬ i=j):Nat.beq i j=false:=by
 cases hq:Nat.beq i j with
 | true=>exact absurd (Nat.eq_of_beq_eq_true hq) h
 | false=>rfl
def fitB (κ:Key)(old x:Blk):Prop:=(κ.r=0∧isPool x=false)∨∃ r k xs ys,κ.r=r+1∧old=[.vec k xs]∧x=[.vec k ys]
theorem q01g (h:Heap)(κ:Key)(x:Blk):(setB h κ x).length=h.length:=by
 unfold setB
 split
 ·simp
 ·split
  ·simp
  ·rfl
theorem q01h {h:Heap}{κ:Key}{x:Blk}{b:Nat}(hb:b≠κ.b):(setB h κ x)[b]?=h[b]?:=by
 unfold setB
 split
 ·rw [List.getElem?_set,if_neg (Ne.symm hb)]
 ·split
  ·rw [List.getElem?_set,if_neg (Ne.symm hb)]
  ·rfl
theorem q01i {h:Heap}{κ:Key}{old x:Blk}(ho:blk? h κ=some old)(hf:fitB κ old x)(κ':Key):blk? (setB h κ x) κ'=if κ'=κ then some x else blk? h κ':=by
 have hlt:=q00j ⟨_,ho⟩
 by_cases hb:κ'.b=κ.b
 ·rcases q00i ho with ⟨h0,h1,h2⟩ | ⟨r,k,rows,xs,h0,h1,h2,h3⟩
  ·rcases hf with ⟨_,hx⟩ | ⟨r,_,_,_,e,_⟩
   ·have hs:(setB h κ x)[κ.b]?=some x:=by
     unfold setB
     rw [h0]
     simp only
     rw [List.getElem?_set,if_pos rfl,if_pos hlt]
    cases hr:κ'.r with
    | zero=>
     have:κ'=κ:=by cases κ;cases κ';simp only at hb hr h0;rw [hb,hr,h0]
     rw [if_pos this]
     unfold blk?
     rw [hr]
     simp only [hb,hs,hx,cond_false]
    | succ r=>
     rw [if_neg (by rintro rfl;omega)]
     have hno:∀ y:Blk,isPool y=false->poolOf y=none:=fun y hy=>by
      cases hq:poolOf y with
      | none=>rfl
      | some q=>rw [q00g.2 ⟨q.1,q.2,hq⟩] at hy;cases hy
     unfold blk?
     rw [hr]
     simp only [hs,hno x hx,hb,h1,hno old h2]
   ·omega
  ·subst h3
   rcases hf with ⟨e,_⟩ | ⟨r',k',xs',ys,e,e1,e2⟩
   ·omega
   ·have:r'=r:=by omega
    subst this
    simp only [List.cons.injEq,AV.vec.injEq,and_true] at e1
    obtain ⟨rfl,rfl⟩:=e1
    subst e2
    have hs:(setB h κ [.vec k ys])[κ.b]?=some [.pool k (rows.set r' ys)]:=by
     unfold setB
     have hd:h.getD κ.b []=[.pool k rows]:=by simp [List.getD_eq_getElem?_getD,h1]
     rw [h0,hd]
     simp only [poolOf]
     rw [List.getElem?_set,if_pos rfl,if_pos hlt]
    cases hr:κ'.r with
    | zero=>
     rw [if_neg (by rintro rfl;omega)]
     unfold blk?
     rw [hr]
     simp only [hs,hb,h1,isPool,cond_true]
    | succ q=>
     have hrl:=(List.getElem?_eq_some_iff.1 h2).1
     unfold blk?
     rw [hr]
     simp only [hs,hb,h1,poolOf,List.getElem?_set]
     by_cases hq:r'=q
     ·subst hq
      have:κ'=κ:=by cases κ;cases κ';simp only at hb hr h0;rw [hb,hr,h0]
      rw [if_pos rfl,if_pos hrl,if_pos this]
     ·rw [if_neg hq,if_neg (by rintro rfl;omega)]
 ·rw [if_neg (fun e=>hb (by rw [e]))]
  exact q00k rfl (q01h hb)
theorem q01j {h:Heap}{κ:Key}{old x:Blk}(ho:blk? h κ=some old)(hf:fitB κ old x)(κ':Key)(hx:κ'≠κ->has h κ'):blkD (setB h κ x) κ'=if κ'=κ then x else blkD h κ':=by
 have e1:=q01i ho hf κ'
 by_cases e:κ'=κ
 ·rw [if_pos e] at e1 ⊢
  exact q009 e1
 ·rw [if_neg e] at e1 ⊢
  exact q00a (hx e) e1
theorem q01k {h:Heap}{κ:Key}{old x:Blk}(ho:blk? h κ=some old)(hf:fitB κ old x){κ':Key}:has (setB h κ x) κ'↔has h κ':=by
 unfold has
 rw [q01i ho hf]
 by_cases e:κ'=κ
 ·rw [if_pos e,e];exact ⟨fun _=>⟨_,ho⟩,fun _=>⟨_,rfl⟩⟩
 ·rw [if_neg e]
theorem q01l {h:Heap}{b:Key}{ss ss':Blk}(hb:blk? h b=some ss)(hf:fitB b ss ss')(hl:ss'.map segLen=ss.map segLen)(x:Key)(s:Nat):segLenAt (setB h b ss') x s=segLenAt h x s:=by
 unfold segLenAt
 rw [q01i hb hf]
 by_cases e:x=b
 ·subst e
  rw [if_pos rfl,hb]
  simp only [Option.bind_some]
  rw [<- List.getElem?_map,<- List.getElem?_map,hl]
 ·rw [if_neg e]
theorem q01m {a b:List AV}(h:a.map segLen=b.map segLen):lenOf a=lenOf b:=by simp [lenOf,h]
theorem q01n {h:Heap}{b:Key}{ss ss':Blk}(hb:blk? h b=some ss)(hf:fitB b ss ss')(hl:ss'.map segLen=ss.map segLen)(x:Key)(s:Nat)(hx:has h x):segOff (setB h b ss') x s=segOff h x s:=by
 unfold segOff
 rw [q01j hb hf x fun _=>hx]
 by_cases e:x=b
 ·subst e
  rw [if_pos rfl,q009 hb]
  refine q01m ?_
  simp only [List.map_take,hl]
 ·rw [if_neg e]
theorem Le.set {h:Heap}{μ:LMap}{b:Key}{ss ss':Blk}(hb:blk? h b=some ss)(hf:fitB b ss ss')(hl:ss'.map segLen=ss.map segLen):Le h μ (setB h b ss') μ:=
 ⟨fun x s L hL=>⟨L,by rw [q01l hb hf hl];exact hL,Nat.le_refl _,fun _=>⟨q01n hb hf hl x s (by obtain ⟨ss,h1,_⟩:=q00m hL;exact ⟨ss,h1⟩),fun _=>rfl⟩⟩⟩
theorem q01o (b:Nat):∀ (vs:List Value) (o:Nat) (w:World) (k:Nat),k≠b->(w.setCells b o vs).heap[k]?=w.heap[k]?
 | [],_,_,_,_=>rfl
 | v::r,o,w,k,h=>by
  rw [World.setCells,q01o b r _ _ k h]
  simp only [World.setCell,Array.getElem?_modify]
  rw [if_neg (Ne.symm h)]
theorem q01p (b:Nat):∀ (vs:List Value) (o:Nat) (w:World),(w.setCells b o vs).heap.size=w.heap.size
 | [],_,_=>rfl
 | v::r,o,w=>by rw [World.setCells,q01p b r];simp
theorem q01q (b:Nat):∀ (vs:List Value) (o:Nat) (w:World),(w.setCells b o vs).os=w.os∧(w.setCells b o vs).tape=w.tape∧(w.setCells b o vs).output=w.output
 | [],_,_=>⟨rfl,rfl,rfl⟩
 | v::r,o,w=>by
  obtain ⟨h1,h2,h3⟩:=q01q b r (o+1) (w.setCell ⟨b,o,none⟩ v)
  exact ⟨h1,h2,h3⟩
theorem q01r {w w':World}{a:Addr}(h:w'.heap[a.block]?=w.heap[a.block]?):w'.cell? a=w.cell? a:=by simp only [World.cell?,h]
theorem q01s {w w':World}{a:Addr}(h:w'.heap[a.block]?=w.heap[a.block]?):w'.frozen? a=w.frozen? a:=by simp only [World.frozen?,h]
theorem HR.write {ro:Nat}{h:Heap}{μ:LMap}{w:World}(H:HR ro h μ w){b:Key}{k base room:Nat}{ss ss':Blk}(hb:blk? h b=some ss)(hfit:fitB b ss ss')(hro:ro<=b.b)(hm:μ b=.at k base room)
  (hl:ss'.map segLen=ss.map segLen) {o:Nat} {us:List AV} {cs:List Value} (hlen:us.length=cs.length) (hin:o+us.length<=(flat ss).length)
  (hus:∀ i,i<us.length->∃ u c,us[i]?=some u∧cs[i]?=some c∧c.oneCell'=true∧VR h μ u c)
  (hf:∀ i,(flat ss')[i]?=if o<=i∧i<o+us.length then us[i-o]? else (flat ss)[i]?):
  HR ro (setB h b ss') μ (w.setCells k (base+o) cs)∧Ext ro h μ w (setB h b ss') μ (w.setCells k (base+o) cs):=by
 have hle:=Le.set (μ:=μ) hb hfit hl
 have hset:=q01i hb hfit
 have hflen:(flat ss').length=(flat ss).length:=by rw [q002,q002,q01m hl]
 obtain ⟨hk,hr,hx,hc⟩:=H.at_ b ss k base room hb hm
 obtain ⟨r1,r2,r3⟩:=q01q k cs (base+o) w
 have hsome:∀ j,j<cs.length->(w.cell? ⟨k,base+o+j,none⟩).isSome=true:=by
  intro j hj
  obtain ⟨⟨c,e⟩,_⟩:=hx (o+j) (by omega)
  rw [Nat.add_assoc,e]
  rfl
 constructor
 ·refine ⟨fun x sx hx1 hx2=>?_,fun x sx kx bx rx hx1 hx2=>?_,fun x x' kx bx rx bx' rx' h1 h2 h3 h4 h5=>?_,fun x sx hx1 i v hv=>?_,by rw [q01g];exact H.rol⟩
  ·rw [hset] at hx1
   by_cases e:x=b
   ·subst e
    rw [hm] at hx2
    cases hx2
   ·rw [if_neg e] at hx1
    exact H.nil_ x sx hx1 hx2
  ·rw [hset] at hx1
   by_cases e:x=b
   ·subst e
    rw [if_pos rfl] at hx1
    cases hx1
    rw [hm] at hx2
    cases hx2
    refine ⟨by rw [q01p];exact hk,by rw [hflen];exact hr,fun i hi=>?_,fun i v hv=>?_⟩
    ·refine ⟨?_,by rw [World.frozen?_setCells];exact (hx i hi).2⟩
     by_cases hio:o<=i∧i<o+cs.length
     ·obtain ⟨j,rfl⟩:=Nat.exists_eq_add_of_le hio.1
      have:=World.cell?_setCells_in k cs (base+o) w hsome j (by omega)
      exact ⟨_,by rw [<- Nat.add_assoc];exact this⟩
     ·rw [World.cell?_setCells_out k cs (base+o) w _ (fun _ _=>by simp;omega)]
      exact (hx i hi).1
    ·rw [hf] at hv
     by_cases hio:o<=i∧i<o+us.length
     ·rw [if_pos hio] at hv
      obtain ⟨j,rfl⟩:=Nat.exists_eq_add_of_le hio.1
      rw [Nat.add_sub_cancel_left] at hv
      obtain ⟨u,c,h1,h2,h3,h4⟩:=hus j (by omega)
      rw [hv] at h1
      cases h1
      have h5:=World.cell?_setCells_in k cs (base+o) w hsome j (by omega)
      have h6:cs[j]'(by omega)=c:=by
       have:=(List.getElem?_eq_some_iff.1 h2).2
       exact this
      refine ⟨c,by rw [<- Nat.add_assoc,h5,h6],h3,h4.mono hle⟩
     ·rw [if_neg hio] at hv
      obtain ⟨c,h1,h2,h3⟩:=hc i v hv
      refine ⟨c,?_,h2,h3.mono hle⟩
      rw [World.cell?_setCells_out k cs (base+o) w _ (fun _ _=>by simp;omega)]
      exact h1
   ·rw [if_neg e] at hx1
    obtain ⟨q1,q2,q3,q4⟩:=H.at_ x sx kx bx rx hx1 hx2
    have hne:kx≠k:=fun e2=>by
     subst e2
     exact H.inj b x kx base room bx rx hro ⟨_,hb⟩ ⟨_,hx1⟩ (Ne.symm e) hm hx2
    have hh:=q01o k cs (base+o) w kx hne
    refine ⟨by rw [q01p];exact q1,q2,fun i hi=>?_,fun i v hv=>?_⟩
    ·rw [q01r (a:=⟨kx,bx+i,none⟩) hh,q01s (a:=⟨kx,bx+i,none⟩) hh]
     exact q3 i hi
    ·obtain ⟨c,h1,h2,h3⟩:=q4 i v hv
     exact ⟨c,by rw [q01r (a:=⟨kx,bx+i,none⟩) hh];exact h1,h2,h3.mono hle⟩
  ·rw [q01k hb hfit] at h2 h3
   exact H.inj x x' kx bx rx bx' rx' h1 h2 h3 h4 h5
  ·rw [hset] at hx1
   by_cases e:x=b
   ·subst e
    rw [if_pos rfl] at hx1
    cases hx1
    rw [hf] at hv
    by_cases hio:o<=i∧i<o+us.length
    ·rw [if_pos hio] at hv
     obtain ⟨u,c,h1,_,_,h4⟩:=hus (i-o) (by omega)
     rw [hv] at h1
     cases h1
     exact hle.inScope h4.inScope
    ·rw [if_neg hio] at hv
     exact hle.inScope (H.scope _ ss hb i v hv)
   ·rw [if_neg e] at hx1
    exact hle.inScope (H.scope x sx hx1 i v hv)
 ·refine ⟨hle,r1,r2,r3,by rw [q01p];exact Nat.le_refl _,by rw [q01g];exact Nat.le_refl _,fun x hx1 hx2=>?_,fun x hx1 hx2=>⟨?_,fun _=>rfl⟩,fun x kx bx rx hx1 hx2=>?_,fun a=>World.frozen?_setCells ..⟩
  ·exact q01o k cs (base+o) w x fun e=>hx2 b base room hro ⟨_,hb⟩ (by rw [e];exact hm)
  ·exact q01h (by omega)
  ·rw [q01k hb hfit] at hx1
   exact .inl ⟨x,bx,rx,hx1,hx2,.inr rfl⟩
section
variable {α:Type} {P:Program} {r:α}
def StoreSem (P:Program)(ro:Nat)(t:TypeId)(p:Place)(v:AV)(h h':Heap):Prop:=
 ∀ (μ:LMap) (w:World) (a:Addr) (c:Value),VR h μ (.ptr p) (.pointer (some a))->VR h μ v c->HR ro h μ w ->
  ∃ w',(storeVar t a c).run P w=.ok () w'∧HR ro h' μ w'∧Ext ro h μ w h' μ w'
theorem q01t {t:TypeId}{w:World}{k o:Nat}{c:Value}{cs:List Value}(hcs:c.cells.toList=cs)(hn:cs.length=P.cellsOf t)(h0:0<P.cellsOf t)
  (hc:∀ j,j<cs.length->(w.cell? ⟨k,o+j,none⟩).isSome=true) (hf:∀ j,j<cs.length->w.frozen? ⟨k,o+j,none⟩=false) (h1:∀ v∈cs,v.oneCell'=true):
  (storeVar t ⟨k,o,none⟩ c).run P w=.ok () (w.setCells k o cs):=by
 have hi:∃ i,P.info? t=some i:=by
  cases h:P.info? t with
  | none=>simp [Program.cellsOf,h] at h0
  | some i=>exact ⟨i,rfl⟩
 obtain ⟨i,hi⟩:=hi
 have hs:(sizeOf t).run P w=.ok (P.cellsOf t) w:=by simp [sizeOf,typeInfo,hi,Program.cellsOf]
 have hsz:c.cells.size=P.cellsOf t:=by rw [<- hn,<- hcs];simp
 have:=run_storeCells_cells (P:=P) k o cs 0 w (by simpa using hc) (by simpa using hf) h1
 simp only [Nat.add_zero] at this
 simp [storeVar,Sem.run_bind,hs,hsz,hcs,this]
theorem q01u {ss:List AV}{s:Nat}{seg seg':AV}(hs:ss[s]?=some seg)(hl:segLen seg'=segLen seg)(i:Nat):
  (flat (ss.set s seg'))[i]?=if lenOf (ss.take s)<=i∧i<lenOf (ss.take s)+segLen seg then (segVals seg')[i-lenOf (ss.take s)]? else (flat ss)[i]?:=by
 obtain ⟨hlt,he⟩:=List.getElem?_eq_some_iff.1 hs
 have e1:flat ss=flat (ss.take s)++(segVals seg++flat (ss.drop (s+1))):=by
  rw [<- q004,<- q00o hs,<- q003,List.take_append_drop]
 have e2:flat (ss.set s seg')=flat (ss.take s)++(segVals seg'++flat (ss.drop (s+1))):=by
  rw [<- q004,<- q003,List.set_eq_take_append_cons_drop,if_pos hlt]
 rw [e1,e2]
 have h1:(flat (ss.take s)).length=lenOf (ss.take s):=q002 _
 have h2:(segVals seg).length=segLen seg:=q001 _
 have h3:(segVals seg').length=segLen seg:=by rw [q001,hl]
 by_cases ha:lenOf (ss.take s)<=i
 ·rw [List.getElem?_append_right (by omega),h1]
  by_cases hb:i<lenOf (ss.take s)+segLen seg
  ·rw [if_pos ⟨ha,hb⟩,List.getElem?_append_left (by omega)]
  ·rw [if_neg (by omega),List.getElem?_append_right (by omega),List.getElem?_append_right (by omega),List.getElem?_append_right (by omega),h1,h2,h3]
 ·rw [if_neg (by omega),List.getElem?_append_left (by omega),List.getElem?_append_left (by omega)]
def shapeS (s:AV):Nat×Nat:=(segLen s,segK s)
theorem q01v {new old:Blk}(h:new.map shapeS=old.map shapeS):new.map segLen=old.map segLen:=by
 have:=congrArg (List.map Prod.fst) h
 simpa [List.map_map,Function.comp_def,shapeS] using this
theorem q01w {ss:List AV}{s:Nat}{seg seg':AV}(hs:ss[s]?=some seg)(hl:segLen seg'=segLen seg)(hr:segK seg'=segK seg):(ss.set s seg').map shapeS=ss.map shapeS:=by
 rw [List.map_set,show shapeS seg'=shapeS seg from by unfold shapeS;rw [hl,hr]]
 have:(ss.map shapeS)[s]?=some (shapeS seg):=by rw [List.getElem?_map,hs];rfl
 obtain ⟨h1,h2⟩:=List.getElem?_eq_some_iff.1 this
 rw [<- h2]
 exact List.set_getElem_self h1
theorem q01x {a b:AV}(h:sameRec a b=true):segK b=segK a:=(Nat.eq_of_beq_eq_true h).symm
theorem q01y {s:AV}(h:segK s=4):∃ k rows,s=.pool k rows:=by cases s<;>first | exact ⟨_,_,rfl⟩ | simp [segK] at h
theorem q01z {new old:Blk}(h:new.map shapeS=old.map shapeS)(ho:isPool old=false):isPool new=false:=by
 cases hn:isPool new with
 | false=>rfl
 | true=>
  unfold isPool at hn
  split at hn
  ·rename_i k rows
   cases old with
   | nil=>simp at h
   | cons s rest=>
    simp only [List.map_cons,List.map_nil,List.cons.injEq] at h
    obtain ⟨h1,h2⟩:=h
    have h2:rest=[]:=by simpa using h2.symm
    subst h2
    obtain ⟨k',rows',rfl⟩:=q01y (s:=s) (congrArg Prod.snd h1).symm
    cases ho
  ·cases hn
structure FlatPut (h h':Heap) (p:Place) (us:List AV) (old new:Blk):Prop where
 at_:blk? h p.b=some old
 seg:p.s<old.length
 eq:h'=setB h p.b new
 row:p.b.r=0∨∀ k xs,old=[.vec k xs]->∃ ys,new=[.vec k ys]
 shape:new.map shapeS=old.map shapeS
 fit:lenOf (old.take p.s)+p.o+us.length<=(flat old).length
 get:∀ i,(flat new)[i]?=if lenOf (old.take p.s)+p.o<=i∧i<lenOf (old.take p.s)+p.o+us.length then us[i-(lenOf (old.take p.s)+p.o)]? else (flat old)[i]?
theorem FlatPut.lens {h h':Heap}{p:Place}{us:List AV}{old new:Blk}(q:FlatPut h h' p us old new):new.map segLen=old.map segLen:=q01v q.shape
theorem FlatPut.fits {h h':Heap}{p:Place}{us:List AV}{old new:Blk}(q:FlatPut h h' p us old new):fitB p.b old new:=by
 rcases q00i q.at_ with ⟨h0,_,h2⟩ | ⟨r,k,rows,xs,h0,_,_,rfl⟩
 ·exact .inl ⟨h0,q01z q.shape h2⟩
 ·rcases q.row with e | hr
  ·omega
  ·obtain ⟨ys,e⟩:=hr k xs rfl
   exact .inr ⟨r,k,xs,ys,h0,rfl,e⟩
theorem q020 {h:Heap}{b:Key}{s:Nat}{v:AV}(hs:getSeg h b s=v)(hv:v≠.undef)(hx:has h b):∃ ss,blk? h b=some ss∧ss[s]?=some v∧blkD h b=ss:=by
 unfold getSeg at hs
 cases hb:blk? h b with
 | none=>obtain ⟨_,hx⟩:=hx;rw [hb] at hx;cases hx
 | some ss=>
  rw [q009 hb] at hs
  cases hq:ss[s]? with
  | none=>exact absurd (by rw [<- hs];simp [List.getD_eq_getElem?_getD,hq]) hv
  | some x=>
   refine ⟨ss,rfl,?_,q009 hb⟩
   rw [hq,<- hs]
   simp [List.getD_eq_getElem?_getD,hq]
theorem q021 {h:Heap}{p:Place}{seg seg':AV}(hs:getSeg h p.b p.s=seg)(hne:seg≠.undef)(hx:has h p.b)(hl:segLen seg'=segLen seg){us:List AV}(hin:p.o+us.length<=segLen seg)
  (hf:∀ i,(segVals seg')[i]?=if p.o<=i∧i<p.o+us.length then us[i-p.o]? else (segVals seg)[i]?) (hr:segK seg'=segK seg:=by rfl) (hv:∀ k xs,seg=.vec k xs->∃ ys,seg'=.vec k ys:=by intro k xs e;cases e<;>exact ⟨_,rfl⟩):
  ∃ old new,FlatPut h (setSeg h p.b p.s seg') p us old new:=by
 obtain ⟨ss,hb,hq,hd⟩:=q020 hs hne hx
 have hsl:=q01u hq hl
 have e1:lenOf (ss.take p.s)+segLen seg<=(flat ss).length:=by
  have e1:flat ss=flat (ss.take p.s)++(segVals seg++flat (ss.drop (p.s+1))):=by
   rw [<- q004,<- q00o hq,<- q003,List.take_append_drop]
  rw [e1]
  simp [q002,q001]
 refine ⟨ss,ss.set p.s seg',hb,(List.getElem?_eq_some_iff.1 hq).1,by rw [setSeg,hd],.inr fun k xs e=>?_,q01w hq hl hr,by omega,fun i=>?_⟩
 ·subst e
  have h0:p.s=0:=by have:=(List.getElem?_eq_some_iff.1 hq).1;simp at this;exact this
  rw [h0] at hq ⊢
  simp only [List.getElem?_cons_zero,Option.some.injEq] at hq
  obtain ⟨ys,e⟩:=hv k xs hq.symm
  exact ⟨ys,by rw [e];rfl⟩
 rw [hsl]
 by_cases ha:lenOf (ss.take p.s)<=i∧i<lenOf (ss.take p.s)+segLen seg
 ·rw [if_pos ha,hf]
  by_cases hb2:lenOf (ss.take p.s)+p.o<=i∧i<lenOf (ss.take p.s)+p.o+us.length
  ·rw [if_pos (by omega),if_pos hb2]
   congr 1
   omega
  ·rw [if_neg (by omega),if_neg hb2]
   have:=q00l ss p.s (i-lenOf (ss.take p.s))
   rw [show lenOf (ss.take p.s)+(i-lenOf (ss.take p.s))=i by omega,q00o hq,q004,List.getElem?_append_left (by rw [q001];omega)] at this
   exact this.symm
 ·rw [if_neg ha,if_neg (by omega)]
theorem VR.one {h:Heap}{μ:LMap}{v:AV}{c:Value}(hv:VR h μ v c)(h1:isOne v=true):c.oneCell'=true:=by
 cases hv<;>first | rfl | simp [isOne] at h1
theorem q022 {c:Value}(h:c.oneCell'=true):c.cells.toList=[c]:=by cases c<;>first | rfl | simp [Value.oneCell'] at h
theorem q023:∀ (ss l r:List AV),replaceSegs l ss=some r->r.map shapeS=l.map shapeS∧lenOf ss<=lenOf l ∧
  ∀ i,(flat r)[i]?=if i<lenOf ss then (flat ss)[i]? else (flat l)[i]?
 | [],l,r,h=>by
  cases l<;>simp [replaceSegs] at h<;>subst h<;>exact ⟨rfl,by simp [lenOf],fun i=>by simp [lenOf]⟩
 | s'::ss,[],r,h=>by simp [replaceSegs] at h
 | s'::ss,s::l,r,h=>by
  simp only [replaceSegs] at h
  cases hc:(Nat.beq (segLen s) (segLen s')&&(Nat.blt 0 (segLen s)&&sameRec s s')) with
  | false=>simp [hc] at h
  | true=>
   simp only [hc,cond_true] at h
   simp only [Bool.and_eq_true,Nat.blt_eq] at hc
   have he:=Nat.eq_of_beq_eq_true hc.1
   cases hr:replaceSegs l ss with
   | none=>simp [hr] at h
   | some r'=>
    simp only [hr,Option.some.injEq] at h
    subst h
    obtain ⟨h1,h2,h3⟩:=q023 ss l r' hr
    refine ⟨by simp [h1,shapeS,he,q01x hc.2.2],by simp [lenOf] at h2 ⊢;omega,fun i=>?_⟩
    rw [q004,q004,q004]
    have g1:=q001 s'
    have g2:=q001 s
    have g3:lenOf (s'::ss)=segLen s'+lenOf ss:=by simp [lenOf]
    by_cases hi:i<segLen s'
    ·rw [List.getElem?_append_left (by omega),if_pos (by omega),List.getElem?_append_left (by omega)]
    ·rw [List.getElem?_append_right (by omega),List.getElem?_append_right (by omega),List.getElem?_append_right (by omega),h3,g1,g2,he]
     by_cases hi2:i-segLen s'<lenOf ss
     ·rw [if_pos hi2,if_pos (by omega)]
     ·rw [if_neg hi2,if_neg (by omega)]
theorem VR.agg_cells {h:Heap}{μ:LMap}{ss:List AV}{c:Value}(hv:VR h μ (.agg ss) c):∃ cs:Array Value,c=.agg cs∧(flat ss).length=cs.size∧∀ i,VR h μ ((flat ss).getD i .undef) (cs.getD i Go.undef):=by
 cases hv with
 | agg _ cs h1 h2=>exact ⟨cs,rfl,h1,h2⟩
theorem q024 {β:Type}{f:β->Bool}:∀ {l:List β},allB f l=true->∀ x∈l,f x=true
 | [],_,x,hx=>by cases hx
 | y::l,h,x,hx=>by
  simp only [allB] at h
  cases hy:f y with
  | false=>simp [hy] at h
  | true=>
   simp only [hy,cond_true] at h
   cases hx with
   | head=>exact hy
   | tail _ hx=>exact q024 h x hx
theorem q025 {ss:List AV}(h:onesB ss=true){i:Nat}{v:AV}(hv:(flat ss)[i]?=some v):isOne v=true:=by
 have hm:=List.mem_of_getElem? hv
 simp only [flat,List.mem_flatMap] at hm
 obtain ⟨s,hs,hvs⟩:=hm
 have:=q024 h s hs
 cases s<;>simp only [segVals,segValsOf,List.mem_map,List.mem_range] at hvs
 case ints=>obtain ⟨_,_,rfl⟩:=hvs;rfl
 case vec=>obtain ⟨_,_,rfl⟩:=hvs;rfl
 case bools=>obtain ⟨_,_,rfl⟩:=hvs;rfl
 case vals vs=>exact q024 this v hvs
 case recs ks xs=>
  simp only [recVals,List.mem_map,List.mem_range] at hvs
  obtain ⟨i,_,rfl⟩:=hvs
  cases ks.getD (i%ks.length) none<;>rfl
 case hdr=>obtain ⟨_,_,rfl⟩:=hvs;rfl
 case strs=>obtain ⟨_,_,rfl⟩:=hvs;rfl
 all_goals cases hvs
def cellsOfAV:AV->List AV
 | .agg ss=>flat ss
 | v=>[v]
theorem q026 (v:AV):flat [v]=segVals v:=by simp [flat]
def Puts (ro:Nat)(p:Place)(v:AV)(h h':Heap):Prop:=
 ro<=p.b.b∧p.n=segLen (getSeg h p.b p.s)∧(∀ (i:Nat) (u:AV),(cellsOfAV v)[i]?=some u->isOne u=true)∧∃ old new,FlatPut h h' p (cellsOfAV v) old new
theorem q027 {ro:Nat}{p:Place}{v:AV}{h:Heap}{K:Heap->Option α}(hv:∀ ss,v≠.agg ss)(he:storeCell ro p v h K=some r):
  ∃ h',K h'=some r∧Puts ro p v h h':=by
 have hcv:cellsOfAV v=[v]:=by cases v<;>first | rfl | exact absurd rfl (hv _)
 have key:∀ seg seg',ro<=p.b.b->getSeg h p.b p.s=seg->seg≠.undef->p.n=segLen seg->isOne v=true->segLen seg'=segLen seg->p.o<segLen seg ->
   (∀ i,(segVals seg')[i]?=if i=p.o then some v else (segVals seg)[i]?)->segK seg'=segK seg->(∀ k xs,seg=.vec k xs->∃ ys,seg'=.vec k ys)->Puts ro p v h (setSeg h p.b p.s seg'):=by
  intro seg seg' hro hs hne hn h1 hl hin hf hr hv
  refine ⟨hro,by rw [hs];exact hn,fun i u hu=>?_,q021 hs hne (q00d (s:=p.s) (by rw [hs];omega)) hl (by rw [hcv];simp;omega) (fun i=>?_) hr hv⟩
  ·rw [hcv] at hu
   cases i with
   | zero=>simp at hu;rw [<- hu];exact h1
   | succ i=>simp at hu
  ·rw [hcv,hf]
   by_cases e:i=p.o
   ·subst e;simp
   ·rw [if_neg e,if_neg (by simp;omega)]
 unfold storeCell at he
 obtain ⟨hro,he⟩:=q008 he
 have hro:=Nat.le_of_ble_eq_true hro
 split at he
 ·rename_i k n f hs
  split at he
  ·rename_i k' x
   obtain ⟨hb,hk⟩:=q008 he
   simp only [Bool.and_eq_true,Nat.blt_eq] at hb
   have hn:=Nat.eq_of_beq_eq_true hb.1.2
   have hkk:=q00z hb.1.1
   subst hkk
   refine ⟨_,hk,key _ _ hro hs (by simp) hn rfl rfl hb.2 (fun i=>?_) rfl (by intro k xs e;cases e<;>exact ⟨_,rfl⟩)⟩
   by_cases hi:i<n
   ·rw [q00r hi,q00r hi]
    by_cases e:i=p.o
    ·rw [if_pos e];simp [upd,e]
    ·rw [if_neg e]
     simp only [upd]
     rw [q01f e]
     rfl
   ·rw [if_neg (by omega),List.getElem?_eq_none (by simp [segVals,segValsOf];omega),List.getElem?_eq_none (by simp [segVals,segValsOf];omega)]
  ·cases he
 ·rename_i k xs hs
  split at he
  ·rename_i k' x
   obtain ⟨hb,hk⟩:=q008 he
   simp only [Bool.and_eq_true,Nat.blt_eq] at hb
   have hn:=Nat.eq_of_beq_eq_true hb.1.2
   have hkk:=q00z hb.1.1
   subst hkk
   refine ⟨_,hk,key _ _ hro hs (by simp) hn rfl (by simp [segLen]) hb.2 (fun i=>?_) rfl (by intro k xs e;cases e<;>exact ⟨_,rfl⟩)⟩
   simp only [segVals,segValsOf,List.getElem?_map,List.getElem?_set]
   by_cases e:p.o=i
   ·subst e
    rw [if_pos rfl,if_pos hb.2,if_pos rfl]
    rfl
   ·rw [if_neg e,if_neg (Ne.symm e)]
  ·cases he
 ·rename_i n f hs
  split at he
  ·rename_i x
   obtain ⟨hb,hk⟩:=q008 he
   simp only [Bool.and_eq_true,Nat.blt_eq] at hb
   have hn:=Nat.eq_of_beq_eq_true hb.1
   refine ⟨_,hk,key _ _ hro hs (by simp) hn rfl rfl hb.2 (fun i=>?_) rfl (by intro k xs e;cases e<;>exact ⟨_,rfl⟩)⟩
   by_cases hi:i<n
   ·rw [q00s hi,q00s hi]
    by_cases e:i=p.o
    ·rw [if_pos e];simp [upd,e]
    ·rw [if_neg e]
     simp only [upd]
     rw [q01f e]
     rfl
   ·rw [if_neg (by omega),List.getElem?_eq_none (by simp [segVals,segValsOf];omega),List.getElem?_eq_none (by simp [segVals,segValsOf];omega)]
  ·cases he
 ·rename_i vs hs
  obtain ⟨hb,hk⟩:=q008 he
  simp only [Bool.and_eq_true,Nat.blt_eq] at hb
  have hn:=Nat.eq_of_beq_eq_true hb.1.2
  refine ⟨_,hk,key _ _ hro hs (by simp) hn hb.1.1 (by simp [segLen]) hb.2 (fun i=>?_) rfl (by intro k xs e;cases e<;>exact ⟨_,rfl⟩)⟩
  simp only [segVals,segValsOf,List.getElem?_set]
  by_cases e:p.o=i
  ·subst e
   rw [if_pos rfl,if_pos hb.2,if_pos rfl]
  ·rw [if_neg e,if_neg (Ne.symm e)]
 ·rename_i pb ids hs
  split at he
  ·rename_i q len cap es ex _
   split at he
   ·rename_i r1 hr
    obtain ⟨hb,hk⟩:=q008 he
    simp only [Bool.and_eq_true,Nat.blt_eq,Bool.not_eq_true'] at hb
    obtain ⟨b0,⟨b1,b2⟩,b3,b4,b5,b6,b7,b8⟩:=hb
    have hn:=Nat.eq_of_beq_eq_true b1
    have e3:=Nat.eq_of_beq_eq_true b3
    have e4:=Nat.eq_of_beq_eq_true b4
    have e5:=Nat.eq_of_beq_eq_true b5
    have e6:=Nat.eq_of_beq_eq_true b6
    have e7:=Nat.eq_of_beq_eq_true b7
    have e8:=Nat.eq_of_beq_eq_true b8
    have hcell:idCell pb (r1,len)=.slice q len cap es ex:=by
     obtain ⟨⟨qb,qr⟩,qs,qo,qn⟩:=q
     simp only at e3 e4 e5 e6 hr
     subst e3 e4 e5 e6 e7 e8 hr b0
     rfl
    refine ⟨_,hk,key _ _ hro hs (by simp) hn rfl (by simp [segLen]) b2 (fun i=>?_) rfl (by intro k xs e;cases e<;>exact ⟨_,rfl⟩)⟩
    simp only [segVals,segValsOf,List.getElem?_map,List.getElem?_set]
    by_cases e:p.o=i
    ·subst e
     rw [if_pos rfl,if_pos b2,if_pos rfl,<- hcell]
     rfl
    ·rw [if_neg e,if_neg (Ne.symm e)]
   ·cases he
  ·cases he
 ·rename_i xs hs
  split at he
  ·rename_i x
   obtain ⟨hb,hk⟩:=q008 he
   simp only [Bool.and_eq_true,Nat.blt_eq] at hb
   have hn:=Nat.eq_of_beq_eq_true hb.1
   refine ⟨_,hk,key _ _ hro hs (by simp) hn rfl (by simp [segLen]) hb.2 (fun i=>?_) rfl (by intro k xs e;cases e<;>exact ⟨_,rfl⟩)⟩
   simp only [segVals,segValsOf,List.getElem?_map,List.getElem?_set]
   by_cases e:p.o=i
   ·subst e
    rw [if_pos rfl,if_pos hb.2,if_pos rfl]
    rfl
   ·rw [if_neg e,if_neg (Ne.symm e)]
  ·cases he
 ·cases he
theorem q028 {β:Type}{f g:Nat->β}{o m n i:Nat}(h:o+m<=n)(hi:i<n):chooseF (Nat.beq m n) g (spliceF f o m g) i=spliceF f o m g i:=by
 unfold chooseF
 cases hb:Nat.beq m n with
 | false=>rfl
 | true=>
  have:=Nat.eq_of_beq_eq_true hb
  have ho:o=0:=by omega
  subst ho
  simp only [cond_true,spliceF,Nat.zero_add,Nat.sub_zero]
  rw [show (Nat.ble 0 i&&Nat.blt i m)=true from by simp only [Bool.and_eq_true,Nat.ble_eq,Nat.blt_eq];omega]
  rfl
theorem q029 {ro:Nat}{p:Place}{ss:List AV}{h:Heap}{K:Heap->Option α}(h0:0<lenOf ss)(he:storeAgg ro p ss h K=some r):
  ∃ h',K h'=some r∧Puts ro p (.agg ss) h h':=by
 unfold storeAgg at he
 obtain ⟨hro,he⟩:=q008 he
 simp only [Bool.and_eq_true,Nat.ble_eq] at hro
 obtain ⟨hro,h1⟩:=hro
 have hone:∀ (i:Nat) (u:AV),(cellsOfAV (.agg ss))[i]?=some u->isOne u=true:=fun i u hu=>q025 h1 hu
 have hl2:=q002 ss
 split at he
 ·rename_i k n f k' m g hs _
  obtain ⟨hb,hk⟩:=q008 he
  simp only [Bool.and_eq_true,Nat.ble_eq] at hb
  have hn:=Nat.eq_of_beq_eq_true hb.1.2
  have hkk:=q00z hb.1.1
  subst hkk
  refine ⟨_,hk,hro,by rw [hs];exact hn,hone,?_⟩
  rw [show ∀ v,cellsOfAV (.agg [v])=segVals v from fun v=>q026 v]
  refine q021 (seg':=.ints k n (chooseF (Nat.beq m n) g (spliceF f p.o m g))) (us:=segVals (.ints k m g)) hs (by simp) (q00d (s:=p.s) (by rw [hs];simp [lenOf,segLen] at h0 ⊢;omega)) rfl (by rw [q001];exact hb.2) fun i=>?_
  rw [q001,show segLen (AV.ints k m g)=m from rfl]
  by_cases hi:i<n
  ·rw [q00r hi,q00r hi,q028 hb.2 hi]
   by_cases e:p.o<=i∧i<p.o+m
   ·rw [if_pos e,q00r (by omega)]
    simp only [spliceF]
    rw [show (Nat.ble p.o i&&Nat.blt i (p.o+m))=true from by simp only [Bool.and_eq_true,Nat.ble_eq,Nat.blt_eq];exact e]
    rfl
   ·rw [if_neg e]
    simp only [spliceF]
    rw [show (Nat.ble p.o i&&Nat.blt i (p.o+m))=false from by
     rw [<- Bool.not_eq_true];simp only [Bool.and_eq_true,Nat.ble_eq,Nat.blt_eq];exact e]
    rfl
  ·rw [if_neg (by omega),List.getElem?_eq_none (by simp [segVals,segValsOf];omega),List.getElem?_eq_none (by simp [segVals,segValsOf];omega)]
 ·rename_i ss _ _ hne _
  split at he
  ·rename_i rs ho hrs
   obtain ⟨hb,hk⟩:=q008 he
   simp only [Bool.and_eq_true] at hb
   have hr0:=Nat.eq_of_beq_eq_true hb.1
   have hn:=Nat.eq_of_beq_eq_true hb.2
   obtain ⟨q1,q2,q3⟩:=q023 _ _ _ hrs
   have hex:∃ old,blk? h p.b=some old∧blkD h p.b=old∧p.s<old.length:=by
    cases hq:blk? h p.b with
    | none=>rw [q00c hr0 hq] at q2;simp [lenOf] at q2;simp [lenOf] at h0;omega
    | some old=>
     have hd:blkD h p.b=old:=q009 hq
     refine ⟨old,rfl,hd,?_⟩
     rcases Nat.lt_or_ge p.s old.length with h | h
     ·exact h
     ·rw [hd,List.drop_eq_nil_of_le h] at q2
      simp [lenOf] at q2 h0
      omega
   obtain ⟨old,hb,hd,hlt⟩:=hex
   rw [hd] at q1 q2 q3 hk
   have e:flat old=flat (old.take p.s)++flat (old.drop p.s):=by rw [<- q003,List.take_append_drop]
   have g3:=q002 (old.take p.s)
   have g4:=q002 (old.drop p.s)
   refine ⟨_,hk,hro,hn,hone,old,_,hb,hlt,rfl,.inl hr0,?_,?_,fun i=>?_⟩
   ·rw [List.map_append,q1,<- List.map_append,List.take_append_drop]
   ·rw [e,List.length_append,ho]
    simp only [cellsOfAV]
    omega
   ·rw [show cellsOfAV (.agg ss)=flat ss from rfl,q003,e,ho]
    by_cases hi:i<lenOf (old.take p.s)
    ·rw [List.getElem?_append_left (by omega),if_neg (by omega),List.getElem?_append_left (by omega)]
    ·rw [List.getElem?_append_right (by omega),q3,g3,hl2]
     by_cases hi2:i-lenOf (old.take p.s)<lenOf ss
     ·rw [if_pos hi2,if_pos (by omega)]
      rfl
     ·rw [if_neg hi2,if_neg (by omega),List.getElem?_append_right (by omega),g3]
  ·split at he
   ·rename_i k xs k' m g hs _ _
    obtain ⟨hb,hk⟩:=q008 he
    simp only [Bool.and_eq_true,Nat.ble_eq] at hb
    have hn:=Nat.eq_of_beq_eq_true hb.1.2
    have hkk:=q00z hb.1.1
    subst hkk
    refine ⟨_,hk,hro,by rw [hs];exact hn,hone,?_⟩
    rw [show ∀ v,cellsOfAV (.agg [v])=segVals v from fun v=>q026 v]
    refine q021 (us:=segVals (.ints k m g)) hs (by simp) (q00d (s:=p.s) (by rw [hs];simp [lenOf,segLen] at h0 ⊢;omega)) (by simp [segLen];omega) (by rw [q001];exact hb.2) fun i=>?_
    rw [q001,show segLen (AV.ints k m g)=m from rfl]
    simp only [segVals,segValsOf,List.map_append,List.map_take,List.map_drop,List.map_map]
    by_cases e1:i<p.o
    ·rw [if_neg (by omega),List.getElem?_append_left (by simp;omega),List.getElem?_take,if_pos e1]
    ·rw [List.getElem?_append_right (by simp;omega)]
     by_cases e2:i<p.o+m
     ·rw [if_pos (by omega),List.getElem?_append_left (by simp;omega)]
      simp only [List.length_take,List.length_map,List.getElem?_map,Nat.min_eq_left (by omega:p.o<=xs.length)]
      rfl
     ·rw [if_neg (by omega),List.getElem?_append_right (by simp;omega),List.getElem?_drop]
      simp only [List.length_take,List.length_map,List.length_range,Nat.min_eq_left (by omega:p.o<=xs.length)]
      congr 1
      omega
   ·rename_i vs us hs _ _
    obtain ⟨hb,hk⟩:=q008 he
    simp only [Bool.and_eq_true,Nat.ble_eq] at hb
    have hn:=Nat.eq_of_beq_eq_true hb.1
    refine ⟨_,hk,hro,by rw [hs];exact hn,hone,?_⟩
    rw [show ∀ v,cellsOfAV (.agg [v])=segVals v from fun v=>q026 v]
    refine q021 (us:=segVals (.vals us)) hs (by simp) (q00d (s:=p.s) (by rw [hs];simp [lenOf,segLen] at h0 ⊢;omega)) (by simp [segLen];omega) (by rw [q001];exact hb.2) fun i=>?_
    rw [q001,show segLen (AV.vals us)=us.length from rfl]
    simp only [segVals,segValsOf]
    by_cases e1:i<p.o
    ·rw [if_neg (by omega),List.getElem?_append_left (by simp;omega),List.getElem?_take,if_pos e1]
    ·rw [List.getElem?_append_right (by simp;omega)]
     by_cases e2:i<p.o+us.length
     ·rw [if_pos (by omega),List.getElem?_append_left (by simp;omega)]
      simp only [List.length_take,Nat.min_eq_left (by omega:p.o<=vs.length)]
     ·rw [if_neg (by omega),List.getElem?_append_right (by simp;omega),List.getElem?_drop]
      simp only [List.length_take,Nat.min_eq_left (by omega:p.o<=vs.length)]
      congr 1
      omega
   ·cases he
theorem q02a {β:Type}{ys xs:List β}{o:Nat}(h:o+ys.length<=xs.length):chooseL (Nat.beq ys.length xs.length) ys (xs.take o++(ys++xs.drop (o+ys.length)))=xs.take o++(ys++xs.drop (o+ys.length)):=by
 unfold chooseL
 cases hb:Nat.beq ys.length xs.length with
 | false=>rfl
 | true=>
  have:=Nat.eq_of_beq_eq_true hb
  have ho:o=0:=by omega
  subst ho
  simp [this]
theorem q02b {k:Option IntKind}{v:AV}{n:Int}(h:unconv k v=some n):convC k n=v∧isOne v=true:=by
 unfold unconv at h
 split at h
 ·rename_i k k' m
  cases hk:keq k k' with
  | false=>simp [hk] at h
  | true=>
   simp only [hk,cond_true,Option.some.injEq] at h
   subst h
   rw [q00z hk]
   exact ⟨rfl,rfl⟩
 ·rename_i b
  simp only [Option.some.injEq] at h
  subst h
  cases b<;>exact ⟨rfl,rfl⟩
 ·cases h
theorem q02c:∀ {ks:List (Option IntKind)} {vs:List AV} {ys:List Int},toRec ks vs=some ys->ys.length=ks.length∧vs.length=ks.length ∧
  ∀ (i:Nat),i<ks.length->vs[i]?=some (convC (ks.getD i none) (ys.getD i 0))∧∀ u,vs[i]?=some u->isOne u=true
 | [],[],ys,h=>by
  simp only [toRec,Option.some.injEq] at h
  subst h
  exact ⟨rfl,rfl,fun i hi=>by simp at hi⟩
 | [],_::_,ys,h=>by simp [toRec] at h
 | _::_,[],ys,h=>by simp [toRec] at h
 | k::ks,v::vs,ys,h=>by
  simp only [toRec] at h
  split at h
  ·rename_i n r h1 h2
   simp only [Option.some.injEq] at h
   subst h
   obtain ⟨g1,g2,g3⟩:=q02c h2
   obtain ⟨e1,e2⟩:=q02b h1
   refine ⟨by simp [g1],by simp [g2],fun i hi=>?_⟩
   cases i with
   | zero=>exact ⟨by simp [e1],fun u hu=>by simp at hu;rw [<- hu];exact e2⟩
   | succ i=>simpa using g3 i (by simpa using hi)
  ·cases h
theorem q02d {ks:List (Option IntKind)}{xs ys:List Int}{us:List AV}{o:Nat}(ho:o%ks.length=0)(hfit:o+ys.length<=xs.length)(hlen:us.length=ys.length)
  (hus:∀ i,i<ys.length->us[i]?=some (convC (ks.getD (i%ks.length) none) (ys.getD i 0))) (i:Nat):
  (recVals ks (xs.take o++(ys++xs.drop (o+ys.length))))[i]?=if o<=i∧i<o+us.length then us[i-o]? else (recVals ks xs)[i]?:=by
 have hl:(xs.take o++(ys++xs.drop (o+ys.length))).length=xs.length:=by simp;omega
 by_cases hi:i<xs.length
 ·rw [q018 (by omega)]
  by_cases hr:o<=i∧i<o+us.length
  ·rw [if_pos hr,hus (i-o) (by omega)]
   obtain ⟨j,rfl⟩:=Nat.exists_eq_add_of_le hr.1
   rw [Nat.add_sub_cancel_left]
   have e1:(o+j)%ks.length=j%ks.length:=by rw [Nat.add_mod,ho,Nat.zero_add,Nat.mod_mod]
   have e2:(xs.take o++(ys++xs.drop (o+ys.length))).getD (o+j) 0=ys.getD j 0:=by
    rw [List.getD_eq_getElem?_getD,List.getD_eq_getElem?_getD,List.getElem?_append_right (by simp;omega),List.getElem?_append_left (by simp;omega)]
    simp only [List.length_take,Nat.min_eq_left (show o<=xs.length by omega),Nat.add_sub_cancel_left]
   rw [e1,e2]
  ·rw [if_neg hr,q018 hi]
   congr 2
   rw [List.getD_eq_getElem?_getD,List.getD_eq_getElem?_getD]
   by_cases e1:i<o
   ·rw [List.getElem?_append_left (by simp;omega),List.getElem?_take,if_pos e1]
   ·rw [List.getElem?_append_right (by simp;omega),List.getElem?_append_right (by simp;omega),List.getElem?_drop]
    simp only [List.length_take,Nat.min_eq_left (show o<=xs.length by omega)]
    congr 2
    omega
 ·rw [if_neg (by omega),List.getElem?_eq_none (by simp [recVals];omega),List.getElem?_eq_none (by simp [recVals];omega)]
theorem q02e {ro:Nat}{p:Place}{ss:List AV}{h:Heap}{K:Heap->Option α}(h0:0<lenOf ss)(he:storeRow ro p ss h K=some r):
  ∃ h',K h'=some r∧Puts ro p (.agg ss) h h':=by
 unfold storeRow at he
 split at he
 ·rename_i ks xs hs
  obtain ⟨hro,he⟩:=q008 he
  have hro:=Nat.le_of_ble_eq_true hro
  split at he
  ·rename_i ys hys
   obtain ⟨hb,hk⟩:=q008 he
   simp only [Bool.and_eq_true,Nat.ble_eq] at hb
   obtain ⟨b1,b2,b3⟩:=hb
   obtain ⟨g1,g2,g3⟩:=q02c hys
   have hfl:cellsOfAV (.agg ss)=ss.flatMap segValsOf:=rfl
   rw [q02a b3] at hk
   refine ⟨_,hk,hro,by rw [hs];exact Nat.eq_of_beq_eq_true b1,fun i u hu=>?_,?_⟩
   ·rw [hfl] at hu
    exact (g3 i (by rw [<- g2];exact (List.getElem?_eq_some_iff.1 hu).1)).2 u hu
   ·rw [hfl]
    refine q021 (us:=ss.flatMap segValsOf) hs (by simp) (q00d (s:=p.s) (by rw [hs];have hfl2:(ss.flatMap segValsOf).length=lenOf ss:=q002 ss;simp only [segLen];omega)) (by simp [segLen];omega) (by simp only [segLen];omega) fun i=>?_
    exact q02d (Nat.eq_of_beq_eq_true b2) b3 (by omega) (fun i hi=>by rw [Nat.mod_eq_of_lt (by omega)];exact (g3 i (by omega)).1) i
  ·cases he
 ·exact q029 h0 he
theorem q02f {ro:Nat}{p:Place}{v:AV}{h:Heap}{K:Heap->Option α}(h0:0<cellsIn v)(he:storeAt ro p v h K=some r):
  ∃ h',K h'=some r∧Puts ro p v h h':=by
 unfold storeAt at he
 split at he
 ·exact q02e h0 he
 ·rename_i hne
  exact q027 (fun ss e=>hne ss e) he
theorem VR.cells {h:Heap}{μ:LMap}{v:AV}{c:Value}(hv:VR h μ v c)(h1:∀ (i:Nat) (u:AV),(cellsOfAV v)[i]?=some u->isOne u=true):
  (cellsOfAV v).length=c.cells.toList.length∧∀ i,i<(cellsOfAV v).length->∃ u d,(cellsOfAV v)[i]?=some u∧c.cells.toList[i]?=some d∧d.oneCell'=true∧VR h μ u d:=by
 by_cases ha:∃ ss,v=.agg ss
 ·obtain ⟨ss,rfl⟩:=ha
  obtain ⟨cs,rfl,hlen,hvs⟩:=hv.agg_cells
  refine ⟨by simpa [cellsOfAV,Value.cells] using hlen,fun i hi=>?_⟩
  simp only [cellsOfAV,Value.cells] at hi h1 ⊢
  have e1:(flat ss)[i]?=some (flat ss)[i]:=List.getElem?_eq_getElem hi
  have hc:i<cs.size:=by omega
  have e3:=hvs i
  rw [show (flat ss).getD i .undef=(flat ss)[i] by simp [List.getD_eq_getElem?_getD,hi],show cs.getD i Go.undef=cs[i] by simp [Array.getD,hc]] at e3
  exact ⟨_,cs[i],e1,by simp [hc],e3.one (h1 i _ e1),e3⟩
 ·have hcv:cellsOfAV v=[v]:=by cases v<;>first | rfl | exact absurd ⟨_,rfl⟩ ha
  rw [hcv] at h1 ⊢
  have hone:=hv.one (h1 0 v rfl)
  rw [q022 hone]
  refine ⟨rfl,fun i hi=>?_⟩
  have:i=0:=by simpa using hi
  subst this
  exact ⟨v,c,rfl,rfl,hone,hv⟩
theorem q02g {ro:Nat}{t:TypeId}{p:Place}{v:AV}{h h':Heap}(hsz:P.cellsOf t=cellsIn v)(h0:0<P.cellsOf t)(hp:Puts ro p v h h'):StoreSem P ro t p v h h':=by
 obtain ⟨hro,hn,h1,old,new,hp⟩:=hp
 intro μ w a c hpa hv H
 obtain ⟨L,k,base,room,g1,g2,rfl⟩:=q00w hpa hn
 obtain ⟨hlen,hus⟩:=hv.cells h1
 have hcl:(cellsOfAV v).length=cellsIn v:=by
  cases v<;>first | rfl | exact q002 _
 obtain ⟨_,hr,hx,_⟩:=H.at_ p.b old k base room hp.at_ g2
 have hfit:=hp.fit
 rw [q00n (s:=p.s) hp.at_,Nat.add_assoc]
 obtain ⟨r1,r2⟩:=H.write hp.at_ hp.fits hro g2 hp.lens hlen hp.fit hus hp.get
 refine ⟨_,q01t rfl (by omega) h0 (fun j hj=>?_) (fun j hj=>?_) (fun x hx=>?_),hp.eq▸r1,hp.eq▸r2⟩
 ·obtain ⟨⟨d,hd⟩,_⟩:=hx (lenOf (old.take p.s)+p.o+j) (by omega)
  rw [Nat.add_assoc,hd]
  rfl
 ·obtain ⟨_,hd⟩:=hx (lenOf (old.take p.s)+p.o+j) (by omega)
  rw [Nat.add_assoc,hd]
 ·obtain ⟨i,hi,rfl⟩:=List.mem_iff_getElem.1 hx
  obtain ⟨u,d,_,q2,q3,_⟩:=hus i (by omega)
  rw [List.getElem?_eq_getElem hi] at q2
  cases q2
  exact q3
theorem q02h {ro:Nat}{t:TypeId}{p:Place}{v:AV}{h:Heap}{K:Heap->Option α}(hsz:P.cellsOf t=cellsIn v)(h0:0<P.cellsOf t)(he:storeAt ro p v h K=some r):
  ∃ h',K h'=some r∧StoreSem P ro t p v h h':=by
 obtain ⟨h',hk,hp⟩:=q02f (by omega) he
 exact ⟨h',hk,q02g hsz h0 hp⟩
theorem VR.rptr_ptr {h:Heap}{μ:LMap}{p:Place}{c:Nat}{v:Value}(hv:VR h μ (.rptr p c) v):VR h μ (.ptr { p with o:=p.o+c }) v:=by
 cases hv with
 | rptr _ _ a L h1 h2 h3=>
  refine .ptr _ a L h1 h2 fun e=>?_
  obtain ⟨k,base,room,h4,h5⟩:=h3 e
  exact ⟨k,base,room,h4,by rw [h5,Nat.add_assoc _ p.o c]⟩
theorem q02i {ro:Nat}{p:Place}{c:Nat}{v:AV}{h:Heap}{K:Heap->Option α}(he:storeRec ro p c v h K=some r):
  ∃ h',K h'=some r∧cellsIn v=1∧Puts ro { p with o:=p.o+c } v h h':=by
 unfold storeRec at he
 obtain ⟨hro,he⟩:=q008 he
 have hro:=Nat.le_of_ble_eq_true hro
 split at he
 ·rename_i ks xs hs
  split at he
  ·rename_i n hn
   obtain ⟨hb,hk⟩:=q008 he
   simp only [Bool.and_eq_true,Nat.ble_eq,Nat.blt_eq] at hb
   obtain ⟨b1,b2,b3,b4⟩:=hb
   have b3:=Nat.eq_of_beq_eq_true b3
   obtain ⟨e1,e2⟩:=q02b hn
   have hcv:cellsOfAV v=[v]:=by cases v<;>first | rfl | simp [isOne] at e2
   have hci:cellsIn v=1:=by cases v<;>first | rfl | simp [isOne] at e2
   refine ⟨_,hk,hci,⟨hro,by rw [show ({ p with o:=p.o+c }:Place).b=p.b from rfl,show ({ p with o:=p.o+c }:Place).s=p.s from rfl,hs];exact Nat.eq_of_beq_eq_true b1,fun i u hu=>?_,?_⟩⟩
   ·rw [hcv] at hu
    cases i with
    | zero=>simp at hu;rw [<- hu];exact e2
    | succ i=>simp at hu
   ·rw [hcv]
    refine q021 (p:={ p with o:=p.o+c }) (us:=[v]) hs (by simp) (q00d (h:=h) (b:=p.b) (s:=p.s) (by rw [hs];simp only [segLen];omega)) (by simp [segLen]) (by simp only [segLen,List.length_singleton];omega) fun i=>?_
    simp only [segValsOf,List.length_singleton]
    by_cases hi:i<xs.length
    ·rw [q018 (by simpa using hi)]
     by_cases hr:i=p.o+c
     ·subst hr
      have e3:(p.o+c)%ks.length=c:=by rw [Nat.add_mod,b3,Nat.zero_add,Nat.mod_mod,Nat.mod_eq_of_lt b2]
      rw [if_pos (by omega),Nat.sub_self,e3,q010]
      have e5:(xs.set (p.o+c) n).getD (p.o+c) 0=n:=by rw [List.getD_eq_getElem?_getD,List.getElem?_set,if_pos rfl,if_pos hi];rfl
      rw [e5,e1]
      rfl
     ·have e5:(xs.set (p.o+c) n).getD i 0=xs.getD i 0:=by rw [List.getD_eq_getElem?_getD,List.getElem?_set,if_neg (by omega),List.getD_eq_getElem?_getD]
      rw [if_neg (by omega),q018 hi,q010,e5]
    ·rw [if_neg (by omega),List.getElem?_eq_none (by simp [recVals];omega),List.getElem?_eq_none (by simp [recVals];omega)]
  ·cases he
 ·cases he
theorem q02j {ro:Nat}{t:TypeId}{p:Place}{c:Nat}{v:AV}{h:Heap}{K:Heap->Option α}(hsz:P.cellsOf t=1)(he:storeRec ro p c v h K=some r):
  ∃ h',K h'=some r∧StoreSem P ro t { p with o:=p.o+c } v h h':=by
 obtain ⟨h',hk,hci,hp⟩:=q02i he
 exact ⟨h',hk,q02g (by omega) (by omega) hp⟩
end
end Go.AM
namespace Go.AM
theorem q02k (k:IntKind)(x:Int):fits k x=true↔kmin k<=x∧x<=kmax k:=by
 cases x with
 | ofNat n=>cases k<;>simp only [fits,kmax,kmin,Nat.ble_eq,Int.ofNat_eq_natCast]<;>omega
 | negSucc n=>cases k<;>simp [fits,kmax,kmin,signed,Nat.ble_eq]<;>omega
theorem q02l {k:IntKind}{x:Int}(h:fits k x=true):k.wrap x=x:=by
 rw [q02k] at h
 cases k<;>simp [IntKind.wrap,IntKind.bits,IntKind.signed,kmin,kmax] at h ⊢<;>omega
theorem q02m (k:IntKind)(x:Int):fits k (k.wrap x)=true:=by
 rw [q02k]
 cases k<;>simp [IntKind.wrap,IntKind.bits,IntKind.signed,kmin,kmax]<;>omega
theorem q02n {k:IntKind}(hs:signed k=false)(x:Int):k.wrap x=wrapU k x:=by
 cases k<;>simp [signed] at hs<;>simp [IntKind.wrap,IntKind.bits,IntKind.signed,wrapU,kmod]
theorem q02o {k k':IntKind}{x:Int}(h:wider k k'=true)(hx:fits k x=true):fits k' x=true:=by
 rw [q02k] at *
 simp only [wider,Bool.and_eq_true,decide_eq_true_eq] at h
 omega
theorem q02p (k:IntKind):kbits k=k.bits:=by cases k<;>rfl
theorem q02q (k:IntKind)(a b:Int)(op:BinOp):fits k (bitI op k a b)=true:=by
 rw [q000]
 unfold bitJ
 split<;>exact q02m _ _
section
variable {α:Type} {P:Program} {r:α}
theorem q02r {k:IntKind}{x:Int}{K:AV->Option α}(h:toKind k x K=some r):K (.int k (k.wrap x))=some r∧fits k (k.wrap x)=true:=by
 refine ⟨?_,q02m _ _⟩
 cases k<;>simp only [toKind] at h
 case i8=>obtain ⟨h1,h2⟩:=q008 h;rw [q02l h1];exact h2
 case i16=>obtain ⟨h1,h2⟩:=q008 h;rw [q02l h1];exact h2
 case i32=>obtain ⟨h1,h2⟩:=q008 h;rw [q02l h1];exact h2
 case i64=>obtain ⟨h1,h2⟩:=q008 h;rw [q02l h1];exact h2
 all_goals rw [q02n rfl];exact h
theorem q02s (a b:Int):(0<=a->0<=a.tmod b∧a.tmod b<=a)∧(a<0->a<=a.tmod b∧a.tmod b<=0):=by
 cases a with
 | ofNat m=>
  refine ⟨fun _=>?_,fun h=>by simp at h;omega⟩
  cases b with
  | ofNat n=>
   have e:(Int.ofNat m).tmod (Int.ofNat n)=Int.ofNat (m%n):=rfl
   have:=Nat.mod_le m n
   rw [e]
   generalize m%n=q at *
   simp only [Int.ofNat_eq_natCast]
   omega
  | negSucc n=>
   have e:(Int.ofNat m).tmod (Int.negSucc n)=Int.ofNat (m%(n+1)):=rfl
   have:=Nat.mod_le m (n+1)
   rw [e]
   generalize m%(n+1)=q at *
   simp only [Int.ofNat_eq_natCast]
   omega
 | negSucc m=>
  refine ⟨fun h=>by have:=Int.negSucc_lt_zero m;omega,fun _=>?_⟩
  cases b with
  | ofNat n=>
   have e:(Int.negSucc m).tmod (Int.ofNat n)=-Int.ofNat ((m+1)%n):=rfl
   have:=Nat.mod_le (m+1) n
   rw [e]
   generalize (m+1)%n=q at *
   simp only [Int.ofNat_eq_natCast]
   omega
  | negSucc n=>
   have e:(Int.negSucc m).tmod (Int.negSucc n)=-Int.ofNat ((m+1)%(n+1)):=rfl
   have:=Nat.mod_le (m+1) (n+1)
   rw [e]
   generalize (m+1)%(n+1)=q at *
   simp only [Int.ofNat_eq_natCast]
   omega
theorem q02t {k:IntKind}{a b:Int}(h:fits k a=true):fits k (a.tmod b)=true:=by
 rw [q02k] at *
 have h1:=q02s a b
 have h2:kmin k<=0:=by cases k<;>decide
 have h3:0<=kmax k:=by cases k<;>decide
 by_cases ha:0<=a
 ·have:=h1.1 ha;omega
 ·have:=h1.2 (by omega);omega
theorem q02u {k:IntKind}{a b:Int}(h:fits k a=true):fits k (shrI a b)=true:=by
 rw [q02k] at *
 have h2:kmin k<=0:=by cases k<;>decide
 have h3:0<=kmax k:=by cases k<;>decide
 unfold shrI
 have hp:(1:Int)<=2 ^ b.toNat:=by
  have:=Nat.one_le_two_pow (n:=b.toNat)
  exact_mod_cast this
 rw [Int.fdiv_eq_ediv_of_nonneg _ (by omega)]
 by_cases ha:0<=a
 ·have q1:=Int.ediv_nonneg ha (by omega:(0:Int)<=2 ^ b.toNat)
  have q2:=Int.ediv_le_self (2 ^ b.toNat) ha
  omega
 ·have q1:a / 2 ^ b.toNat<0:=Int.ediv_neg_of_neg_of_pos (by omega) (by omega)
  have q2:a<=a / 2 ^ b.toNat:=by
   rw [Int.le_ediv_iff_mul_le (by omega)]
   have:=Int.mul_le_mul_of_nonpos_left (by omega:a<=0) hp
   simpa using this
  omega
theorem q02v {op : BinOp} {x y : AV} {K : AV -> Option α} (he : goBin op x y K = some r):
    ∃ v, K v = some r ∧ ∀ (h : Heap) (μ : LMap) (t : TypeId) (xo yo : Operand) (c d : Value) (w : World), VR h μ x c -> VR h μ y d ->
      ∃ e, (do eqGuard op t xo yo c d; binOp op t c d : Sem Value).run P w = .ok e w ∧ VR h μ v e := by
  unfold goBin at he
  split at he
  case h_3 => cases he
  case h_2=>
    rename_i a b
    have finS : ∀ (e : Value) (v : AV), (∀ (h : Heap) (μ : LMap), VR h μ v e) -> (∀ (t : TypeId) (w : World), (binOp op t (.string ⟨a.toArray⟩) (.string ⟨b.toArray⟩)).run P w = .ok e w) ->
        ∀ (h : Heap) (μ : LMap) (t : TypeId) (xo yo : Operand) (c d : Value) (w : World), VR h μ (.str a) c -> VR h μ (.str b) d ->
        ∃ e, (do eqGuard op t xo yo c d; binOp op t c d : Sem Value).run P w = .ok e w ∧ VR h μ v e := by
      intro e v hv hrun h μ t xo yo c d w hc hd
      cases hc; cases hd
      refine ⟨e, ?_, hv h μ⟩
      have : (eqGuard op t xo yo (.string ⟨a.toArray⟩) (.string ⟨b.toArray⟩)).run P w = .ok () w := by
        unfold eqGuard
        split <;> rfl
      simp [Sem.run_bind, this, hrun]
    have hl : ∀ l : List UInt8, (ByteArray.mk l.toArray).toList = l := fun l => by rw [ByteArray.toList_eq]
    cases op <;> simp only [reduceCtorEq] at he
    case add=>
      obtain ⟨hb, h0⟩ := q008 he
      simp only [Nat.ble_eq] at hb
      refine ⟨_, h0, finS (.string ⟨(a ++ b).toArray⟩) _ (fun h μ => .str _) fun t w => ?_⟩
      have e1 : (ByteArray.mk a.toArray).size = a.length := by simp [ByteArray.size]
      have e2 : (ByteArray.mk b.toArray).size = b.length := by simp [ByteArray.size]
      have e3 : (ByteArray.mk a.toArray ++ ByteArray.mk b.toArray) = ByteArray.mk (a ++ b).toArray := by
        apply ByteArray.ext
        simp [ByteArray.data_append]
      simp only [binOp, Op.stringOp, e1, e2, e3]
      have e4 : IntKind.i64.max = 9223372036854775807 := by decide
      rw [e4, if_neg (by omega)]
      rfl
    case eql=>
      refine ⟨_, he, finS (.bool (a == b)) _ (fun h μ => .bool _) fun t w => ?_⟩
      simp only [binOp, Op.stringOp, hl]
      rfl
    case neq=>
      refine ⟨_, he, finS (.bool (a != b)) _ (fun h μ => .bool _) fun t w => ?_⟩
      simp only [binOp, Op.stringOp, hl]
      rfl
  rename_i k a k' b
  have fin : ∀ (n : Int) (kk : IntKind) (v : AV), (fits k a = true -> fits k' b = true -> fits kk n = true) -> v = .int kk n -> (∀ (t : TypeId) (w : World), (binOp op t (.int k a) (.int k' b)).run P w = .ok (.int kk n) w) ->
      ∀ (h : Heap) (μ : LMap) (t : TypeId) (xo yo : Operand) (c d : Value) (w : World), VR h μ (.int k a) c -> VR h μ (.int k' b) d ->
      ∃ e, (do eqGuard op t xo yo c d; binOp op t c d : Sem Value).run P w = .ok e w ∧ VR h μ v e := by
    intro n kk v hf hv hrun h μ t xo yo c d w hc hd
    cases hc with | int _ _ q1=>
    cases hd with | int _ _ q2=>
    refine ⟨_, ?_, by rw [hv]; exact .int _ _ (hf q1 q2)⟩
    have : (eqGuard op t xo yo (.int k a) (.int k' b)).run P w = .ok () w := by
      unfold eqGuard
      split <;> rfl
    simp [Sem.run_bind, this, hrun]
  have finB : ∀ (q : Bool) (v : AV), v = .bool q -> (∀ (t : TypeId) (w : World), (binOp op t (.int k a) (.int k' b)).run P w = .ok (.bool q) w) ->
      ∀ (h : Heap) (μ : LMap) (t : TypeId) (xo yo : Operand) (c d : Value) (w : World), VR h μ (.int k a) c -> VR h μ (.int k' b) d ->
      ∃ e, (do eqGuard op t xo yo c d; binOp op t c d : Sem Value).run P w = .ok e w ∧ VR h μ v e := by
    intro q v hv hrun h μ t xo yo c d w hc hd
    cases hc; cases hd
    refine ⟨_, ?_, by rw [hv]; exact .bool _⟩
    have : (eqGuard op t xo yo (.int k a) (.int k' b)).run P w = .ok () w := by
      unfold eqGuard
      split <;> rfl
    simp [Sem.run_bind, this, hrun]
  cases op <;> simp only at he
  case shl=>
    obtain ⟨hb, h0⟩ := q008 he
    simp only [Bool.and_eq_true, decide_eq_true_eq] at hb
    obtain ⟨h1, h2⟩ := q02r h0
    refine ⟨_, h1, fin _ _ _ (fun _ _ => h2) rfl fun t w => ?_⟩
    have hm : min b.toNat k.bits = b.toNat := by rw [<- q02p]; omega
    simp [binOp, Op.shift, hm, shlI, Int.not_lt.2 hb.1]
  case shr=>
    obtain ⟨hb, h0⟩ := q008 he
    simp only [Bool.and_eq_true, decide_eq_true_eq] at hb
    refine ⟨_, h0, fin _ _ _ (fun q _ => q02u q) rfl fun t w => ?_⟩
    have hm : min b.toNat k.bits = b.toNat := by rw [<- q02p]; omega
    simp [binOp, Op.shift, hm, shrI, Int.not_lt.2 hb.1]
  case add=>
    obtain ⟨hb, h0⟩ := q008 he
    have hkk := q00z hb; subst hkk
    obtain ⟨h1, h2⟩ := q02r h0
    exact ⟨_, h1, fin _ _ _ (fun _ _ => h2) rfl fun t w => by simp [binOp, Op.intArith]⟩
  case sub=>
    obtain ⟨hb, h0⟩ := q008 he
    have hkk := q00z hb; subst hkk
    obtain ⟨h1, h2⟩ := q02r h0
    exact ⟨_, h1, fin _ _ _ (fun _ _ => h2) rfl fun t w => by simp [binOp, Op.intArith]⟩
  case mul=>
    obtain ⟨hb, h0⟩ := q008 he
    have hkk := q00z hb; subst hkk
    obtain ⟨h1, h2⟩ := q02r h0
    exact ⟨_, h1, fin _ _ _ (fun _ _ => h2) rfl fun t w => by simp [binOp, Op.intArith]⟩
  case quo=>
    obtain ⟨hb, h0⟩ := q008 he
    have hkk := q00z hb; subst hkk
    obtain ⟨hc, h3⟩ := q008 h0
    obtain ⟨h1, h2⟩ := q02r h3
    have hb0 : ¬ b = 0 := by simpa using hc
    exact ⟨_, h1, fin _ _ _ (fun _ _ => h2) rfl fun t w => by simp [binOp, Op.intDiv, hb0]⟩
  case rem=>
    obtain ⟨hb, h0⟩ := q008 he
    have hkk := q00z hb; subst hkk
    obtain ⟨hc, h3⟩ := q008 h0
    have hb0 : ¬ b = 0 := by simpa using hc
    exact ⟨_, h3, fin _ _ _ (fun q _ => q02t q) rfl fun t w => by simp [binOp, Op.intDiv, hb0]⟩
  all_goals first
    | (obtain ⟨hb, h0⟩ := q008 he
       have hkk := q00z hb; subst hkk
       exact ⟨_, h0, fin _ _ _ (fun _ _ => q02q _ _ _ _) rfl fun t w => by simp [binOp, Op.intBits, q000, bitJ]⟩)
    | (obtain ⟨hb, h0⟩ := q008 he
       have hkk := q00z hb; subst hkk
       exact ⟨_, h0, finB _ _ rfl fun t w => by simp [binOp, Op.intCmp]⟩)
theorem q02w {op:UnOp}{x:AV}{K:AV->Option α}(he:goUn op x K=some r):
  ∃ v,K v=some r∧∀ (h:Heap) (μ:LMap) (c:Value) (w:World),VR h μ x c->∃ e,(Op.unary op c).run P w=.ok e w∧VR h μ v e:=by
 unfold goUn at he
 split at he
 ·exact ⟨_,he,fun h μ c w hc=>by cases hc;exact ⟨_,rfl,.bool _⟩⟩
 ·rename_i k n
  obtain ⟨h1,h2⟩:=q02r he
  refine ⟨_,h1,fun h μ c w hc=>?_⟩
  cases hc
  exact ⟨_,by simp [Op.unary,Op.intArith];rfl,by simpa using VR.int k _ h2⟩
 ·cases he
theorem q02x {src dst:TypeId}{x:AV}{K:AV->Option α}(he:goConvert P src dst x K=some r):
  ∃ v,K v=some r∧∀ (h:Heap) (μ:LMap) (c:Value) (w:World),VR h μ x c->∃ e,(convert src dst c).run P w=.ok e w∧VR h μ v e:=by
 unfold goConvert at he
 split at he
 ·rename_i d k' k n hs hd
  have hrun:∀ w,(convert src dst (.int k n)).run P w=.ok (.int k' (k'.wrap n)) w:=fun w=>by
   simp only [convert,Sem.run_bind,run_underlying hs,run_underlying hd,Result.andThen_ok]
   cases d<;>rfl
  rcases q007 he with ⟨hb,h0⟩ | ⟨_,h0⟩
  ·refine ⟨_,h0,fun h μ c w hc=>?_⟩
   cases hc with | int _ _ q=>
   have:=q02o hb q
   exact ⟨_,hrun w,by rw [q02l this];exact .int _ _ this⟩
  ·obtain ⟨h1,h2⟩:=q02r h0
   refine ⟨_,h1,fun h μ c w hc=>?_⟩
   cases hc
   exact ⟨_,hrun w,.int _ _ h2⟩
 ·rename_i s hs hd
  refine ⟨_,he,fun h μ c w hc=>?_⟩
  cases hc
  exact ⟨_,by simp only [convert,Sem.run_bind,run_underlying hs,run_underlying hd,Result.andThen_ok];rfl,.str _⟩
 ·cases he
end
end Go.AM
namespace Go.AM
section
variable {P:Program}
def subV (s:Int->Int)(q:Bool):Value->Value
 | .int k n=>.int k (s n)
 | .bool _=>.bool q
 | v=>v
def subL (s:Int->Int)(q:Bool):Lit->Lit
 | .int k n=>.int k (s n)
 | .bool _=>.bool q
 | l=>l
def IntsFor (s:Int->Int)(cs:List Value):Prop:=∀ v,v∈cs->(∃ k n,v=.int k n∧(Lit.int k (s n)).wf=true)∨∃ b,v=.bool b
theorem q02y {β:Type}{γ δ:Type}(f:β->Option γ)(f':β->Option δ)(g:γ->δ):∀ l:List β,(∀ x,x∈l->∀ y,f x=some y->f' x=some (g y))->∀ ys,l.mapM f=some ys->l.mapM f'=some (ys.map g):=by
 intro l
 induction l with
 | nil=>intro _ ys h;simp at h;subst h;rfl
 | cons x l ih=>
  intro hx ys h
  rw [List.mapM_cons] at h
  simp only [Option.bind_eq_bind,Option.bind_eq_some_iff,Option.pure_def,Option.some.injEq] at h
  obtain ⟨y,h1,zs,h2,rfl⟩:=h
  rw [List.mapM_cons,hx x (by simp) y h1]
  simp only [Option.bind_eq_bind,Option.bind_some,Option.pure_def]
  rw [ih (fun x hm=>hx x (by simp [hm])) zs h2]
  rfl
theorem q02z (s:Int->Int)(q:Bool):∀ (D:Nat) (t:TypeId) (cs:List Value) (l:List Lit),IntsFor s cs->P.keyLits D t cs=some l->P.keyLits D t (cs.map (subV s q))=some (l.map (subL s q)):=by
 intro D
 induction D with
 | zero=>intro t cs l _ h;simp [Program.keyLits] at h
 | succ D ih=>
  intro t cs l hcs h
  have sub:∀ a b:Nat,IntsFor s ((cs.drop a).take b):=fun a b v hv=>hcs v (List.mem_of_mem_drop (List.mem_of_mem_take hv))
  have hmap:∀ a b:Nat,((cs.map (subV s q)).drop a).take b=((cs.drop a).take b).map (subV s q):=fun a b=>by rw [List.map_take,List.map_drop]
  unfold Program.keyLits at h ⊢
  cases hu:P.underlying t with
  | none=>rw [hu] at h;cases h
  | some d=>
   rw [hu] at h
   have shape:cs=[]∨((∃ k n,cs=[.int k n]∧(Lit.int k (s n)).wf=true)∨∃ b,cs=[.bool b])∨∃ a b r,cs=a::b::r:=by
    rcases cs with _ | ⟨v,_ | ⟨w,r⟩⟩
    ·exact .inl rfl
    ·rcases hcs v (by simp) with ⟨k,n,rfl,hw⟩ | ⟨b,rfl⟩
     ·exact .inr (.inl (.inl ⟨k,n,rfl,hw⟩))
     ·exact .inr (.inl (.inr ⟨b,rfl⟩))
    ·exact .inr (.inr ⟨v,w,r,rfl⟩)
   cases d
   case bool=>
    rcases shape with rfl | (⟨k,n,rfl,_⟩ | ⟨b,rfl⟩) | ⟨a,b,r,rfl⟩
    ·simp at h
    ·simp at h
    ·simp only [Option.some.injEq] at h
     subst h
     rfl
    ·simp at h
   case string=>rcases shape with rfl | (⟨k,n,rfl,_⟩ | ⟨b,rfl⟩) | ⟨a,b,r,rfl⟩<;>simp at h
   case int kq=>
    rcases shape with rfl | (⟨k,n,rfl,hw⟩ | ⟨b,rfl⟩) | ⟨a,b,r,rfl⟩
    ·simp at h
    ·simp only at h
     split at h
     ·rename_i hq
      cases h
      simp only [List.map_cons,List.map_nil,subV,subL]
      rw [if_pos ⟨hq.1,by rw [<- hq.1];exact hw⟩]
     ·cases h
    ·simp at h
    ·simp at h
   case array n e=>
    simp only at h
    split at h
    ·rename_i hl
     simp only [Option.map_eq_some_iff] at h
     obtain ⟨ys,h1,rfl⟩:=h
     simp only [List.length_map]
     rw [if_pos hl,q02y _ (fun i=>P.keyLits D e (((cs.map (subV s q)).drop (i*P.cellsOf e)).take (P.cellsOf e))) (List.map (subL s q)) _ (fun i _ y hy=>by rw [hmap];exact ih e _ y (sub _ _) hy) ys h1]
     simp [List.map_flatten]
    ·cases h
   case struct fs=>
    simp only at h
    split at h
    ·rename_i hl
     simp only [Option.map_eq_some_iff] at h
     obtain ⟨ys,h1,rfl⟩:=h
     simp only [List.length_map]
     rw [if_pos hl,q02y _ (fun f=>P.keyLits D f.type (((cs.map (subV s q)).drop f.offset).take (P.cellsOf f.type))) (List.map (subL s q)) _ (fun f _ y hy=>by rw [hmap];exact ih f.type _ y (sub _ _) hy) ys h1]
     simp [List.map_flatten]
    ·cases h
   all_goals simp at h
def avC:Option IntKind->Int->AV
 | some k,n=>.int k n
 | none,n=>.bool (n==1)
def valC:Option IntKind->Int->Value
 | some k,n=>.int k n
 | none,n=>.bool (n==1)
def litC:Option IntKind->Int->Lit
 | some k,n=>.int k n
 | none,n=>.bool (n==1)
def Norm (ks:List (Option IntKind))(ns:List Int):Prop:=∀ j:Nat,ks[j]?=some none->ns.getD j 0=0∨ns.getD j 0=1
theorem Norm.tail {k:Option IntKind}{ks:List (Option IntKind)}{n:Int}{ns:List Int}(h:Norm (k::ks) (n::ns)):Norm ks ns:=fun j hj=>by
 have:=h (j+1) (by simpa using hj)
 simpa using this
theorem q030:∀ (vs:List AV) (ks:List (Option IntKind)),kindsL vs=some ks->∃ ns:List Int,ns.length=ks.length∧vs=List.zipWith avC ks ns∧Norm ks ns:=by
 intro vs
 induction vs with
 | nil=>intro ks h;simp only [kindsL,Option.some.injEq] at h;subst h;exact ⟨[],rfl,rfl,fun j hj=>by simp at hj⟩
 | cons v vs ih=>
  intro ks h
  cases v<;>simp only [kindsL,reduceCtorEq] at h
  ·rename_i b
   cases hq:kindsL vs with
   | none=>rw [hq] at h;cases h
   | some ks'=>
    rw [hq] at h
    simp only [Option.some.injEq] at h
    subst h
    obtain ⟨ns,h1,h2,h3⟩:=ih ks' hq
    refine ⟨(if b=true then 1 else 0)::ns,by simp [h1],by rw [h2];cases b<;>rfl,fun j hj=>?_⟩
    cases j with
    | zero=>cases b<;>simp
    | succ j=>have:=h3 j (by simpa using hj);simpa using this
  ·rename_i k n
   cases hq:kindsL vs with
   | none=>rw [hq] at h;cases h
   | some ks'=>
    rw [hq] at h
    simp only [Option.some.injEq] at h
    subst h
    obtain ⟨ns,h1,h2,h3⟩:=ih ks' hq
    refine ⟨n::ns,by simp [h1],by rw [h2];rfl,fun j hj=>?_⟩
    cases j with
    | zero=>simp at hj
    | succ j=>have:=h3 j (by simpa using hj);simpa using this
theorem q031:∀ {a b:List (Option IntKind)},sameKinds a b=true->a=b
 | [],[],_=>rfl
 | [],_::_,h=>by simp [sameKinds] at h
 | _::_,[],h=>by simp [sameKinds] at h
 | x::a,y::b,h=>by
  simp only [sameKinds] at h
  cases hq:keqO x y with
  | false=>rw [hq] at h;cases h
  | true=>
   rw [hq] at h
   have e:x=y:=by
    cases x<;>cases y<;>simp only [keqO,Bool.false_eq_true] at hq
    ·rfl
    ·rw [q00z hq]
   rw [e,q031 h]
theorem q032 {a b:Int}(ha:a=0∨a=1)(hb:b=0∨b=1):((a==1)=(b==1))↔a=b:=by
 rcases ha with rfl | rfl<;>rcases hb with rfl | rfl<;>simp
theorem q033 {α:Type}{r:α}:∀ (ks:List (Option IntKind)) (as bs:List Int) (K:Bool->Option α),as.length=ks.length->bs.length=ks.length->Norm ks as->Norm ks bs ->
  eqCellsK (List.zipWith avC ks as) (List.zipWith avC ks bs) K=some r->∃ b,K b=some r∧(b=true↔as=bs):=by
 intro ks
 induction ks with
 | nil=>
  intro as bs K h1 h2 _ _ h
  have:as=[]:=List.length_eq_zero_iff.1 h1
  have:bs=[]:=List.length_eq_zero_iff.1 h2
  subst as;subst bs
  exact ⟨true,h,by simp⟩
 | cons k ks ih=>
  intro as bs K h1 h2 n1 n2 h
  rcases as with _ | ⟨a,as⟩
  ·simp at h1
  ·rcases bs with _ | ⟨b,bs⟩
   ·simp at h2
   ·cases k with
    | some k=>
     simp only [List.zipWith_cons_cons,avC,eqCellsK] at h
     obtain ⟨q,hk,hq⟩:=ih as bs _ (by simpa using h1) (by simpa using h2) n1.tail n2.tail h
     refine ⟨_,hk,?_⟩
     rw [Bool.and_eq_true,hq]
     simp
    | none=>
     simp only [List.zipWith_cons_cons,avC,eqCellsK] at h
     obtain ⟨q,hk,hq⟩:=ih as bs _ (by simpa using h1) (by simpa using h2) n1.tail n2.tail h
     refine ⟨_,hk,?_⟩
     have ha:=n1 0 rfl
     have hb:=n2 0 rfl
     simp only [List.getD_cons_zero] at ha hb
     rw [Bool.and_eq_true,hq,beq_iff_eq,q032 ha hb]
     simp
theorem q034:∀ (ks:List (Option IntKind)) (q:Bool),oneTruth q ks=true->(q=true->∀ j:Nat,ks[j]?≠some none)∧∀ i j:Nat,ks[i]?=some none->ks[j]?=some none->i=j:=by
 intro ks
 induction ks with
 | nil=>intro q _;exact ⟨fun _ j=>by simp,fun i j h=>by simp at h⟩
 | cons k ks ih=>
  intro q h
  cases k with
  | some k=>
   obtain ⟨h1,h2⟩:=ih q h
   refine ⟨fun hq j=>?_,fun i j hi hj=>?_⟩
   ·cases j with
    | zero=>simp
    | succ j=>simpa using h1 hq j
   ·cases i with
    | zero=>simp at hi
    | succ i=>
     cases j with
     | zero=>simp at hj
     | succ j=>rw [h2 i j (by simpa using hi) (by simpa using hj)]
  | none=>
   cases q with
   | true=>simp [oneTruth] at h
   | false=>
    obtain ⟨h1,h2⟩:=ih true h
    refine ⟨fun hq=>(by cases hq),fun i j hi hj=>?_⟩
    cases i with
    | zero=>
     cases j with
     | zero=>rfl
     | succ j=>exact absurd (by simpa using hj) (h1 rfl j)
    | succ i=>exact absurd (by simpa using hi) (h1 rfl i)
theorem q035 (q:Bool):∀ (ks:List (Option IntKind)) (ns:List Int) (i:Nat) (s:Int->Int),ns.length=ks.length->(∀ j,j<ns.length->s ((i+j:Nat):Int)=ns.getD j 0)->(∀ j,ks[j]?=some none->(ns.getD j 0==1)=q)->(probe i ks).map (subV s q)=List.zipWith valC ks ns:=by
 intro ks
 induction ks with
 | nil=>intro ns i s _ _ _;simp [probe]
 | cons k ks ih=>
  intro ns i s h1 h2 h3
  rcases ns with _ | ⟨n,ns⟩
  ·simp at h1
  ·have e0:=h2 0 (by simp)
   simp only [Nat.add_zero,List.getD_cons_zero] at e0
   have rest:=ih ns (i+1) s (by simpa using h1) (fun j hj=>by
    have:=h2 (j+1) (by simpa using hj)
    rw [show i+1+j=i+(j+1) by omega,this]
    simp) (fun j hj=>by have:=h3 (j+1) (by simpa using hj);simpa using this)
   cases k with
   | some k=>simp only [probe,List.map_cons,subV,List.zipWith_cons_cons,valC,e0];rw [rest]
   | none=>
    have e1:=h3 0 rfl
    simp only [List.getD_cons_zero] at e1
    simp only [probe,List.map_cons,subV,List.zipWith_cons_cons,valC,e1];rw [rest]
theorem q036 (q:Bool):∀ (ks:List (Option IntKind)) (ns:List Int) (i:Nat) (s:Int->Int) (l:List Lit),ns.length=ks.length->(∀ j,j<ns.length->s ((i+j:Nat):Int)=ns.getD j 0)->(∀ j,ks[j]?=some none->(ns.getD j 0==1)=q)->litsB i ks l=true->l.map (subL s q)=List.zipWith litC ks ns:=by
 intro ks
 induction ks with
 | nil=>intro ns i s l _ _ _ h;cases l<;>simp [litsB] at h ⊢
 | cons k ks ih=>
  intro ns i s l h1 h2 h3 h
  rcases ns with _ | ⟨n,ns⟩
  ·simp at h1
  ·have e0:=h2 0 (by simp)
   simp only [Nat.add_zero,List.getD_cons_zero] at e0
   have rest:=fun l hl=>ih ns (i+1) s l (by simpa using h1) (fun j hj=>by
    have:=h2 (j+1) (by simpa using hj)
    rw [show i+1+j=i+(j+1) by omega,this]
    simp) (fun j hj=>by have:=h3 (j+1) (by simpa using hj);simpa using this) hl
   rcases l with _ | ⟨x,l⟩
   ·cases k<;>simp [litsB] at h
   ·cases k with
    | some k=>
     cases x<;>simp only [litsB,Bool.false_eq_true] at h
     rename_i k' m
     cases hq:(keq k k'&&(m==(i:Int))) with
     | false=>rw [hq] at h;cases h
     | true=>
      rw [hq] at h
      simp only [Bool.and_eq_true,beq_iff_eq] at hq
      have ek:=q00z hq.1
      simp only [List.map_cons,subL,List.zipWith_cons_cons,litC,hq.2,e0,ek]
      rw [rest l h]
    | none=>
     cases x<;>simp only [litsB,Bool.false_eq_true] at h
     have e1:=h3 0 rfl
     simp only [List.getD_cons_zero] at e1
     simp only [List.map_cons,subL,List.zipWith_cons_cons,litC,e1]
     rw [rest l h]
theorem q037:∀ (ks:List (Option IntKind)) (as bs:List Int),as.length=ks.length->bs.length=ks.length->Norm ks as->Norm ks bs->(List.zipWith litC ks as=List.zipWith litC ks bs↔as=bs):=by
 intro ks
 induction ks with
 | nil=>intro as bs h1 h2 _ _;rw [List.length_eq_zero_iff.1 h1,List.length_eq_zero_iff.1 h2];simp
 | cons k ks ih=>
  intro as bs h1 h2 n1 n2
  rcases as with _ | ⟨a,as⟩
  ·simp at h1
  ·rcases bs with _ | ⟨b,bs⟩
   ·simp at h2
   ·have rest:=ih as bs (by simpa using h1) (by simpa using h2) n1.tail n2.tail
    cases k with
    | some k=>simp [litC,rest]
    | none=>
     have ha:=n1 0 rfl
     have hb:=n2 0 rfl
     simp only [List.getD_cons_zero] at ha hb
     simp only [List.zipWith_cons_cons,litC,List.cons.injEq,Lit.bool.injEq,q032 ha hb,rest]
theorem q038:∀ (ks:List (Option IntKind)) (i:Nat) (v:Value),v∈probe i ks->(∃ j k,ks[j]?=some (some k)∧v=.int k ((i+j:Nat):Int))∨∃ b,v=.bool b:=by
 intro ks
 induction ks with
 | nil=>intro i v h;simp [probe] at h
 | cons k ks ih=>
  intro i v h
  cases k with
  | some k=>
   simp only [probe,List.mem_cons] at h
   rcases h with rfl | h
   ·exact .inl ⟨0,k,rfl,rfl⟩
   ·rcases ih (i+1) v h with ⟨j,k',h1,h2⟩ | h1
    ·exact .inl ⟨j+1,k',by simpa using h1,by rw [h2,show i+1+j=i+(j+1) by omega]⟩
    ·exact .inr h1
  | none=>
   simp only [probe,List.mem_cons] at h
   rcases h with rfl | h
   ·exact .inr ⟨false,rfl⟩
   ·rcases ih (i+1) v h with ⟨j,k',h1,h2⟩ | h1
    ·exact .inl ⟨j+1,k',by simpa using h1,by rw [h2,show i+1+j=i+(j+1) by omega]⟩
    ·exact .inr h1
theorem q039 (ks:List (Option IntKind))(ns:List Int)(hn:ns.length=ks.length)(j:Nat):(List.zipWith avC ks ns).getD j .undef=(match ks[j]? with | some k=>avC k (ns.getD j 0) | none=>.undef):=by
 rw [List.getD_eq_getElem?_getD,List.getElem?_zipWith]
 cases h:ks[j]? with
 | none=>rfl
 | some k=>
  have hj:j<ns.length:=by have:=(List.getElem?_eq_some_iff.1 h).1;omega
  simp [List.getElem?_eq_getElem hj,List.getD_eq_getElem?_getD]
theorem q03a {h:Heap}{μ:LMap}{ss:List AV}{c:Value}{ks:List (Option IntKind)}{ns:List Int}(hn:ns.length=ks.length)(hf:flat ss=List.zipWith avC ks ns)(hv:VR h μ (.agg ss) c):
  ∃ cs:Array Value,c=.agg cs∧cs.toList=List.zipWith valC ks ns∧∀ j k,ks[j]?=some (some k)->fits k (ns.getD j 0)=true:=by
 cases hv with
 | agg _ cs h1 h2=>
  rw [hf] at h1 h2
  have key:∀ j k,ks[j]?=some k->cs.getD j Go.undef=valC k (ns.getD j 0)∧∀ k',k=some k'->fits k' (ns.getD j 0)=true:=by
   intro j k hk
   have:=h2 j
   rw [q039 ks ns hn,hk] at this
   generalize cs.getD j Go.undef=q at this
   cases k with
   | some k=>cases this with | int _ _ hfit=>exact ⟨rfl,fun k' e=>by cases e;exact hfit⟩
   | none=>cases this with | bool _=>exact ⟨rfl,fun k' e=>by cases e⟩
  refine ⟨cs,rfl,List.ext_getElem? fun j=>?_,fun j k hk=>(key j _ hk).2 k rfl⟩
  have hl:cs.size=ks.length:=by rw [<- h1];simp [hn]
  rw [List.getElem?_zipWith]
  cases hk:ks[j]? with
  | none=>
   have:=List.getElem?_eq_none_iff.1 hk
   rw [List.getElem?_eq_none (by simp;omega)]
  | some k=>
   have hj:=(List.getElem?_eq_some_iff.1 hk).1
   have e:=(key j k hk).1
   have hc:j<cs.size:=by omega
   rw [Array.getD_eq_getD_getElem?,Array.getElem?_eq_getElem hc,Option.getD_some] at e
   have hjn:j<ns.length:=by omega
   simp [hc,e,List.getElem?_eq_getElem hjn,List.getD_eq_getElem?_getD]
theorem q03b {α:Type}{r:α}{t:TypeId}{ss ss':List AV}{K:Bool->Option α}(he:goEqAgg P t ss ss' K=some r):
  ∃ b,K b=some r∧∀ (h:Heap) (μ:LMap) (c d:Value) (w:World),VR h μ (.agg ss) c->VR h μ (.agg ss') d->∃ xs ys,c=.agg xs∧d=.agg ys∧(Op.equalIn 10000 t c d).run P w=.ok b w∧P.eqGuardType P.depth t=false:=by
 unfold goEqAgg at he
 split at he
 ·rename_i ks ks' hk hk'
  obtain ⟨hb,he2⟩:=q008 he
  clear he
  simp only [Bool.and_eq_true] at hb
  have:=q031 hb.1
  subst this
  obtain ⟨as,ha1,ha2,na⟩:=q030 _ _ hk
  obtain ⟨bs,hb1,hb2,nb⟩:=q030 _ _ hk'
  rw [ha2,hb2] at he2
  obtain ⟨b,hkb,hbe⟩:=q033 ks as bs K ha1 hb1 na nb he2
  have ho:=hb.2
  unfold eqOk at ho
  simp only [Bool.and_eq_true,Bool.not_eq_true'] at ho
  obtain ⟨hsz,⟨hone,hkt⟩,hg,hagg,hlit⟩:=ho
  have hsz:=Nat.eq_of_beq_eq_true hsz
  refine ⟨b,hkb,fun h μ c d w hc hd=>?_⟩
  obtain ⟨xs,rfl,hx,hxf⟩:=q03a ha1 ha2 hc
  obtain ⟨ys,rfl,hy,hyf⟩:=q03a hb1 hb2 hd
  refine ⟨xs,ys,rfl,rfl,?_,hg⟩
  cases hkl:P.keyLits 9 t (probe 0 ks) with
  | none=>rw [hkl] at hlit;cases hlit
  | some l=>
   rw [hkl] at hlit
   simp only at hlit
   have lits:∀ ns:List Int,ns.length=ks.length->(∀ j k,ks[j]?=some (some k)->fits k (ns.getD j 0)=true)->P.keyLits 9 t (List.zipWith valC ks ns)=some (List.zipWith litC ks ns):=by
    intro ns hn hf
    have hs:∀ j,j<ns.length->(fun x:Int=>ns.getD x.toNat 0) ((0+j:Nat):Int)=ns.getD j 0:=fun j _=>by simp
    obtain ⟨qb,hqb⟩:∃ qb:Bool,∀ j:Nat,ks[j]?=some none->(ns.getD j 0==1)=qb:=by
     by_cases hex:∃ j:Nat,ks[j]?=some none
     ·obtain ⟨j0,hj0⟩:=hex
      exact ⟨_,fun j hj=>by rw [(q034 ks false hone).2 j j0 hj hj0]⟩
     ·exact ⟨true,fun j hj=>absurd ⟨j,hj⟩ hex⟩
    have:=q02z (P:=P) (fun x=>ns.getD x.toNat 0) qb 9 t (probe 0 ks) l (fun v hv=>by
     rcases q038 ks 0 v hv with ⟨j,k,h1,h2⟩ | h1
     ·refine .inl ⟨k,_,h2,?_⟩
      have hfj:=hf j k h1
      rw [q02k] at hfj
      have e:(((0+j:Nat):Int)).toNat=j:=by simp
      simp only [Lit.wf,e,Bool.and_eq_true,decide_eq_true_eq]
      cases k<;>exact hfj
     ·exact .inr h1) hkl
    rw [q035 qb ks ns 0 _ hn hs hqb,q036 qb ks ns 0 _ l hn hs hqb hlit] at this
    exact this
   have hform:∀ zs:Array Value,zs.toList.length=ks.length->(Value.agg zs).formed P t=true:=by
    intro zs hz
    unfold Value.formed
    cases hu:P.underlying t with
    | none=>rw [hu] at hagg;cases hagg
    | some dd=>cases dd<;>rw [hu] at hagg<;>first | (simp only;rw [hsz,<- hz];simp;done) | cases hagg
   obtain ⟨q,hq1,hq2⟩:=run_equalIn_deep (P:=P) 9991 9 t hkt w 9 9 (.agg xs) (.agg ys) _ _ (hform xs (by rw [hx];simp [ha1])) (hform ys (by rw [hy];simp [hb1])) (by simp only [Value.cells];rw [hx];exact lits as ha1 hxf) (by simp only [Value.cells];rw [hy];exact lits bs hb1 hyf)
   rw [q037 ks as bs ha1 hb1 na nb,<- hbe] at hq2
   have:q=b:=by cases q<;>cases b<;>simp_all
   rw [<- this]
   exact hq1
 ·cases he
end
end Go.AM
