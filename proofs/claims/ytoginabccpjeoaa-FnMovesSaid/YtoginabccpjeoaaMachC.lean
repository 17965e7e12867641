/- A part of a proof about the given program: an abstract machine, what the given functions come to, and plain laws. -/
import Derived.Test.YtoginabccpjeoaaMachB
set_option linter.unusedVariables false
set_option linter.unusedSimpArgs false
namespace Go.AM
theorem q03c {h:Heap}{ss:Blk}{b:Key}(hb:b.b<h.length):blk? (h++[ss]) b=blk? h b:=q00k rfl (List.getElem?_append_left hb)
theorem q03d {h:Heap}{ss:Blk}{b:Key}(hb:b.b<h.length):blkD (h++[ss]) b=blkD h b:=q00b rfl (List.getElem?_append_left hb)
theorem q03e {h:Heap}{ss:Blk}(hp:isPool ss=false):blk? (h++[ss]) (topK h.length)=some ss:=q00e hp (by simp)
theorem q03f {h:Heap}{ss:Blk}{b:Key}(hb:b.b<h.length)(s:Nat):segLenAt (h++[ss]) b s=segLenAt h b s:=by
 unfold segLenAt
 rw [q03c hb]
theorem q03g {h:Heap}{ss:Blk}{b:Key}(hb:b.b<h.length)(s:Nat):segOff (h++[ss]) b s=segOff h b s:=by
 unfold segOff
 rw [q03d hb]
theorem q03h {h:Heap}{b:Key}{s L:Nat}(hl:segLenAt h b s=some L):has h b:=by
 obtain ⟨ss,hb,_⟩:=q00m hl
 exact ⟨ss,hb⟩
theorem q03i {h:Heap}{b:Key}{s L:Nat}(hl:segLenAt h b s=some L):b.b<h.length:=q00j (q03h hl)
theorem q03j {h:Heap}{ss:Blk}(hp:isPool ss=false){b:Key}{sb:Blk}(hb:blk? (h++[ss]) b=some sb):(b.b<h.length∧blk? h b=some sb)∨(b=topK h.length∧sb=ss):=by
 rcases Nat.lt_or_ge b.b h.length with hlt | hge
 ·rw [q03c hlt] at hb;exact .inl ⟨hlt,hb⟩
 ·have hl:=q00j ⟨_,hb⟩
  simp only [List.length_append,List.length_singleton] at hl
  have he:b.b=h.length:=by omega
  have hr:(h++[ss])[b.b]?=some ss:=by rw [he];simp
  rcases q00i hb with ⟨h0,h1,_⟩ | ⟨r,k,rows,xs,h0,h1,_,_⟩
  ·rw [hr] at h1
   cases h1
   refine .inr ⟨?_,rfl⟩
   cases b
   simp only at he h0
   rw [he,h0]
  ·rw [hr] at h1
   cases h1
   cases hp
def addMap (μ:LMap)(n:Nat)(l:Loc):LMap:=fun b=>if b=topK n then l else μ b
theorem q03k {μ:LMap}{n:Nat}{l:Loc}{b:Key}(hb:b.b<n):addMap μ n l b=μ b:=if_neg (by rintro rfl;exact Nat.lt_irrefl _ hb)
theorem Le.append {h:Heap}{μ:LMap}{ss:Blk}{l:Loc}:Le h μ (h++[ss]) (addMap μ h.length l):=
 ⟨fun b s L hl=>⟨L,by rw [q03f (q03i hl)];exact hl,Nat.le_refl _,fun _=>⟨q03g (q03i hl) s,fun _=>q03k (q03i hl)⟩⟩⟩
theorem q03l {w w':World}{cs:Array Value}{T:TypeId}(hheap:w'.heap=w.heap.push (.cells cs T))(a:Addr):w'.frozen? a=w.frozen? a:=by
 unfold World.frozen?
 by_cases e:a.block=w.heap.size
 ·rw [hheap,Array.getElem?_push,if_pos e,show w.heap[a.block]?=none by rw [e];simp]
  simp
 ·rw [hheap,Array.getElem?_push,if_neg e]
theorem HR.alloc {ro:Nat}{h:Heap}{μ:LMap}{w w':World}(H:HR ro h μ w){ss:Blk}(hp:isPool ss=false){cs:Array Value}{T:TypeId}
  (hheap:w'.heap=w.heap.push (.cells cs T)) (hos:w'.os=w.os) (htape:w'.tape=w.tape) (hout:w'.output=w.output)
  (hlen:(flat ss).length<=cs.size) (hv:∀ (i:Nat) (u:AV),(flat ss)[i]?=some u->∃ c,cs[i]?=some c∧c.oneCell'=true∧VR h μ u c):
  HR ro (h++[ss]) (addMap μ h.length (.at w.heap.size 0 cs.size)) w'∧Ext ro h μ w (h++[ss]) (addMap μ h.length (.at w.heap.size 0 cs.size)) w':=by
 have hle:Le h μ (h++[ss]) (addMap μ h.length (.at w.heap.size 0 cs.size)):=Le.append
 have hold:∀ k,k<w.heap.size->w'.heap[k]?=w.heap[k]?:=fun k hk=>by
  rw [hheap,Array.getElem?_push,if_neg (by omega)]
 have hnew:w'.heap[w.heap.size]?=some (.cells cs T):=by rw [hheap];simp
 have hmap:∀ b:Key,b.b<h.length->addMap μ h.length (.at w.heap.size 0 cs.size) b=μ b:=fun b hb=>q03k hb
 have hmap2:addMap μ h.length (.at w.heap.size 0 cs.size) (topK h.length)=.at w.heap.size 0 cs.size:=by unfold addMap;rw [if_pos rfl]
 have hat:∀ b k base room,has h b->μ b=.at k base room->k<w.heap.size:=fun b k base room ⟨sb,hb⟩ hm=>(H.at_ b sb k base room hb hm).1
 constructor
 ·refine ⟨fun b sb hb hm=>?_,fun b sb k base room hb hm=>?_,fun b b' k base room base' room' h1 ⟨sb,h2⟩ ⟨sb',h3⟩ h4 h5=>?_,fun b sb hb i v hvi=>?_,by have:=H.rol;simp;omega⟩
  ·rcases q03j hp hb with ⟨hlt,hb⟩ | ⟨rfl,rfl⟩
   ·rw [hmap b hlt] at hm;exact H.nil_ b sb hb hm
   ·rw [hmap2] at hm;cases hm
  ·rcases q03j hp hb with ⟨hlt,hb⟩ | ⟨rfl,rfl⟩
   ·rw [hmap b hlt] at hm
    obtain ⟨q1,q2,q3,q4⟩:=H.at_ b sb k base room hb hm
    have hh:=hold k q1
    refine ⟨by rw [hheap];simp;omega,q2,fun i hi=>?_,fun i v hv=>?_⟩
    ·rw [q01r (a:=⟨k,base+i,none⟩) hh,q01s (a:=⟨k,base+i,none⟩) hh];exact q3 i hi
    ·obtain ⟨c,e1,e2,e3⟩:=q4 i v hv
     exact ⟨c,by rw [q01r (a:=⟨k,base+i,none⟩) hh];exact e1,e2,e3.mono hle⟩
   ·rw [hmap2] at hm
    cases hm
    refine ⟨by rw [hheap];simp,hlen,fun i hi=>⟨⟨cs[i],?_⟩,?_⟩,fun i v hvi=>?_⟩
    ·simp [World.cell?,hnew,hi]
    ·simp [World.frozen?,hnew]
    ·obtain ⟨c,e1,e2,e3⟩:=hv i v hvi
     exact ⟨c,by simpa [World.cell?,hnew] using e1,e2,e3.mono hle⟩
  ·rcases q03j hp h2 with ⟨hlt,g2⟩ | ⟨rfl,rfl⟩
   ·rw [hmap b hlt] at h5
    rcases q03j hp h3 with ⟨hlt',g3⟩ | ⟨rfl,rfl⟩
    ·rw [hmap b' hlt']
     exact H.inj b b' k base room base' room' h1 ⟨_,g2⟩ ⟨_,g3⟩ h4 h5
    ·rw [hmap2]
     intro e
     cases e
     have:=hat b _ _ _ ⟨_,g2⟩ h5
     omega
   ·rw [hmap2] at h5
    cases h5
    rcases q03j hp h3 with ⟨hlt',h3⟩ | ⟨rfl,rfl⟩
    ·rw [hmap b' hlt']
     intro e
     have:=hat b' _ _ _ ⟨_,h3⟩ e
     omega
    ·exact absurd rfl h4
  ·rcases q03j hp hb with ⟨hlt,hb⟩ | ⟨rfl,rfl⟩
   ·exact hle.inScope (H.scope b sb hb i v hvi)
   ·obtain ⟨c,_,_,h3⟩:=hv i v hvi
    exact hle.inScope h3.inScope
 ·refine ⟨hle,hos,htape,hout,by rw [hheap];simp,by simp,fun k hk _=>hold k hk,fun b h1 h2=>⟨by rw [List.getElem?_append_left h2],fun r=>hmap ⟨b,r⟩ h2⟩,fun b k base room ⟨sb,h1⟩ h2=>?_,q03l hheap⟩
  rcases q03j hp h1 with ⟨hlt,hb⟩ | ⟨rfl,rfl⟩
  ·rw [hmap b hlt] at h2
   exact .inl ⟨b,base,room,⟨_,hb⟩,h2,.inr rfl⟩
  ·rw [hmap2] at h2
   cases h2
   exact .inr (Nat.le_refl _)
def poolMap (μ:LMap)(n:Nat):LMap:=fun b=>if b.b=n then .none else μ b
theorem q03m {μ:LMap}{n:Nat}{b:Key}(hb:b.b<n):poolMap μ n b=μ b:=if_neg (by omega)
theorem q03n {h:Heap}{k:IntKind}{c:Nat}{b:Key}{sb:Blk}(hb:blk? (h++[[.pool k (List.replicate c [])]]) b=some sb):(b.b<h.length∧blk? h b=some sb)∨(b.b=h.length∧∃ r,r<c∧b=rowK h.length r∧sb=[.vec k []]):=by
 rcases Nat.lt_or_ge b.b h.length with hlt | hge
 ·rw [q03c hlt] at hb;exact .inl ⟨hlt,hb⟩
 ·have hl:=q00j ⟨_,hb⟩
  simp only [List.length_append,List.length_singleton] at hl
  have he:b.b=h.length:=by omega
  have hr:(h++[[AV.pool k (List.replicate c [])]])[b.b]?=some [.pool k (List.replicate c [])]:=by rw [he];simp
  rcases q00i hb with ⟨h0,h1,h2⟩ | ⟨r,k',rows,xs,h0,h1,h2,rfl⟩
  ·rw [hr] at h1
   cases h1
   cases h2
  ·rw [hr] at h1
   simp only [Option.some.injEq,List.cons.injEq,AV.pool.injEq,and_true] at h1
   obtain ⟨rfl,rfl⟩:=h1
   rw [List.getElem?_replicate] at h2
   split at h2
   ·rename_i hlt
    cases h2
    refine .inr ⟨he,r,hlt,?_,rfl⟩
    cases b
    simp only at he h0
    rw [he,h0]
   ·cases h2
theorem Le.pool {h:Heap}{μ:LMap}{ss:Blk}:Le h μ (h++[ss]) (poolMap μ h.length):=
 ⟨fun b s L hl=>⟨L,by rw [q03f (q03i hl)];exact hl,Nat.le_refl _,fun _=>⟨q03g (q03i hl) s,fun _=>q03m (q03i hl)⟩⟩⟩
theorem HR.newPool {ro:Nat}{h:Heap}{μ:LMap}{w:World}(H:HR ro h μ w)(k:IntKind)(c:Nat):
  HR ro (h++[[.pool k (List.replicate c [])]]) (poolMap μ h.length) w∧Ext ro h μ w (h++[[.pool k (List.replicate c [])]]) (poolMap μ h.length) w:=by
 have hle:Le h μ (h++[[AV.pool k (List.replicate c [])]]) (poolMap μ h.length):=Le.pool
 have hmap:∀ b:Key,b.b<h.length->poolMap μ h.length b=μ b:=fun b hb=>q03m hb
 have hmap2:∀ b:Key,b.b=h.length->poolMap μ h.length b=.none:=fun b hb=>if_pos hb
 refine ⟨⟨fun b sb hb hm=>?_,fun b sb k' base room hb hm=>?_,fun b b' k' base room base' room' h1 ⟨sb,h2⟩ ⟨sb',h3⟩ h4 h5 h6=>?_,fun b sb hb i v hvi=>?_,by have:=H.rol;simp;omega⟩,
  hle,rfl,rfl,rfl,Nat.le_refl _,by simp,fun _ _ _=>rfl,fun b h1 h2=>⟨by rw [List.getElem?_append_left h2],fun r=>hmap ⟨b,r⟩ h2⟩,fun b k' base room ⟨sb,h1⟩ h2=>?_,fun _=>rfl⟩
 ·rcases q03n hb with ⟨hlt,hb⟩ | ⟨he,r,_,_,rfl⟩
  ·rw [hmap b hlt] at hm;exact H.nil_ b sb hb hm
  ·rfl
 ·rcases q03n hb with ⟨hlt,hb⟩ | ⟨he,r,_,_,rfl⟩
  ·rw [hmap b hlt] at hm
   obtain ⟨q1,q2,q3,q4⟩:=H.at_ b sb k' base room hb hm
   exact ⟨q1,q2,q3,fun i v hv=>(q4 i v hv).imp fun c ⟨e1,e2,e3⟩=>⟨e1,e2,e3.mono hle⟩⟩
  ·rw [hmap2 b he] at hm;cases hm
 ·rcases q03n h2 with ⟨hlt,h2⟩ | ⟨he,_⟩
  ·rw [hmap b hlt] at h5
   rcases q03n h3 with ⟨hlt',h3⟩ | ⟨he',_⟩
   ·rw [hmap b' hlt'] at h6
    exact H.inj b b' k' base room base' room' h1 ⟨_,h2⟩ ⟨_,h3⟩ h4 h5 h6
   ·rw [hmap2 b' he'] at h6;cases h6
  ·rw [hmap2 b he] at h5;cases h5
 ·rcases q03n hb with ⟨hlt,hb⟩ | ⟨he,r,_,_,rfl⟩
  ·exact hle.inScope (H.scope b sb hb i v hvi)
  ·simp [flat,segValsOf] at hvi
 ·rcases q03n h1 with ⟨hlt,hb⟩ | ⟨he,_⟩
  ·rw [hmap b hlt] at h2
   exact .inl ⟨b,base,room,⟨_,hb⟩,h2,.inr rfl⟩
  ·rw [hmap2 b he] at h2;cases h2
theorem VR.newPtr {h:Heap}{μ:LMap}{ss:Blk}{k n:Nat}(hp:isPool ss=false)(hne:ss≠[]):VR (h++[ss]) (addMap μ h.length (.at k 0 n)) (.ptr (newPlace h ss)) (.pointer (some ⟨k,0,none⟩)):=by
 cases ss with
 | nil=>exact absurd rfl hne
 | cons s rest=>
  have hb:=q03e (h:=h) hp
  refine .ptr _ _ (segLen s) (by simp only [segLenAt,newPlace,hb];rfl) (by simp [newPlace]) fun _=>⟨k,0,n,by simp [addMap,newPlace],?_⟩
  simp [newPlace,segOff,lenOf]
def OpSem (P:Program)(ro:Nat)(op:Op)(t:List AV)(h:Heap)(v:AV)(h':Heap):Prop:=
 ∀ (o:Oper) (a:Act) (w:World) (μ:LMap) (next:Act->World->Prop) (Q:Exit->Act->World->Prop),o.op=op->(∀ x,x∈op.operands->VR h μ (evalO t x) (a.eval x))->HR ro h μ w ->
  (∀ μ' w' c,VR h' μ' v c->HR ro h' μ' w'->Ext ro h μ w h' μ' w'->next (a.put o.dst c) w')->o.wp P a w next Q
section
variable {α:Type} {P:Program} {r:α} {ro:Nat} {op:Op} {t:List AV} {h:Heap}
theorem OpSem.of_value {v:AV}{h':Heap}(hr:∀ (o:Oper) (a:Act) (w:World) (μ:LMap),o.op=op->(∀ x,x∈op.operands->VR h μ (evalO t x) (a.eval x))->HR ro h μ w ->
  ∃ c w' μ',(execOp a.eval o).run P w=.ok (.value c) w'∧VR h' μ' v c∧HR ro h' μ' w'∧Ext ro h μ w h' μ' w'):OpSem P ro op t h v h':=by
 intro o a w μ next Q ho hx H hn
 obtain ⟨c,w',μ',e1,e2,e3,e4⟩:=hr o a w μ ho hx H
 unfold Oper.wp
 rw [e1]
 exact hn μ' w' c e2 e3 e4
theorem OpSem.of_pure {v:AV}(hr:∀ (o:Oper) (a:Act) (w:World) (μ:LMap),o.op=op->(∀ x,x∈op.operands->VR h μ (evalO t x) (a.eval x))->HR ro h μ w ->
  ∃ c,(execOp a.eval o).run P w=.ok (.value c) w∧VR h μ v c):OpSem P ro op t h v h:=
 .of_value fun o a w μ ho hx H=>by
  obtain ⟨c,e1,e2⟩:=hr o a w μ ho hx H
  exact ⟨c,w,μ,e1,e2,H,Ext.refl _ _ _ _⟩
theorem q03o (T:TypeId)(c:Value)(w:World):(newVar T c).run P w=.ok ⟨w.heap.size,0,none⟩ { w with heap:=w.heap.push (.cells c.cells T) }:=by
 simp [newVar,newRow]
theorem HR.box {μ:LMap}{w:World}(H:HR ro h μ w){v:AV}{c:Value}(hv:VR h μ v c)(h1:∀ (i:Nat) (u:AV),(cellsOfAV v)[i]?=some u->isOne u=true)(hne:cellsOfAV v≠[])(T:TypeId)
  {ss:Blk} (hp:isPool ss=false) (hss:flat ss=cellsOfAV v):∃ w' μ',(newVar T c).run P w=.ok ⟨w.heap.size,0,none⟩ w'∧HR ro (h++[ss]) μ' w'∧Ext ro h μ w (h++[ss]) μ' w' ∧
   VR (h++[ss]) μ' (.ptr (newPlace h ss)) (.pointer (some ⟨w.heap.size,0,none⟩)):=by
 obtain ⟨hlen,hus⟩:=hv.cells h1
 obtain ⟨r1,r2⟩:=H.alloc hp (w':={ w with heap:=w.heap.push (.cells c.cells T) }) (ss:=ss) rfl rfl rfl rfl (by rw [hss,hlen];simp) (fun i u hu=>by
  rw [hss] at hu
  have hi:i<(cellsOfAV v).length:=by
   rcases Nat.lt_or_ge i (cellsOfAV v).length with h | h
   ·exact h
   ·rw [List.getElem?_eq_none h] at hu;cases hu
  obtain ⟨u',d,e1,e2,e3,e4⟩:=hus i hi
  rw [hu] at e1
  cases e1
  exact ⟨d,by simpa using e2,e3,e4⟩)
 refine ⟨_,_,q03o _ _ _,r1,r2,VR.newPtr hp ?_⟩
 rintro rfl
 exact hne (by rw [<- hss];rfl)
end
end Go.AM
namespace Go.AM
section
variable {α:Type} {P:Program} {r:α} {ro:Nat} {op:Op} {t:List AV} {h:Heap}
theorem q03p {v:AV}{c:Value}(hs:sameVal v c=true)(h:Heap)(μ:LMap):VR h μ v c∧isOne v=true∧c.oneCell'=true:=by
 unfold sameVal at hs
 split at hs
 ·simp only [Bool.and_eq_true,beq_iff_eq] at hs
  obtain ⟨⟨h1,rfl⟩,h3⟩:=hs
  have:=q00z h1
  subst this
  exact ⟨.int _ _ h3,rfl,rfl⟩
 ·rename_i b c
  have:b=c:=by simpa using hs
  subst this
  exact ⟨.bool _,rfl,rfl⟩
 ·rename_i s x
  split at hs
  ·rename_i h1 h2
   have:x=⟨[].toArray⟩:=by
    cases x with | mk d=>
    simp only at h2
    congr 1
    exact Array.toList_inj.1 (by simpa using h2)
   rw [this]
   exact ⟨.str [],rfl,rfl⟩
  ·cases hs
 ·exact ⟨.nils,rfl,rfl⟩
 ·cases hs
theorem q03q:∀ {vs:List AV} {cs:List Value},sameVals vs cs=true->vs.length=cs.length∧∀ (i:Nat) (u:AV),vs[i]?=some u->isOne u=true∧∃ c,cs[i]?=some c∧c.oneCell'=true∧∀ (h:Heap) (μ:LMap),VR h μ u c
 | [],[],_=>⟨rfl,fun i u hu=>by simp at hu⟩
 | [],_::_,hs=>by simp [sameVals] at hs
 | _::_,[],hs=>by simp [sameVals] at hs
 | v::vs,c::cs,hs=>by
  simp only [sameVals] at hs
  cases hc:sameVal v c with
  | false=>simp [hc] at hs
  | true=>
   simp only [hc,cond_true] at hs
   obtain ⟨h1,h2⟩:=q03q hs
   refine ⟨by simp [h1],fun i u hu=>?_⟩
   cases i with
   | zero=>
    simp at hu
    subst hu
    exact ⟨(q03p hc [] (fun _=>.absent)).2.1,c,rfl,(q03p hc [] (fun _=>.absent)).2.2,fun h μ=>(q03p hc h μ).1⟩
   | succ i=>simpa using h2 i u (by simpa using hu)
theorem q03r {ty:TypeId}{ss:List AV}(hz:zeroOf P ty=some ss):∃ i z,P.info? ty=some i∧i.zero=some z∧(flat ss).length=z.cells.size ∧
  ∀ (j:Nat) (u:AV),(flat ss)[j]?=some u->isOne u=true∧∃ c,z.cells[j]?=some c∧c.oneCell'=true∧∀ (h:Heap) (μ:LMap),VR h μ u c:=by
 unfold zeroOf at hz
 split at hz
 ·rename_i ss' z h1 h2
  cases hc:sameVals (ss'.flatMap segValsOf) z.cells.toList with
  | false=>simp [hc] at hz
  | true=>
   simp only [hc,cond_true,Option.some.injEq] at hz
   subst hz
   cases hi:P.info? ty with
   | none=>simp [hi] at h2
   | some i=>
    simp only [hi,Option.bind_some] at h2
    obtain ⟨e1,e2⟩:=q03q hc
    exact ⟨i,z,rfl,h2,e1.trans (by simp),fun j u hu=>by simpa using e2 j u hu⟩
 ·cases hz
theorem q03s {ty:TypeId}{i:TypeInfo}{z:Value}(hi:P.info? ty=some i)(hz:i.zero=some z)(w:World):(zeroValue ty).run P w=.ok z w:=by
 simp [zeroValue,typeInfo,hi,hz]
theorem q03t {e:TypeId}{ss:List AV}(hz:zeroOf P e=some ss)(hne:ss.isEmpty=false)(hp:isPool ss=false):OpSem P ro (.alloc e) t h (.ptr (newPlace h ss)) (h++[ss]):=by
 obtain ⟨i,z,hi,hzz,hlen,hvs⟩:=q03r hz
 refine .of_value fun o a w μ ho _ H=>?_
 obtain ⟨r1,r2⟩:=H.alloc hp (w':={ w with heap:=w.heap.push (.cells z.cells e) }) (ss:=ss) rfl rfl rfl rfl (by omega) (fun i u hu=>by
  obtain ⟨_,c,e1,e2,e3⟩:=hvs i u hu
  exact ⟨c,e1,e2,e3 _ _⟩)
 refine ⟨_,_,_,?_,VR.newPtr hp (by rintro rfl;simp at hne),r1,r2⟩
 simp [execOp,ho,Instr.alloc,q03s hi hzz,Sem.run_bind,q03o]
theorem q03u {e:TypeId}{x:Operand}{ss:List AV}(hx:evalO t x=.agg ss)(h0:0<lenOf ss)(h1:onesB ss=true)(hp:isPool ss=false):OpSem P ro (.box e x) t h (.ptr (newPlace h ss)) (h++[ss]):=by
 refine .of_value fun o a w μ ho hop H=>?_
 have hv:=hop x (by simp [Op.operands])
 rw [hx] at hv
 obtain ⟨w',μ',e1,e2,e3,e4⟩:=H.box (P:=P) hv (fun i u hu=>q025 h1 hu) (by
  intro he
  have:=congrArg List.length he
  simp only [cellsOfAV,q002,List.length_nil] at this
  omega) e (ss:=ss) hp rfl
 exact ⟨_,w',μ',by simp [execOp,ho,Instr.box,e1],e4,e2,e3⟩
theorem q03v {e:TypeId}{x:Operand}{v:AV}(hx:evalO t x=v)(h1:isOne v=true):OpSem P ro (.box e x) t h (.ptr (newPlace h [.vals [v]])) (h++[[.vals [v]]]):=by
 refine .of_value fun o a w μ ho hop H=>?_
 have hv:=hop x (by simp [Op.operands])
 rw [hx] at hv
 have hcv:cellsOfAV v=[v]:=by cases v<;>first | rfl | simp [isOne] at h1
 obtain ⟨w',μ',e1,e2,e3,e4⟩:=H.box (P:=P) hv (fun i u hu=>by
  rw [hcv] at hu
  cases i with
  | zero=>simp at hu;rw [<- hu];exact h1
  | succ i=>simp at hu) (by rw [hcv];simp) e (ss:=[.vals [v]]) rfl (by rw [hcv];rfl)
 exact ⟨_,w',μ',by simp [execOp,ho,Instr.box,e1],e4,e2,e3⟩
theorem VR.ptr_c {μ:LMap}{p:Place}{c:Value}(hv:VR h μ (.ptr p) c):∃ a,c=.pointer (some a):=by
 cases hv with | ptr _ a _ _ _ _=>exact ⟨a,rfl⟩
theorem q03w {ty:TypeId}{p:Place}{K:AV->Option α}(he:loadAt P ty p h K=some r):∃ v,K v=some r∧LoadSem P ty p h v:=by
 unfold loadAt at he
 split at he
 ·rename_i fs hu;exact q01b hu (.inl ⟨fs,rfl⟩) he
 ·rename_i n e hu;exact q01b hu (.inr ⟨n,e,rfl⟩) he
 ·rename_i d h1 h2 hu;exact q00y hu (fun fs e=>h1 fs e) (fun n e' e=>h2 n e' e) he
 ·cases he
theorem q03x {ty:TypeId}{x:Operand}{p:Place}{v:AV}(hx:evalO t x=.ptr p)(hl:LoadSem P ty p h v):OpSem P ro (.load ty x) t h v h:=by
 refine .of_pure fun o a w μ ho hop H=>?_
 have hv:=hop x (by simp [Op.operands])
 rw [hx] at hv
 obtain ⟨ad,hc⟩:=hv.ptr_c
 rw [hc] at hv
 obtain ⟨c,e1,e2⟩:=hl ro μ w ad hv H
 exact ⟨c,by simp [execOp,ho,Instr.loadAt,Instr.sureAddr,hc,e1],e2⟩
theorem q03y {ty:TypeId}{x y:Operand}{p:Place}{h1 h':Heap}{v':AV}(hx:evalO t x=.ptr p)
  (hg:∀ (μ:LMap) (w:World),HR ro h μ w->∃ μ',HR ro h1 μ' w∧Ext ro h μ w h1 μ' w∧∀ c,VR h μ (evalO t y) c->VR h1 μ' v' c) (hs:StoreSem P ro ty p v' h1 h'):OpSem P ro (.store ty x y) t h .undef h':=by
 intro o a w μ next Q ho hop H hn
 have hv:=hop x (by simp [Op.operands])
 have hy:=hop y (by simp [Op.operands])
 rw [hx] at hv
 obtain ⟨ad,hc⟩:=hv.ptr_c
 rw [hc] at hv
 obtain ⟨μ1,H1,X1,V1⟩:=hg μ w H
 obtain ⟨w',e1,e2,e3⟩:=hs μ1 w ad _ (hv.mono X1.le) (V1 _ hy) H1
 have hr:(execOp a.eval o).run P w=.ok .skip w':=by simp [execOp,ho,Instr.storeAt,Instr.sureAddr,hc,e1]
 unfold Oper.wp
 rw [hr]
 exact hn μ1 w' _ (.undef _) e2 (X1.trans e3)
theorem VR.rptr_c {μ:LMap}{p:Place}{k:Nat}{c:Value}(hv:VR h μ (.rptr p k) c):∃ a,c=.pointer (some a):=by
 cases hv with | rptr _ _ a _ _ _ _=>exact ⟨a,rfl⟩
theorem q03z {ty:TypeId}{x:Operand}{p:Place}{k:Nat}{v:AV}(hx:evalO t x=.rptr p k)(hl:LoadSemR P ty p k h v):OpSem P ro (.load ty x) t h v h:=by
 refine .of_pure fun o a w μ ho hop H=>?_
 have hv:=hop x (by simp [Op.operands])
 rw [hx] at hv
 obtain ⟨ad,hc⟩:=hv.rptr_c
 rw [hc] at hv
 obtain ⟨c,e1,e2⟩:=hl ro μ w ad hv H
 exact ⟨c,by simp [execOp,ho,Instr.loadAt,Instr.sureAddr,hc,e1],e2⟩
theorem q040 {ty:TypeId}{x y:Operand}{p:Place}{k:Nat}{h':Heap}(hx:evalO t x=.rptr p k)(hs:StoreSem P ro ty { p with o:=p.o+k } (evalO t y) h h'):OpSem P ro (.store ty x y) t h .undef h':=by
 intro o a w μ next Q ho hop H hn
 have hv:=hop x (by simp [Op.operands])
 have hy:=hop y (by simp [Op.operands])
 rw [hx] at hv
 obtain ⟨ad,hc⟩:=hv.rptr_c
 rw [hc] at hv
 obtain ⟨w',e1,e2,e3⟩:=hs μ w ad _ hv.rptr_ptr hy H
 have hr:(execOp a.eval o).run P w=.ok .skip w':=by simp [execOp,ho,Instr.storeAt,Instr.sureAddr,hc,e1]
 unfold Oper.wp
 rw [hr]
 exact hn μ w' _ (.undef _) e2 e3
theorem q041 {x:Operand}{op:Op}(hop:op=.move x∨op=.assign x):OpSem P ro op t h (evalO t x) h:=by
 refine .of_pure fun o a w μ ho hx H=>?_
 rcases hop with rfl | rfl
 ·exact ⟨_,by simp [execOp,ho],hx x (by simp [Op.operands])⟩
 ·exact ⟨_,by simp [execOp,ho],hx x (by simp [Op.operands])⟩
theorem q042 {c x y:Operand}{b:Bool}(hc:evalO t c=.bool b):OpSem P ro (.pick c x y) t h (if b then evalO t x else evalO t y) h:=by
 refine .of_pure fun o a w μ ho hx H=>?_
 have hv:=hx c (by simp [Op.operands])
 rw [hc] at hv
 have hcc:a.eval c=.bool b:=by
  generalize a.eval c=q at *
  cases hv;rfl
 refine ⟨if b then a.eval x else a.eval y,by simp [execOp,ho,hcc,asBool],?_⟩
 cases b
 ·exact hx y (by simp [Op.operands])
 ·exact hx x (by simp [Op.operands])
theorem q043 {x:Operand}{vs:List AV}{i:Nat}{v:AV}(hx:evalO t x=.tuple vs)(hi:vs[i]?=some v):OpSem P ro (.extract x i) t h v h:=by
 refine .of_pure fun o a w μ ho hop H=>?_
 have hv:=hop x (by simp [Op.operands])
 rw [hx] at hv
 generalize hq:a.eval x=q at *
 cases hv with | tuple _ cs h1 h2=>
 obtain ⟨hlt,he⟩:=List.getElem?_eq_some_iff.1 hi
 have h3:=h2 i
 rw [show vs.getD i .undef=v by simp [List.getD_eq_getElem?_getD,hi],show cs.getD i Go.undef=cs[i] by simp [Array.getD,h1▸hlt]] at h3
 exact ⟨cs[i],by simp [execOp,ho,hq,Instr.extract,h1▸hlt],h3⟩
theorem q044 {x:Operand}{p:Place}(hx:evalO t x=.ptr p):OpSem P ro (.nilCheck x) t h (.ptr p) h:=by
 refine .of_pure fun o a w μ ho hop H=>?_
 have hv:=hop x (by simp [Op.operands])
 rw [hx] at hv
 obtain ⟨ad,hc⟩:=hv.ptr_c
 exact ⟨_,by simp [execOp,ho,hc],hc▸hv⟩
theorem q045 {x:Operand}{f:FuncId}{caps:List AV}(hx:evalO t x=.func f caps):OpSem P ro (.nilCheck x) t h (.func f caps) h:=by
 refine .of_pure fun o a w μ ho hop H=>?_
 have hv:=hop x (by simp [Op.operands])
 rw [hx] at hv
 generalize hq:a.eval x=q at *
 cases hv with | func _ _ cs h1 h2=>
 exact ⟨_,by simp [execOp,ho,hq],.func _ _ _ h1 h2⟩
theorem q046 {β:Type}{f:Operand->β}{l:List Operand}{i:Nat}{d:β}(hi:i<l.length):(l.map f).getD i d=f l[i]:=by
 simp [List.getD_eq_getElem?_getD,hi]
theorem q047 {μ:LMap}{a:Act}{l:Array Operand}(hx:∀ x,x∈l->VR h μ (evalO t x) (a.eval x)):
  (l.toList.map (evalO t)).length=(l.map a.eval).size∧∀ i,VR h μ ((l.toList.map (evalO t)).getD i .undef) ((l.map a.eval).getD i Go.undef):=by
 refine ⟨by simp,fun i=>?_⟩
 by_cases hi:i<l.size
 ·rw [q046 (by simpa using hi)]
  have:(l.map a.eval).getD i Go.undef=a.eval l[i]:=by simp [Array.getD,hi]
  rw [this]
  exact hx _ (by simp)
 ·have:(l.toList.map (evalO t)).getD i .undef=.undef:=by simp [List.getD_eq_getElem?_getD,hi]
  rw [this]
  exact .undef _
theorem q048 {f:FuncId}{first caps:Array Operand}(hf:first.toList.isEmpty=true):OpSem P ro (.makeFunc (.func f) first caps) t h (.func f (caps.toList.map (evalO t))) h:=by
 refine .of_pure fun o a w μ ho hop H=>?_
 have h0:first=#[]:=by
  have:first.toList=[]:=by simpa using hf
  exact Array.toList_eq_nil_iff.1 this
 subst h0
 obtain ⟨e1,e2⟩:=q047 (l:=caps) (a:=a) (μ:=μ) (h:=h) (t:=t) (fun x hx=>hop x (by simp [Op.operands,hx]))
 exact ⟨_,by simp [execOp,ho,Instr.makeFunc],.func _ _ _ e1 e2⟩
theorem q049 {t_:List AV}{op:BinOp}{t' t'':TypeId}{x y:Operand}{v:AV}
  (hb:∀ (h:Heap) (μ:LMap) (t:TypeId) (xo yo:Operand) (c d:Value) (w:World),VR h μ (evalO t_ x) c->VR h μ (evalO t_ y) d ->
   ∃ e,(do eqGuard op t xo yo c d;binOp op t c d:Sem Value).run P w=.ok e w∧VR h μ v e):OpSem P ro (.binOp op t' x y t'') t_ h v h:=by
 refine .of_pure fun o a w μ ho hop H=>?_
 obtain ⟨e,e1,e2⟩:=hb h μ t' x y _ _ w (hop x (by simp [Op.operands])) (hop y (by simp [Op.operands]))
 refine ⟨e,?_,e2⟩
 simp only [execOp,ho]
 rw [Sem.run_bind,e1]
 rfl
theorem q04a {op:UnOp}{t':TypeId}{x:Operand}{v:AV}(hb:∀ (h:Heap) (μ:LMap) (c:Value) (w:World),VR h μ (evalO t x) c->∃ e,(Op.unary op c).run P w=.ok e w∧VR h μ v e):
  OpSem P ro (.unOp op t' x) t h v h:=by
 refine .of_pure fun o a w μ ho hop H=>?_
 obtain ⟨e,e1,e2⟩:=hb h μ _ w (hop x (by simp [Op.operands]))
 exact ⟨e,by simp [execOp,ho,e1],e2⟩
theorem q04b {s d:TypeId}{x:Operand}{v:AV}(hb:∀ (h:Heap) (μ:LMap) (c:Value) (w:World),VR h μ (evalO t x) c->∃ e,(convert s d c).run P w=.ok e w∧VR h μ v e):
  OpSem P ro (.convert s d x) t h v h:=by
 refine .of_pure fun o a w μ ho hop H=>?_
 obtain ⟨e,e1,e2⟩:=hb h μ _ w (hop x (by simp [Op.operands]))
 exact ⟨e,by simp [execOp,ho,e1],e2⟩
end
end Go.AM
namespace Go.AM
section
variable {α:Type} {P:Program} {r:α} {ro:Nat} {op:Op} {t:List AV} {h:Heap}
theorem q04c:∀ (l:List AV) (o i q n:Nat),locate l o=some (i,q,n)->∃ seg,l[i]?=some seg∧segLen seg=n∧q<n∧lenOf (l.take i)+q=o
 | [],o,i,q,n,h=>by simp [locate] at h
 | s::l,o,i,q,n,h=>by
  simp only [locate] at h
  cases hc:Nat.blt o (segLen s) with
  | true=>
   simp only [hc,cond_true,Option.some.injEq,Prod.mk.injEq] at h
   obtain ⟨rfl,rfl,rfl⟩:=h
   rw [Nat.blt_eq] at hc
   exact ⟨s,rfl,rfl,hc,by simp [lenOf]⟩
  | false=>
   simp only [hc,cond_false] at h
   have hc:segLen s<=o:=by
    rcases Nat.lt_or_ge o (segLen s) with h | h
    ·rw [show Nat.blt o (segLen s)=true from by rw [Nat.blt_eq];exact h] at hc;cases hc
    ·exact h
   cases hr:locate l (o-segLen s) with
   | none=>simp [hr] at h
   | some x=>
    obtain ⟨i',q',n'⟩:=x
    simp only [hr,Option.some.injEq,Prod.mk.injEq] at h
    obtain ⟨rfl,rfl,rfl⟩:=h
    obtain ⟨seg,h1,h2,h3,h4⟩:=q04c l _ _ _ _ hr
    exact ⟨seg,by simpa using h1,h2,h3,by simp [lenOf] at h4 ⊢;omega⟩
theorem q04d {p:Place}{off:Nat}{same:Bool}{K:Place->Option α}(he:movePlace h p off same K=some r):
  ∃ q,K q=some r∧∀ (μ:LMap) (a:Addr),VR h μ (.ptr p) (.pointer (some a))->VR h μ (.ptr q) (.pointer (some (a.add off))):=by
 unfold movePlace at he
 rcases q007 he with ⟨_,hk⟩ | ⟨_,hk⟩
 ·refine ⟨_,hk,fun μ a hv=>?_⟩
  obtain ⟨a',L,e,h1,h2,h3⟩:=hv.ptr_inv
  cases e
  refine .ptr _ _ L h1 h2 fun e=>?_
  obtain ⟨k,base,room,h4,h5⟩:=h3 e
  exact ⟨k,base,room,h4,by rw [h5,q00q,q010];simp [Nat.add_assoc]⟩
 ·obtain ⟨hb,hk⟩:=q008 hk
  have hn:=Nat.eq_of_beq_eq_true hb
  split at hk
  ·rename_i i q n hloc
   obtain ⟨seg,g1,g2,g3,g4⟩:=q04c _ _ _ _ _ hloc
   refine ⟨_,hk,fun μ a hv=>?_⟩
   obtain ⟨L,k,base,room,q1,q2,rfl⟩:=q00w hv hn
   obtain ⟨ss,hb,hs,_⟩:=q00m q1
   have hd:blkD h p.b=ss:=q009 hb
   rw [hd] at g1 g4
   rw [List.getElem?_drop] at g1
   refine .ptr _ _ n (by simp [segLenAt,hb,g1,g2]) (Nat.le_refl _) fun _=>⟨k,base,room,q2,?_⟩
   rw [q00q,q00n (s:=p.s) hb,q00n (s:=p.s+i) hb]
   have:lenOf (ss.take (p.s+i))=lenOf (ss.take p.s)+lenOf ((ss.drop p.s).take i):=by
    rw [List.take_add,lenOf,lenOf,lenOf,List.map_append,List.sum_append]
   simp only [this]
   congr 1
   omega
  ·cases hk
theorem q04e {ty:TypeId}(h0:0<P.cellsOf ty):∀ w,(sizeOf ty).run P w=.ok (P.cellsOf ty) w:=by
 intro w
 cases hi:P.info? ty with
 | none=>simp [Program.cellsOf,hi] at h0
 | some i=>simp [sizeOf,typeInfo,hi,Program.cellsOf]
theorem q04f {ty:TypeId}{x:Operand}{f:Nat}{K:AV->Option α}(he:goFieldAddr P ty (evalO t x) f h K=some r):∃ v,K v=some r∧OpSem P ro (.fieldAddr ty x f) t h v h:=by
 unfold goFieldAddr at he
 split at he
 ·rename_i fs p hu hx
  split at he
  ·rename_i fd hf
   obtain ⟨hb,he⟩:=q008 he
   rw [Nat.blt_eq] at hb
   split at he
   ·obtain ⟨hb2,hk⟩:=q008 he
    refine ⟨_,hk,.of_pure fun o a w μ ho hop H=>?_⟩
    have hv:=hop x (by simp [Op.operands])
    rw [hx] at hv
    obtain ⟨ad,hc⟩:=hv.ptr_c
    rw [hc] at hv
    have hne:¬ P.cellsOf fd.type=0:=by omega
    refine ⟨.pointer (some (ad.add fd.offset)),?_,?_⟩
    ·simp [execOp,ho,Instr.fieldAt,run_underlying hu,hf,Instr.sureAddr,hc,fieldPlace,q04e hb,hne]
    ·obtain ⟨L,k,base,room,g1,g2,rfl⟩:=q00w hv (Nat.eq_of_beq_eq_true hb2)
     obtain ⟨_,_,_,hL⟩:=q00m g1
     have hb2:=Nat.eq_of_beq_eq_true hb2
     rw [q00q]
     exact .rptr p fd.offset _ L g1 (by omega) fun _=>⟨k,base,room,g2,rfl⟩
   ·obtain ⟨q,hk,hq⟩:=q04d he
    refine ⟨_,hk,.of_pure fun o a w μ ho hop H=>?_⟩
    have hv:=hop x (by simp [Op.operands])
    rw [hx] at hv
    obtain ⟨ad,hc⟩:=hv.ptr_c
    rw [hc] at hv
    refine ⟨_,?_,hq μ ad hv⟩
    have hne:¬ P.cellsOf fd.type=0:=by omega
    simp [execOp,ho,Instr.fieldAt,run_underlying hu,hf,Instr.sureAddr,hc,fieldPlace,q04e hb,hne]
  ·cases he
 ·cases he
theorem VR.slice_inv {μ:LMap}{p:Place}{len cap es:Nat}{ex:Bool}{c:Value}(hv:VR h μ (.slice p len cap es ex) c):
  ∃ a cap' L,c=.slice a len cap'∧segLenAt h p.b p.s=some L∧p.n<=L∧len<=cap ∧
   (p.n=L->cap<=cap'∧(ex=true->cap'=cap)∧((∃ k base room,μ p.b=.at k base room∧a=some ⟨k,base+segOff h p.b p.s+p.o,none⟩∧(ex=false->segOff h p.b p.s+p.o+cap'*es<=room))∨(μ p.b=.none∧a=none∧cap'=0))):=by
 cases hv with
 | slice _ _ _ _ _ a cap' L h1 h2 h3 h4=>exact ⟨a,cap',L,rfl,h1,h2,h3.1,h4⟩
theorem VR.slice_some {μ:LMap}{p:Place}{len cap es:Nat}{ex:Bool}{c:Value}(hv:VR h μ (.slice p len cap es ex) c):
  ∃ a cap',c=.slice a len cap'∧(0<cap->a≠none):=by
 cases hv with
 | slice _ _ _ _ _ a cap' L h1 h2 h3 h4=>exact ⟨a,cap',rfl,h3.2⟩
theorem q04g {ty:TypeId}{x i:Operand}{K:AV->Option α}(he:goIndexAddr P ty (evalO t x) (evalO t i) h K=some r):∃ v,K v=some r∧OpSem P ro (.indexAddr ty x i) t h v h:=by
 unfold goIndexAddr at he
 split at he
 case h_2=>cases he
 rename_i ki n hi
 split at he
 ·rename_i len e p hu hx
  obtain ⟨hb,he⟩:=q008 he
  simp only [Bool.and_eq_true,Nat.blt_eq,decide_eq_true_eq] at hb
  obtain ⟨q,hk,hq⟩:=q04d he
  refine ⟨_,hk,.of_pure fun o a w μ ho hop H=>?_⟩
  have hv:=hop x (by simp [Op.operands])
  have hw:=hop i (by simp [Op.operands])
  rw [hx] at hv
  rw [hi] at hw
  obtain ⟨ad,hc⟩:=hv.ptr_c
  rw [hc] at hv
  generalize hq2:a.eval i=ci at *
  cases hw with | int _ _ _=>
  refine ⟨_,?_,hq μ ad hv⟩
  simp [execOp,ho,Instr.indexAt,run_underlying hu,Instr.sureAddr,hc,hq2,asIntOf,q04e (show 0<P.cellsOf e from hb.1),hb.2,q011,elemSize]
 ·rename_i e p len cap es ex hu hx
  obtain ⟨hb,he⟩:=q008 he
  simp only [Bool.and_eq_true,Nat.blt_eq,decide_eq_true_eq] at hb
  obtain ⟨hn,hb⟩:=hb
  have hn:=Nat.eq_of_beq_eq_true hn
  obtain ⟨q,hk,hq⟩:=q04d he
  refine ⟨_,hk,.of_pure fun o a w μ ho hop H=>?_⟩
  have hv:=hop x (by simp [Op.operands])
  have hw:=hop i (by simp [Op.operands])
  rw [hx] at hv
  rw [hi] at hw
  obtain ⟨oa,cap',L,hc,g1,g2,g3,g4⟩:=hv.slice_inv
  generalize hq2:a.eval i=ci at *
  cases hw with | int _ _ _=>
  obtain ⟨_,_,_,hL⟩:=q00m g1
  obtain ⟨h5,_,h6⟩:=g4 (by omega)
  rcases h6 with ⟨k,base,room,h7,rfl,_⟩ | ⟨_,_,h8⟩
  ·refine ⟨_,?_,hq μ _ (.ptr p _ L g1 g2 fun _=>⟨k,base,room,h7,rfl⟩)⟩
   simp [execOp,ho,Instr.indexAt,run_underlying hu,hc,hq2,asIntOf,q04e (show 0<P.cellsOf e from hb.1),hb.2,q011,elemSize]
  ·omega
 ·cases he
theorem q04h {μ:LMap}{a:Act}{d:Int}{x:Option Operand}{n:Int}(hx:optInt d (x.map (evalO t))=some n)(hv:∀ y,x=some y->VR h μ (evalO t y) (a.eval y)):
  (x=none∧n=d)∨∃ y k,x=some y∧a.eval y=.int k n:=by
 cases x with
 | none=>simp only [Option.map_none,optInt,Option.some.injEq] at hx;exact .inl ⟨rfl,hx.symm⟩
 | some y=>
  right
  have:=hv y rfl
  simp only [Option.map_some] at hx
  generalize evalO t y=q at *
  cases q<;>simp only [optInt,reduceCtorEq,Option.some.injEq] at hx
  subst hx
  generalize hq:a.eval y=c at *
  cases this
  exact ⟨y,_,rfl,hq⟩
theorem q04i (k:IntKind)(i:Int)(y:Nat)(code:BoundsCode)(h0:0<=i)(h1:i<=y)(w:World):(Instr.sliceBound (.int k i) y code).run P w=.ok i.toNat w:=by
 simp [Instr.sliceBound,asIntOf,h0,h1]
theorem q04j {len cap:Nat}{lo hi mx:Option Operand}{K:Nat->Nat->Nat->Option α}(he:goSliceB len cap (lo.map (evalO t)) (hi.map (evalO t)) (mx.map (evalO t)) K=some r):
  ∃ l hh m,K l hh m=some r∧l<=hh∧hh<=m∧m<=cap∧(mx=none->m=cap)∧∀ (isS:Bool) (μ:LMap) (a:Act) (w:World) (cap':Nat),cap<=cap' ->
   (∀ y,lo=some y->VR h μ (evalO t y) (a.eval y))->(∀ y,hi=some y->VR h μ (evalO t y) (a.eval y))->(∀ y,mx=some y->VR h μ (evalO t y) (a.eval y))->(mx.isSome=true->hi.isSome=true) ->
   (Instr.sliceBounds isS len cap' (lo.map a.eval) (hi.map a.eval) (mx.map a.eval)).run P w=.ok (l,hh,if mx.isSome then m else cap') w:=by
 unfold goSliceB at he
 split at he
 ·rename_i m hh l hm hhh hl
  obtain ⟨hb,hk⟩:=q008 he
  simp only [Bool.and_eq_true,decide_eq_true_eq] at hb
  obtain ⟨⟨⟨b1,b2⟩,b3⟩,b4⟩:=hb
  refine ⟨_,_,_,hk,by omega,by omega,by omega,fun e=>?_,fun isS μ a w cap' hcap v1 v2 v3 hmh=>?_⟩
  ·subst e
   simp only [Option.map_none,optInt,Option.some.injEq] at hm
   omega
  ·have q3:=q04h hm v3
   have q2:=q04h hhh v2
   have q1:=q04h hl v1
   rcases q3 with ⟨rfl,rfl⟩ | ⟨y3,k3,rfl,e3⟩
   ·rcases q2 with ⟨rfl,rfl⟩ | ⟨y2,k2,rfl,e2⟩
    ·rcases q1 with ⟨rfl,rfl⟩ | ⟨y1,k1,rfl,e1⟩
     ·simp [Instr.sliceBounds]
     ·simp [Instr.sliceBounds,e1,q04i (P:=P) k1 l _ _ b1 (by omega)]
    ·rcases q1 with ⟨rfl,rfl⟩ | ⟨y1,k1,rfl,e1⟩
     ·simp [Instr.sliceBounds,e2,q04i (P:=P) k2 hh _ _ (by omega) (by omega:hh<=(cap':Int))]
     ·simp [Instr.sliceBounds,e1,e2,q04i (P:=P) k2 hh _ _ (by omega) (by omega:hh<=(cap':Int)),q04i (P:=P) k1 l hh.toNat _ b1 (by omega)]
   ·rcases q2 with ⟨rfl,rfl⟩ | ⟨y2,k2,rfl,e2⟩
    ·simp at hmh
    ·rcases q1 with ⟨rfl,rfl⟩ | ⟨y1,k1,rfl,e1⟩
     ·simp [Instr.sliceBounds,e2,e3,q04i (P:=P) k3 m _ _ (by omega) (by omega:m<=(cap':Int)),q04i (P:=P) k2 hh m.toNat _ (by omega) (by omega)]
     ·simp [Instr.sliceBounds,e1,e2,e3,q04i (P:=P) k3 m _ _ (by omega) (by omega:m<=(cap':Int)),q04i (P:=P) k2 hh m.toNat _ (by omega) (by omega),q04i (P:=P) k1 l hh.toNat _ b1 (by omega)]
 ·cases he
theorem q04k (m l k:Nat):offS m l k=cond (Nat.beq m l) 0 (mulS l k):=by
 cases l with
 | zero=>rw [q011,Nat.zero_mul];simp [offS]
 | succ l=>rfl
theorem q04l {ty:TypeId}{x:Operand}{lo hi mx:Option Operand}{K:AV->Option α}(hmh:mx.isSome=true->hi.isSome=true)
  (he:goSlice P ty (evalO t x) (lo.map (evalO t)) (hi.map (evalO t)) (mx.map (evalO t)) h K=some r):∃ v,K v=some r∧OpSem P ro (.slice ty x lo hi mx) t h v h:=by
 have ops:∀ {μ:LMap} {a:Act},(∀ y,y∈(Op.slice ty x lo hi mx).operands->VR h μ (evalO t y) (a.eval y))->VR h μ (evalO t x) (a.eval x) ∧
   (∀ y,lo=some y->VR h μ (evalO t y) (a.eval y))∧(∀ y,hi=some y->VR h μ (evalO t y) (a.eval y))∧(∀ y,mx=some y->VR h μ (evalO t y) (a.eval y)):=by
  intro μ a hop
  refine ⟨hop x (by simp [Op.operands]),fun y e=>hop y (by subst e;simp [Op.operands]),fun y e=>hop y (by subst e;simp [Op.operands]),fun y e=>hop y (by subst e;simp [Op.operands])⟩
 unfold goSlice at he
 simp only [q04k] at he
 split at he
 ·rename_i n e hu
  split at he
  ·rename_i p hx
   obtain ⟨hb,he⟩:=q008 he
   rw [Nat.blt_eq] at hb
   obtain ⟨l,hh,m,hk,h1,h2,h3,h4,hrun⟩:=q04j (P:=P) he
   refine ⟨_,hk,.of_pure fun o a w μ ho hop H=>?_⟩
   obtain ⟨hv,v1,v2,v3⟩:=ops hop
   rw [hx] at hv
   obtain ⟨ad,hc⟩:=hv.ptr_c
   rw [hc] at hv
   obtain ⟨a',L,e',g1,g2,g3⟩:=hv.ptr_inv
   cases e'
   have hr:=hrun false μ a w n (Nat.le_refl _) v1 v2 v3 hmh
   have hm:(if mx.isSome then m else n)=m:=by
    split
    ·rfl
    ·rename_i hq
     exact (h4 (by simpa using hq)).symm
   rw [hm] at hr
   refine ⟨.slice (some (if m=l then ad else ad.add (l*P.cellsOf e))) (hh-l) (m-l),?_,.slice _ _ _ _ _ _ _ L g1 g2 ⟨by omega,fun _ e=>by cases e⟩ fun e2=>⟨Nat.le_refl _,fun _=>rfl,.inl ?_⟩⟩
   ·simp [execOp,ho,Instr.sliceAt,run_underlying hu,Instr.sureAddr,hc,hr,q04e (show 0<P.cellsOf e from hb)]
   ·obtain ⟨k,base,room,q1,rfl⟩:=g3 e2
    refine ⟨k,base,room,q1,?_,fun e=>by cases e⟩
    by_cases hml:m=l
    ·rw [if_pos hml,show Nat.beq m l=true from by rw [hml];exact Nat.beq_refl l,cond_true,q010]
     rfl
    ·rw [if_neg hml,q01f hml,cond_false,q010,q011,q00q]
     simp [elemSize,Nat.add_assoc]
  ·cases he
 ·rename_i e hu
  split at he
  ·rename_i p len cap es ex hx
   obtain ⟨hb,he⟩:=q008 he
   simp only [Bool.and_eq_true,Nat.blt_eq] at hb
   obtain ⟨hn,hb⟩:=hb
   have hn:=Nat.eq_of_beq_eq_true hn
   have hes:=Nat.eq_of_beq_eq_true hb.2
   obtain ⟨l,hh,m,hk,h1,h2,h3,h4,hrun⟩:=q04j (P:=P) he
   have main:∀ (o:Oper) (a:Act) (w:World) (μ:LMap),o.op=.slice ty x lo hi mx->(∀ y,y∈(Op.slice ty x lo hi mx).operands->VR h μ (evalO t y) (a.eval y)) ->
     ∃ oa cap' L,segLenAt h p.b p.s=some L∧p.n=L∧len<=cap∧cap<=cap'∧(ex=true->cap'=cap) ∧
     ((∃ k base room,μ p.b=.at k base room∧oa=some ⟨k,base+segOff h p.b p.s+p.o,none⟩∧(ex=false->segOff h p.b p.s+p.o+cap'*es<=room))∨(μ p.b=.none∧oa=none∧cap'=0)) ∧
     (execOp a.eval o).run P w=.ok (.value (.slice (if (if mx.isSome then m else cap')=l then oa else oa.map (·.add (l*P.cellsOf e))) (hh-l) ((if mx.isSome then m else cap')-l))) w:=by
    intro o a w μ ho hop
    obtain ⟨hv,v1,v2,v3⟩:=ops hop
    rw [hx] at hv
    obtain ⟨oa,cap',L,hc,g1,g2,g3,g4⟩:=hv.slice_inv
    obtain ⟨_,_,_,hL⟩:=q00m g1
    have hnL:p.n=L:=by omega
    obtain ⟨q1,q2,q3⟩:=g4 hnL
    refine ⟨oa,cap',L,g1,hnL,g3,q1,q2,q3,?_⟩
    have hr:=hrun true μ a w cap' q1 v1 v2 v3 hmh
    simp [execOp,ho,Instr.sliceAt,Instr.slice,run_underlying hu,hc,hr,q04e (show 0<P.cellsOf e from hb.1)]
   have place:∀ (oa:Option Addr) (mm:Nat) (μ:LMap),(∃ k base room,μ p.b=.at k base room∧oa=some ⟨k,base+segOff h p.b p.s+p.o,none⟩)->mm=m∨(¬ m=l∧¬ mm=l) ->
     ∃ k base room,μ p.b=.at k base room∧(if mm=l then oa else oa.map (·.add (l*P.cellsOf e)))=some ⟨k,base+segOff h p.b p.s+(addO p.o (cond (Nat.beq m l) 0 (mulS l es))),none⟩:=by
    intro oa mm μ ⟨k,base,room,q1,q2⟩ hmm
    refine ⟨k,base,room,q1,?_⟩
    subst q2
    by_cases hml:m=l
    ·have:mm=l:=by
      rcases hmm with e | ⟨e,_⟩
      ·rw [e,hml]
      ·exact absurd hml e
     rw [if_pos this,show Nat.beq m l=true from by rw [hml];exact Nat.beq_refl l,cond_true,q010]
     rfl
    ·have:¬ mm=l:=by
      rcases hmm with e | ⟨_,e⟩
      ·rw [e];exact hml
      ·exact e
     rw [if_neg this,q01f hml,cond_false,q010,q011,Option.map_some,q00q,hes]
     simp [elemSize,Nat.add_assoc]
   have hmx:(Option.map (evalO t) mx).isSome=mx.isSome:=by cases mx<;>rfl
   rcases q007 hk with ⟨hl0,hk⟩ | ⟨hl0,hk⟩
   ·have hl0:=Nat.eq_of_beq_eq_true hl0
    subst hl0
    refine ⟨_,hk,.of_pure fun o a w μ ho hop H=>?_⟩
    obtain ⟨oa,cap',L,g1,g2,g3,g4,g5,g6,hr⟩:=main o a w μ ho hop
    rw [hmx]
    have ho2:∀ q:Nat,(if q=0 then oa else oa.map (·.add (0*P.cellsOf e)))=oa:=fun q=>by
     split
     ·rfl
     ·cases oa with
      | none=>rfl
      | some ad=>simp [Addr.add]
    rw [ho2] at hr
    have hm:mx.isSome=false->m=cap:=fun hq=>h4 (by simpa using hq)
    refine ⟨_,hr,.slice _ _ _ _ _ _ _ L g1 (show p.n<=L from by omega) ⟨by omega,fun hm0=>by rcases g6 with ⟨_,_,_,_,q2,_⟩ | ⟨_,_,q3⟩;(subst q2;simp);omega⟩ fun _=>⟨?_,fun he=>?_,?_⟩⟩
    ·cases hq:mx.isSome with
     | true=>simp
     | false=>have:=hm hq;simp;omega
    ·cases hq:mx.isSome with
     | true=>simp
     | false=>rw [hq] at he;have:=hm hq;simp at he ⊢;rw [g5 he,this]
    ·rcases g6 with ⟨k,base,room,q1,q2,q3⟩ | ⟨q1,q2,q3⟩
     ·refine .inl ⟨k,base,room,q1,q2,fun he=>?_⟩
      cases hq:mx.isSome with
      | true=>rw [hq] at he;simp at he
      | false=>rw [hq] at he;simp at he ⊢;exact q3 he
     ·refine .inr ⟨q1,q2,?_⟩
      cases hq:mx.isSome with
      | true=>simp;omega
      | false=>simp;omega
   rcases q007 hk with ⟨hc,hk⟩ | ⟨hc,hk⟩
   ·simp only [Bool.or_eq_true,Nat.blt_eq] at hc
    refine ⟨_,hk,.of_pure fun o a w μ ho hop H=>?_⟩
    obtain ⟨oa,cap',L,g1,g2,g3,g4,g5,g6,hr⟩:=main o a w μ ho hop
    refine ⟨_,hr,.slice _ _ _ _ _ _ _ L g1 (show p.n<=L from by omega) ⟨by omega,fun hm0=>by rcases g6 with ⟨_,_,_,_,q2,_⟩ | ⟨_,_,q3⟩;(subst q2;generalize (if mx.isSome=true then m else cap')=q;split<;>simp);omega⟩ fun _=>?_⟩
    rw [hmx] at hc ⊢
    have hmm:(if mx.isSome then m else cap')=m∨(ex=false∧mx=none∧l<m∧(if mx.isSome then m else cap')=cap'∧m=cap):=by
     cases mx with
     | some _=>exact .inl rfl
     | none=>
      have:=h4 rfl
      cases ex with
      | true=>left;simp [g5 rfl,this]
      | false=>right;refine ⟨rfl,rfl,?_,by simp,this⟩;simpa using hc
    refine ⟨?_,fun he=>?_,?_⟩
    ·rcases hmm with e | ⟨_,_,_,e,e2⟩
     ·rw [e];exact Nat.le_refl _
     ·rw [e];omega
    ·rcases hmm with e | ⟨e1,e2,_,_,_⟩
     ·rw [e]
     ·subst e2;simp [e1] at he
    ·rcases g6 with ⟨k,base,room,q1,q2,q3⟩ | ⟨q1,q2,q3⟩
     ·left
      obtain ⟨k',base',room',p1,p2⟩:=place oa (if mx.isSome then m else cap') μ ⟨k,base,room,q1,q2⟩ (by
       rcases hmm with e | ⟨_,_,e1,e2,e3⟩
       ·exact .inl e
       ·right;rw [e2];omega)
      refine ⟨k',base',room',p1,p2,fun he=>?_⟩
      rw [p1] at q1
      cases q1
      rcases hmm with e | ⟨e1,e2,e3,e4,e5⟩
      ·have hxf:ex=false:=by
        cases ex with
        | false=>rfl
        | true=>simp at he
       have hmn:mx.isSome=false:=by
        cases mx with
        | none=>rfl
        | some _=>simp at he
       rw [hmn] at e hc ⊢
       have:=q3 hxf
       have hlm:l<m:=by
        rcases hc with (hc | hc) | hc
        ·rw [hxf] at hc;cases hc
        ·cases hc
        ·exact hc
       simp only [Bool.false_eq_true,if_false] at e ⊢
       rw [q01f (by omega),cond_false,q010,q011,e]
       have e9:l*es+(m-l)*es=m*es:=by rw [<- Nat.add_mul];congr 1;omega
       rw [e] at this
       show segOff h p.b p.s+(p.o+l*es)+(m-l)*es<=room
       omega
      ·have:=q3 e1
       rw [e4,q01f (by omega),cond_false,q010,q011]
       have e9:l*es+(cap'-l)*es=cap'*es:=by rw [<- Nat.add_mul];congr 1;omega
       show segOff h p.b p.s+(p.o+l*es)+(cap'-l)*es<=room
       omega
     ·right
      subst q2
      refine ⟨q1,by generalize (if mx.isSome=true then m else cap')=q;split<;>rfl,?_⟩
      rcases hmm with e | ⟨_,_,_,e,e2⟩
      ·rw [e];omega
      ·rw [e];omega
   ·obtain ⟨hp,hk⟩:=q008 hk
    rw [Nat.blt_eq] at hp
    have hlm:¬ l<m:=fun e=>by
     rw [show Nat.blt l m=true from by rw [Nat.blt_eq];exact e] at hc
     simp at hc
    refine ⟨_,hk,.of_pure fun o a w μ ho hop H=>?_⟩
    obtain ⟨oa,cap',L,g1,g2,g3,g4,g5,g6,hr⟩:=main o a w μ ho hop
    exact ⟨_,hr,.slice _ _ _ _ _ _ _ L g1 (show p.n-1<=L from by omega) ⟨by omega,fun hm0=>by omega⟩ fun e=>absurd e (show p.n-1≠L from by omega)⟩
  ·rename_i hx
   obtain ⟨hb,he⟩:=q008 he
   rw [Nat.blt_eq] at hb
   obtain ⟨l,hh,m,hk,h1,h2,h3,h4,hrun⟩:=q04j (P:=P) he
   refine ⟨_,hk,.of_pure fun o a w μ ho hop H=>?_⟩
   obtain ⟨hv,v1,v2,v3⟩:=ops hop
   rw [hx] at hv
   generalize hc:a.eval x=q at *
   cases hv
   have hr:=hrun true μ a w 0 (Nat.le_refl _) v1 v2 v3 hmh
   obtain rfl:m=0:=by omega
   obtain rfl:hh=0:=by omega
   obtain rfl:l=0:=by omega
   refine ⟨_,?_,.nils⟩
   cases hq:mx.isSome<;>simp [execOp,ho,Instr.sliceAt,Instr.slice,run_underlying hu,hc,hr,hq,q04e (show 0<P.cellsOf e from hb)]
  ·cases he
 ·cases he
end
end Go.AM
namespace Go.AM
section
variable {α:Type} {r:α} {ro:Nat} {h:Heap}
theorem q04m {x:Blk}{k:IntKind}{xs:List Int}(hx:rowNums x=some (k,xs)):∃ seg,x=[seg]∧isPool x=false∧segVals seg=xs.map (.int k)∧segLen seg=xs.length:=by
 unfold rowNums at hx
 split at hx
 ·cases hx
  exact ⟨_,rfl,rfl,rfl,rfl⟩
 ·cases hx
  refine ⟨_,rfl,rfl,?_,by simp [segLen]⟩
  simp [segValsOf,Function.comp_def]
 ·cases hx
theorem q04n {b:Nat}{x:Blk}(hx:h.getD b []=x)(hne:x≠[]):h[b]?=some x:=by
 rw [List.getD_eq_getElem?_getD] at hx
 cases hb:h[b]? with
 | none=>rw [hb] at hx;exact absurd hx.symm hne
 | some y=>rw [hb] at hx;simp only [Option.getD_some] at hx;rw [hx]
theorem q04o {pb:Nat}{k:IntKind}{rows:List (List Int)}(hp:poolOf (h.getD pb [])=some (k,rows)):h[pb]?=some [.pool k rows]:=by
 exact q04n (q00f hp) (by simp)
theorem q04p {pb:Nat}{k:IntKind}{rows:List (List Int)}{xs:List Int}(hp:h[pb]?=some [.pool k rows])(κ:Key):
  blk? (h.set pb [.pool k (rows++[xs])]) κ=if κ=rowK pb rows.length then some [.vec k xs] else blk? h κ:=by
 have hlt:=(List.getElem?_eq_some_iff.1 hp).1
 by_cases hb:κ.b=pb
 ·have hs:(h.set pb [.pool k (rows++[xs])])[κ.b]?=some [.pool k (rows++[xs])]:=by rw [hb,List.getElem?_set,if_pos rfl,if_pos hlt]
  obtain ⟨kb,kr⟩:=κ
  simp only at hb hs
  subst hb
  cases kr with
  | zero=>
   rw [if_neg (by intro e;injection e with _ e;omega)]
   simp only [blk?,hs,hp,isPool,cond_true]
  | succ q=>
   simp only [blk?,hs,hp,poolOf]
   by_cases hq:q=rows.length
   ·subst hq
    rw [if_pos rfl]
    simp
   ·rw [if_neg (by intro e;injection e with _ e;omega)]
    rcases Nat.lt_or_ge q rows.length with hl | hl
    ·rw [List.getElem?_append_left hl]
    ·rw [List.getElem?_eq_none (by simp;omega),List.getElem?_eq_none (by omega)]
 ·rw [if_neg (by rintro rfl;exact hb rfl)]
  exact q00k rfl (by rw [List.getElem?_set,if_neg (Ne.symm hb)])
theorem q04q {pb:Nat}{k:IntKind}{rows:List (List Int)}(hp:h[pb]?=some [.pool k rows]):blk? h (rowK pb rows.length)=none:=by
 simp [blk?,hp,poolOf]
def Ghost (ro:Nat)(h:Heap)(v:AV)(h':Heap)(v':AV):Prop:=
 ∀ (μ:LMap) (w:World),HR ro h μ w->∃ μ',HR ro h' μ' w∧Ext ro h μ w h' μ' w∧∀ c,VR h μ v c->VR h' μ' v' c
theorem q04r {pb:Nat}{k:IntKind}{rows:List (List Int)}(hp:h[pb]?=some [.pool k rows])(hro:ro<=pb):Ghost ro h .nils (h.set pb [.pool k (rows++[[]])]) (idCell pb (rows.length,0)):=by
 intro μ w H
 have hget:=q04p (h:=h) (xs:=[]) hp
 have hnone:=q04q hp
 have hne:∀ {κ:Key},has h κ->κ≠rowK pb rows.length:=fun ⟨sb,hb⟩ e=>by rw [e,hnone] at hb;cases hb
 generalize hh:h.set pb [.pool k (rows++[[]])]=h' at hget ⊢
 have hlen:h'.length=h.length:=by rw [<- hh];simp
 generalize hmu:(fun κ:Key=>if κ=rowK pb rows.length then Loc.none else μ κ)=μ'
 have m1:μ' (rowK pb rows.length)=.none:=by rw [<- hmu];exact if_pos rfl
 have m2:∀ κ,κ≠rowK pb rows.length->μ' κ=μ κ:=fun κ hκ=>by rw [<- hmu];exact if_neg hκ
 have hcase:∀ {κ:Key} {sb:Blk},blk? h' κ=some sb->(κ=rowK pb rows.length∧sb=[.vec k []])∨(κ≠rowK pb rows.length∧blk? h κ=some sb):=fun {κ sb} hb=>by
  rw [hget] at hb
  split at hb
  ·rename_i e;cases hb;exact .inl ⟨e,rfl⟩
  ·rename_i e;exact .inr ⟨e,hb⟩
 have hle:Le h μ h' μ':=⟨fun b s L hl=>by
  have hb:=hne (q03h hl)
  refine ⟨L,?_,Nat.le_refl _,fun _=>⟨?_,fun _=>m2 b hb⟩⟩
  ·unfold segLenAt at *;rw [hget,if_neg hb];exact hl
  ·unfold segOff;rw [q00a (q03h hl) (by rw [hget,if_neg hb])]⟩
 refine ⟨μ',⟨fun b sb hb hm=>?_,fun b sb k' base room hb hm=>?_,fun b b' k' base room base' room' h1 ⟨sb,h2⟩ ⟨sb',h3⟩ h4 h5 h6=>?_,fun b sb hb i v hvi=>?_,by rw [hlen];exact H.rol⟩,
  ⟨hle,rfl,rfl,rfl,Nat.le_refl _,by rw [hlen];exact Nat.le_refl _,fun _ _ _=>rfl,fun b h1 h2=>⟨by rw [<- hh,List.getElem?_set,if_neg (by omega)],fun r=>m2 _ (by intro e;injection e with e _;omega)⟩,fun b k' base room ⟨sb,h1⟩ h2=>?_,fun _=>rfl⟩,fun c hc=>?_⟩
 ·rcases hcase hb with ⟨rfl,rfl⟩ | ⟨e,hb⟩
  ·rfl
  ·rw [m2 b e] at hm;exact H.nil_ b sb hb hm
 ·rcases hcase hb with ⟨rfl,rfl⟩ | ⟨e,hb⟩
  ·rw [m1] at hm;cases hm
  ·rw [m2 b e] at hm
   obtain ⟨q1,q2,q3,q4⟩:=H.at_ b sb k' base room hb hm
   exact ⟨q1,q2,q3,fun i v hv=>(q4 i v hv).imp fun c ⟨e1,e2,e3⟩=>⟨e1,e2,e3.mono hle⟩⟩
 ·rcases hcase h2 with ⟨rfl,rfl⟩ | ⟨e,g2⟩
  ·rw [m1] at h5;cases h5
  ·rw [m2 b e] at h5
   rcases hcase h3 with ⟨rfl,rfl⟩ | ⟨e',g3⟩
   ·rw [m1] at h6;cases h6
   ·rw [m2 b' e'] at h6
    exact H.inj b b' k' base room base' room' h1 ⟨_,g2⟩ ⟨_,g3⟩ h4 h5 h6
 ·rcases hcase hb with ⟨rfl,rfl⟩ | ⟨e,hb⟩
  ·simp [flat,segValsOf] at hvi
  ·exact hle.inScope (H.scope b sb hb i v hvi)
 ·rcases hcase h1 with ⟨rfl,rfl⟩ | ⟨e,g1⟩
  ·rw [m1] at h2;cases h2
  ·rw [m2 b e] at h2
   exact .inl ⟨b,base,room,⟨_,g1⟩,h2,.inr rfl⟩
 ·cases hc
  refine .slice _ 0 0 1 false none 0 0 ?_ (Nat.le_refl _) ⟨Nat.le_refl _,fun e=>absurd e (Nat.lt_irrefl _)⟩ fun _=>⟨Nat.le_refl _,fun e=>(by cases e),.inr ⟨m1,rfl,rfl⟩⟩
  simp [segLenAt,hget,segLen]
theorem q04s {pb r1 len cap es:Nat}{ex:Bool}{q:Place}(e0:q.b=rowK pb r1)(e1:q.s=0)(e2:q.o=0)(e3:len=q.n)(e4:es=1)(e5:cap=len):Ghost ro h (.slice q len cap es ex) h (idCell pb (r1,len)):=by
 intro μ w H
 refine ⟨μ,H,.refl _ _ _ _,fun c hc=>?_⟩
 obtain ⟨qb,qs,qo,qn⟩:=q
 simp only at e0 e1 e2 e3
 subst e0 e1 e2 e3 e4 e5
 have hs:=hc.slice_some
 obtain ⟨a,cap',L,rfl,g1,g2,_,g4⟩:=hc.slice_inv
 obtain ⟨_,_,hh,hs⟩:=hs
 cases hh
 refine .slice _ _ _ 1 false a cap' L g1 g2 ⟨Nat.le_refl _,hs⟩ fun e=>?_
 obtain ⟨h5,h6,h7⟩:=g4 e
 refine ⟨h5,(fun e=>by cases e),?_⟩
 rcases h7 with ⟨k,base,room,h8,h9,h10⟩ | h7
 ·refine .inl ⟨k,base,room,h8,h9,fun _=>?_⟩
  cases ex with
  | false=>exact h10 rfl
  | true=>
   have hcap:cap'=cap:=h6 rfl
   have e':cap=L:=e
   obtain ⟨ss,f1,f2,f3⟩:=q00m g1
   have f4:=(H.at_ _ ss k base room f1 h8).2.1
   have f5:lenOf (ss.take 0)=0:=rfl
   have f6:segOff h (rowK pb r1) 0=0:=by rw [q00n f1];rfl
   rw [q002] at f4
   have f7:L<=lenOf ss:=by
    have:=q00o f2
    rw [List.drop_zero] at this
    rw [this,<- f3]
    simp [lenOf]
   simp only
   rw [f6]
   omega
 ·exact .inr h7
theorem q04t {pb:Nat}{k k':IntKind}{rows:List (List Int)}{xs:List Int}{x:Blk}{q:Place}{len cap es:Nat}{ex:Bool}(hp:h[pb]?=some [.pool k rows])(hx:h[q.b.b]?=some x)(hn:rowNums x=some (k',xs))
  (e0:q.b.r=0) (hro:ro<=pb) (hro2:ro<=q.b.b) (hkk:k=k') (e1:q.s=0) (e2:q.o=0) (e3:q.n=xs.length) (e4:len=q.n) (e5:cap=len) (e6:es=1) (hne:q.b.b≠pb):
  Ghost ro h (.slice q len cap es ex) ((h.set q.b.b [.vec k' (xs++[0])]).set pb [.pool k (rows++[xs])]) (idCell pb (rows.length,len)):=by
 intro μ w H
 obtain ⟨seg,rfl,hpl,hsv,hsl⟩:=q04m hn
 obtain ⟨⟨qb,qr⟩,qs,qo,qn⟩:=q
 simp only at e0 e1 e2 e3 e4 hx hro2 hne
 subst e0 e1 e2 e3 e4 e5 e6 hkk
 have hlt:=(List.getElem?_eq_some_iff.1 hx).1
 have hold:blk? h (topK qb)=some [seg]:=q00e hpl hx
 have hp1:(h.set qb [.vec k (xs++[0])])[pb]?=some [.pool k rows]:=by rw [List.getElem?_set,if_neg hne];exact hp
 have hget1:=q04p (h:=h.set qb [.vec k (xs++[0])]) (xs:=xs) hp1
 have hset:setB h (topK qb) [.vec k (xs++[0])]=h.set qb [.vec k (xs++[0])]:=rfl
 have hget2:=q01i hold (x:=[.vec k (xs++[0])]) (.inl ⟨rfl,rfl⟩)
 rw [hset] at hget2
 have hnone:blk? h (rowK pb rows.length)=none:=q04q hp
 have hne2:topK qb≠rowK pb rows.length:=by intro e;injection e with _ e;omega
 generalize hh:(h.set qb [.vec k (xs++[0])]).set pb [.pool k (rows++[xs])]=h' at hget1 ⊢
 have hlen:h'.length=h.length:=by rw [<- hh];simp
 have hcase:∀ {κ:Key} {sb:Blk},blk? h' κ=some sb->(κ=rowK pb rows.length∧sb=[.vec k xs])∨(κ=topK qb∧sb=[.vec k (xs++[0])])∨(κ≠rowK pb rows.length∧κ≠topK qb∧blk? h κ=some sb):=fun {κ sb} hb=>by
  rw [hget1] at hb
  split at hb
  ·rename_i e;cases hb;exact .inl ⟨e,rfl⟩
  ·rename_i e
   rw [hget2] at hb
   split at hb
   ·rename_i e';cases hb;exact .inr (.inl ⟨e',rfl⟩)
   ·rename_i e';exact .inr (.inr ⟨e,e',hb⟩)
 have hsame:∀ {κ:Key},κ≠rowK pb rows.length->κ≠topK qb->blk? h' κ=blk? h κ:=fun {κ} a b=>by rw [hget1,if_neg a,hget2,if_neg b]
 have hrow:blk? h' (rowK pb rows.length)=some [.vec k xs]:=by rw [hget1,if_pos rfl]
 have hblk:blk? h' (topK qb)=some [.vec k (xs++[0])]:=by rw [hget1,if_neg hne2,hget2,if_pos rfl]
 generalize hmu:(fun κ:Key=>if κ=topK qb then Loc.absent else if κ=rowK pb rows.length then μ (topK qb) else μ κ)=μ'
 have m0:μ' (topK qb)=.absent:=by rw [<- hmu];exact if_pos rfl
 have m1:μ' (rowK pb rows.length)=μ (topK qb):=by rw [<- hmu];simp only [if_neg (Ne.symm hne2),if_true]
 have m2:∀ κ,κ≠rowK pb rows.length->κ≠topK qb->μ' κ=μ κ:=fun κ hκ hκ2=>by rw [<- hmu];simp only;rw [if_neg hκ2,if_neg hκ]
 have hle:Le h μ h' μ':=⟨fun b s L hl=>by
  have hb:b≠rowK pb rows.length:=by rintro rfl;obtain ⟨sb,hb⟩:=q03h hl;rw [hnone] at hb;cases hb
  by_cases hb2:b=topK qb
  ·subst hb2
   unfold segLenAt at hl ⊢
   rw [hold] at hl
   rw [hblk]
   cases s with
   | zero=>
    simp only [Option.bind_some,List.getElem?_cons_zero,Option.map_some,Option.some.injEq] at hl
    refine ⟨xs.length+1,by simp [segLen],by omega,fun e=>by omega⟩
   | succ s=>simp at hl
  ·refine ⟨L,?_,Nat.le_refl _,fun _=>⟨?_,fun _=>m2 b hb hb2⟩⟩
   ·unfold segLenAt at *;rw [hsame hb hb2];exact hl
   ·unfold segOff;rw [q00a (q03h hl) (hsame hb hb2)]⟩
 have hflat:flat [seg]=flat [AV.vec k xs]:=by simp [flat,hsv,segValsOf]
 refine ⟨μ',⟨fun b sb hb hm=>?_,fun b sb k' base room hb hm=>?_,fun b b' k' base room base' room' h1 ⟨sb,h2⟩ ⟨sb',h3⟩ h4 h5 h6=>?_,fun b sb hb i v hvi=>?_,by rw [hlen];exact H.rol⟩,
  ⟨hle,rfl,rfl,rfl,Nat.le_refl _,by rw [hlen];exact Nat.le_refl _,fun _ _ _=>rfl,fun b h1 h2=>⟨by rw [<- hh,List.getElem?_set,if_neg (by omega),List.getElem?_set,if_neg (by omega)],fun r=>m2 _ (by intro e;injection e with e _;omega) (by intro e;injection e with e _;omega)⟩,fun b k' base room ⟨sb,h1⟩ h2=>?_,fun _=>rfl⟩,fun c hc=>?_⟩
 ·rcases hcase hb with ⟨rfl,rfl⟩ | ⟨rfl,rfl⟩ | ⟨e,e',hb⟩
  ·rw [m1] at hm
   rw [<- hflat];exact H.nil_ _ _ hold hm
  ·rw [m0] at hm;cases hm
  ·rw [m2 b e e'] at hm;exact H.nil_ b sb hb hm
 ·rcases hcase hb with ⟨rfl,rfl⟩ | ⟨rfl,rfl⟩ | ⟨e,e',hb⟩
  ·rw [m1] at hm
   obtain ⟨q1,q2,q3,q4⟩:=H.at_ _ _ k' base room hold hm
   rw [hflat] at q2 q4
   exact ⟨q1,q2,q3,fun i v hv=>(q4 i v hv).imp fun c ⟨e1,e2,e3⟩=>⟨e1,e2,e3.mono hle⟩⟩
  ·rw [m0] at hm;cases hm
  ·rw [m2 b e e'] at hm
   obtain ⟨q1,q2,q3,q4⟩:=H.at_ b sb k' base room hb hm
   exact ⟨q1,q2,q3,fun i v hv=>(q4 i v hv).imp fun c ⟨e1,e2,e3⟩=>⟨e1,e2,e3.mono hle⟩⟩
 ·rcases hcase h2 with ⟨rfl,rfl⟩ | ⟨rfl,rfl⟩ | ⟨e,e',g2⟩
  ·rw [m1] at h5
   rcases hcase h3 with ⟨rfl,rfl⟩ | ⟨rfl,rfl⟩ | ⟨f,f',g3⟩
   ·exact absurd rfl h4
   ·rw [m0] at h6;cases h6
   ·rw [m2 b' f f'] at h6
    exact H.inj _ b' k' base room base' room' hro2 ⟨_,hold⟩ ⟨_,g3⟩ (Ne.symm f') h5 h6
  ·rw [m0] at h5;cases h5
  ·rw [m2 b e e'] at h5
   rcases hcase h3 with ⟨rfl,rfl⟩ | ⟨rfl,rfl⟩ | ⟨f,f',g3⟩
   ·rw [m1] at h6
    exact H.inj b _ k' base room base' room' h1 ⟨_,g2⟩ ⟨_,hold⟩ e' h5 h6
   ·rw [m0] at h6;cases h6
   ·rw [m2 b' f f'] at h6
    exact H.inj b b' k' base room base' room' h1 ⟨_,g2⟩ ⟨_,g3⟩ h4 h5 h6
 ·rcases hcase hb with ⟨rfl,rfl⟩ | ⟨rfl,rfl⟩ | ⟨e,e',hb⟩
  ·rw [<- hflat] at hvi
   exact hle.inScope (H.scope _ _ hold i v hvi)
  ·simp only [flat,List.flatMap_cons,List.flatMap_nil,List.append_nil,segVals,segValsOf,List.getElem?_map] at hvi
   cases hq:(xs++[0])[i]? with
   | none=>rw [hq] at hvi;cases hvi
   | some n=>rw [hq] at hvi;cases hvi;exact .int _ _
  ·exact hle.inScope (H.scope b sb hb i v hvi)
 ·rcases hcase h1 with ⟨rfl,rfl⟩ | ⟨rfl,rfl⟩ | ⟨e,e',g1⟩
  ·rw [m1] at h2
   exact .inl ⟨topK qb,base,room,⟨_,hold⟩,h2,.inl hro2⟩
  ·rw [m0] at h2;cases h2
  ·rw [m2 b e e'] at h2
   exact .inl ⟨b,base,room,⟨_,g1⟩,h2,.inr rfl⟩
 ·have hs:=hc.slice_some
  obtain ⟨a,cap',L,rfl,g1,g2,_,g4⟩:=hc.slice_inv
  obtain ⟨_,_,hh,hs⟩:=hs
  cases hh
  simp only at g1 g2 g4 hs
  have hL:L=xs.length:=by
   unfold segLenAt at g1
   rw [hold] at g1
   simp only [Option.bind_some,List.getElem?_cons_zero,Option.map_some,Option.some.injEq] at g1
   omega
  subst hL
  obtain ⟨h5,h6,h7⟩:=g4 rfl
  have hoff:segOff h (topK qb) 0=0:=by rw [q00n hold];rfl
  have hoff2:segOff h' (rowK pb rows.length) 0=0:=by rw [q00n hrow];rfl
  refine .slice _ _ _ 1 false a cap' xs.length (by simp [segLenAt,hrow,segLen]) (Nat.le_refl _) ⟨Nat.le_refl _,hs⟩ fun _=>⟨h5,(fun e=>by cases e),?_⟩
  rcases h7 with ⟨k',base,room,h8,h9,h10⟩ | ⟨h8,h9,h10⟩
  ·refine .inl ⟨k',base,room,by simp only;rw [m1];exact h8,by simp only;rw [hoff2,h9,hoff],fun _=>?_⟩
   simp only
   rw [hoff2]
   cases ex with
   | false=>have:=h10 rfl;rw [hoff] at this;exact this
   | true=>
    have:=h6 rfl
    have f4:=(H.at_ _ _ k' base room hold h8).2.1
    rw [q002] at f4
    have f7:lenOf [seg]=xs.length:=by simp [lenOf,hsl]
    omega
  ·exact .inr ⟨by simp only;rw [m1];exact h8,h9,h10⟩
theorem q04u {pb:Nat}{v:AV}{K:Nat×Nat->Heap->Option α}(he:giveK ro pb v h K=some r):∃ q h',K q h'=some r∧Ghost ro h v h' (idCell pb q):=by
 unfold giveK at he
 split at he
 ·split at he
  ·rename_i k rows hp
   obtain ⟨hb,hk⟩:=q008 he
   exact ⟨_,_,hk,q04r (q04o hp) (Nat.le_of_ble_eq_true hb)⟩
  ·cases he
 ·rename_i q len cap es ex
  split at he
  ·rename_i r1 hr
   obtain ⟨hb,hk⟩:=q008 he
   simp only [Bool.and_eq_true] at hb
   obtain ⟨b1,b2,b3,b4,b5,b6⟩:=hb
   refine ⟨_,_,hk,q04s ?_ (Nat.eq_of_beq_eq_true b2) (Nat.eq_of_beq_eq_true b3) (Nat.eq_of_beq_eq_true b4) (Nat.eq_of_beq_eq_true b5) (Nat.eq_of_beq_eq_true b6)⟩
   have e1:=Nat.eq_of_beq_eq_true b1
   obtain ⟨⟨qb,qr⟩,_,_,_⟩:=q
   simp only at e1 hr ⊢
   rw [e1,hr]
  ·rename_i hr
   split at he
   ·rename_i k rows hp
    split at he
    ·rename_i k' xs hn
     obtain ⟨hb,hk⟩:=q008 he
     simp only [Bool.and_eq_true,Nat.ble_eq,Bool.not_eq_true'] at hb
     obtain ⟨b1,b2,b3,b4,b5,b6,b7,b8,b9,b10⟩:=hb
     refine ⟨_,_,hk,q04t (q04o hp) (q04n rfl ?_) hn hr b1 b2 (q00z b3) (Nat.eq_of_beq_eq_true b4) (Nat.eq_of_beq_eq_true b5) (Nat.eq_of_beq_eq_true b6) (Nat.eq_of_beq_eq_true b7) (Nat.eq_of_beq_eq_true b8) (Nat.eq_of_beq_eq_true b9) ?_⟩
     ·intro e;rw [e] at hn;cases hn
     ·intro e;rw [e,Nat.beq_refl] at b10;cases b10
    ·cases he
   ·cases he
 ·cases he
theorem q04v {pb:Nat}{v:AV}{K:Nat×Nat->Heap->Option α}(he:giveK ro pb v h K=some r):cellsIn v=1:=by
 unfold giveK at he
 split at he
 ·rfl
 ·rfl
 ·cases he
theorem q04w {gv:Bool}{p:Place}{v:AV}{K:AV->Heap->Option α}(he:giveTo gv ro p v h K=some r):∃ v' h',K v' h'=some r∧cellsIn v'=cellsIn v∧Ghost ro h v h' v':=by
 have same:K v h=some r->∃ v' h',K v' h'=some r∧cellsIn v'=cellsIn v∧Ghost ro h v h' v':=fun hk=>⟨v,h,hk,rfl,fun μ w H=>⟨μ,H,.refl _ _ _ _,fun c hc=>hc⟩⟩
 unfold giveTo at he
 split at he
 ·split at he
  ·have h1:=q04v he
   obtain ⟨q,h',hk,hg⟩:=q04u he
   exact ⟨_,h',hk,by rw [h1];rfl,hg⟩
  ·exact same he
 ·exact same he
theorem q04x {pb:Nat}:∀ (vs:List AV) (h:Heap) (K:List (Nat×Nat)->Heap->Option α),giveAll ro pb vs h K=some r->∃ ids h',K ids h'=some r∧ids.length=vs.length ∧
  ∀ (μ:LMap) (w:World),HR ro h μ w->∃ μ',HR ro h' μ' w∧Ext ro h μ w h' μ' w∧∀ (i:Nat) (c:Value) (v:AV),vs[i]?=some v->VR h μ v c->∃ q,ids[i]?=some q∧VR h' μ' (idCell pb q) c:=by
 intro vs
 induction vs with
 | nil=>intro h K he;exact ⟨[],h,he,rfl,fun μ w H=>⟨μ,H,.refl _ _ _ _,fun i c v hv=>by simp at hv⟩⟩
 | cons v vs ih=>
  intro h K he
  simp only [giveAll] at he
  obtain ⟨q,h1,hk,hg⟩:=q04u he
  obtain ⟨ids,h2,hk2,hl,hs⟩:=ih h1 _ hk
  refine ⟨q::ids,h2,hk2,by simp [hl],fun μ w H=>?_⟩
  obtain ⟨μ1,H1,X1,V1⟩:=hg μ w H
  obtain ⟨μ2,H2,X2,V2⟩:=hs μ1 w H1
  refine ⟨μ2,H2,X1.trans X2,fun i c u hu hc=>?_⟩
  cases i with
  | zero=>
   simp only [List.getElem?_cons_zero,Option.some.injEq] at hu
   subst hu
   exact ⟨q,rfl,(V1 c hc).mono X2.le⟩
  | succ i=>
   obtain ⟨q',e1,e2⟩:=V2 i c u (by simpa using hu) (hc.mono X1.le)
   exact ⟨q',by simpa using e1,e2⟩
end
end Go.AM
namespace Go.AM
section
variable {α:Type} {P:Program} {r:α} {ro:Nat} {op:Op} {t:List AV} {h:Heap}
structure RowR (h:Heap) (μ:LMap) (l:List AV) (cs:Array Value):Prop where
 len:l.length=cs.size
 get:∀ (i:Nat) (u:AV),l[i]?=some u->isOne u=true∧∃ c,cs[i]?=some c∧c.oneCell'=true∧VR h μ u c
theorem q04y (vs:List Value):∀ (off k:Nat) (cs:Array Value),((vs.zipIdx k).foldl (fun cs (c,j)=>cs.setIfInBounds (off+j) c) cs).size=cs.size ∧
  (off+k+vs.length<=cs.size->∀ i,((vs.zipIdx k).foldl (fun cs (c,j)=>cs.setIfInBounds (off+j) c) cs)[i]?=if off+k<=i∧i<off+k+vs.length then vs[i-(off+k)]? else cs[i]?):=by
 induction vs with
 | nil=>intro off k cs;exact ⟨rfl,fun _ i=>by simp;omega⟩
 | cons v vs ih=>
  intro off k cs
  simp only [List.zipIdx_cons,List.foldl_cons]
  obtain ⟨h1,h2⟩:=ih off (k+1) (cs.setIfInBounds (off+k) v)
  refine ⟨by simpa using h1,fun hle i=>?_⟩
  rw [h2 (by simp at hle ⊢;omega),Array.getElem?_setIfInBounds]
  simp only [List.length_cons] at hle ⊢
  by_cases e1:off+(k+1)<=i∧i<off+(k+1)+vs.length
  ·rw [if_pos e1,if_pos (by omega),show i-(off+k)=(i-(off+(k+1)))+1 by omega,List.getElem?_cons_succ]
  ·rw [if_neg e1]
   by_cases e2:off+k=i
   ·subst e2
    rw [if_pos rfl,if_pos (by omega),if_pos (by omega)]
    simp
   ·rw [if_neg e2,if_neg (by omega)]
theorem q04z {q:Place}{v:AV}{blk:Blk}{K:Heap->Option α}(h0:0<cellsIn v)(hb:q.b=topK 0)(he:storeAt 0 q v [blk] K=some r):
  ∃ new,K [new]=some r∧(∀ (i:Nat) (u:AV),(cellsOfAV v)[i]?=some u->isOne u=true)∧new.map segLen=blk.map segLen∧lenOf (blk.take q.s)+q.o+(cellsOfAV v).length<=(flat blk).length ∧
   ∀ i,(flat new)[i]?=if lenOf (blk.take q.s)+q.o<=i∧i<lenOf (blk.take q.s)+q.o+(cellsOfAV v).length then (cellsOfAV v)[i-(lenOf (blk.take q.s)+q.o)]? else (flat blk)[i]?:=by
 obtain ⟨h',hk,_,_,h1,old,new,hp⟩:=q02f h0 he
 have ho:old=blk:=by
  have:=hp.at_
  rw [hb] at this
  rcases q00i this with ⟨_,h2,_⟩ | ⟨_,_,_,_,h2,_⟩
  ·simpa using h2.symm
  ·cases h2
 subst ho
 have hh:h'=[new]:=by rw [hp.eq,hb];rfl
 subst hh
 exact ⟨new,hk,h1,hp.lens,hp.fit,hp.get⟩
theorem q050 {blk:Blk}{off:Nat}{same:Bool}{K:Place->Option α}(he:movePlace [blk] (newPlace [] blk) off same K=some r):∃ q,K q=some r∧q.b=topK 0∧lenOf (blk.take q.s)+q.o=off:=by
 unfold movePlace at he
 rcases q007 he with ⟨_,hk⟩ | ⟨_,hk⟩
 ·exact ⟨_,hk,rfl,by simp [newPlace,q010,lenOf]⟩
 ·obtain ⟨_,hk⟩:=q008 hk
  split at hk
  ·rename_i i q n hloc
   obtain ⟨seg,_,_,_,g4⟩:=q04c _ _ _ _ _ hloc
   refine ⟨_,hk,rfl,?_⟩
   have hd:blkD [blk] (topK 0)=blk:=by
    cases hp:isPool blk with
    | false=>exact q009 (q00e hp rfl)
    | true=>
     exfalso
     have:blkD [blk] (topK 0)=[]:=q00c rfl (by simp [blk?,hp])
     simp only [newPlace,List.length_nil,this,List.drop_nil,locate,reduceCtorEq] at hloc
   simp only [newPlace,List.length_nil,hd] at g4
   simpa [newPlace] using g4
  ·cases hk
theorem q051 (v:AV):(cellsOfAV v).length=cellsIn v:=by cases v<;>first | rfl | exact q002 _
theorem q052 {place:Nat->Option (Nat×Nat)}{same:Bool}:∀ (parts:List (Nat×AV)) (blk:Blk) (K:Blk->Option α),fillParts place same parts blk K=some r ->
  ∃ blk',K blk'=some r∧blk'.map segLen=blk.map segLen∧∀ (h:Heap) (μ:LMap) (vs:List (Nat×Value)) (cs:Array Value),parts.length=vs.length ->
   (∀ (i:Nat) (p:Nat×AV) (q:Nat×Value),parts[i]?=some p->vs[i]?=some q->p.1=q.1∧VR h μ p.2 q.2)->RowR h μ (flat blk) cs ->
   ∃ cs',Instr.fill place cs vs=some cs'∧RowR h μ (flat blk') cs'
 | [],blk,K,he=>⟨blk,he,rfl,fun h μ vs cs hl _ hr=>by
  cases vs with
  | nil=>exact ⟨cs,rfl,hr⟩
  | cons _ _=>simp at hl⟩
 | (i,v)::parts,blk,K,he=>by
  simp only [fillParts] at he
  split at he
  ·rename_i off size hp
   obtain ⟨hb,he⟩:=q008 he
   simp only [Bool.and_eq_true,Nat.blt_eq] at hb
   have hsz:=Nat.eq_of_beq_eq_true hb.2
   obtain ⟨q,he,hq0,hq⟩:=q050 he
   obtain ⟨new,hk,hone,hlen,hfit,hget⟩:=q04z (by omega) hq0 he
   rw [hq] at hfit hget
   obtain ⟨blk',g1,gl,g2⟩:=q052 parts new K (by simpa using hk)
   have hfl:(flat new).length=(flat blk).length:=by rw [q002,q002,q01m hlen]
   refine ⟨blk',g1,gl.trans hlen,fun h μ vs cs hl hvs hr=>?_⟩
   cases vs with
   | nil=>simp at hl
   | cons x vs=>
   obtain ⟨i',c⟩:=x
   obtain ⟨h1,hv⟩:=hvs 0 _ _ rfl rfl
   simp only at h1 hv
   subst h1
   obtain ⟨hcl,hcs⟩:=hv.cells hone
   have hcl2:=q051 v
   have hsize:c.cells.size=size:=by simpa using (by omega:c.cells.toList.length=size)
   have hrl:=hr.len
   obtain ⟨f1,f2⟩:=q04y c.cells.toList off 0 cs
   have f2:=f2 (by simp;omega)
   have hz:c.cells.zipIdx.foldl (fun cs (c,j)=>cs.setIfInBounds (off+j) c) cs=(c.cells.toList.zipIdx 0).foldl (fun cs (c,j)=>cs.setIfInBounds (off+j) c) cs:=by
    rw [<- Array.foldl_toList,Array.toList_zipIdx]
   obtain ⟨cs',g3,g4⟩:=g2 h μ vs ((c.cells.toList.zipIdx 0).foldl (fun cs (c,j)=>cs.setIfInBounds (off+j) c) cs) (by simpa using hl)
    (fun j p q hp hq=>hvs (j+1) p q (by simpa using hp) (by simpa using hq)) (by
     refine ⟨by rw [f1];omega,fun j u hu=>?_⟩
     rw [hget] at hu
     rw [f2]
     simp only [Nat.add_zero,Array.length_toList]
     by_cases e:off<=j∧j<off+(cellsOfAV v).length
     ·rw [if_pos e] at hu
      rw [if_pos (by omega)]
      obtain ⟨u',d,e1,e2,e3,e4⟩:=hcs (j-off) (by omega)
      rw [hu] at e1
      cases e1
      exact ⟨hone _ _ hu,d,e2,e3,e4⟩
     ·rw [if_neg e] at hu
      rw [if_neg (by omega)]
      exact hr.get j u hu)
   refine ⟨cs',?_,g4⟩
   simp only [Instr.fill,hp]
   rw [if_neg (by simp [hsize];omega)]
   rw [hz]
   exact g3
  ·cases he
theorem RowR.agg {μ:LMap}{ss:List AV}{cs:Array Value}(hr:RowR h μ (flat ss) cs):VR h μ (.agg ss) (.agg cs):=by
 refine .agg _ _ hr.len fun i=>?_
 cases hq:(flat ss)[i]? with
 | none=>rw [show (flat ss).getD i .undef=.undef by simp [List.getD_eq_getElem?_getD,hq]];exact .undef _
 | some u=>
  obtain ⟨_,c,e1,_,e3⟩:=hr.get i u hq
  rw [show (flat ss).getD i .undef=u by simp [List.getD_eq_getElem?_getD,hq],show cs.getD i Go.undef=c by rw [Array.getD_eq_getD_getElem?,e1];rfl]
  exact e3
theorem q053 {ty:TypeId}{ss:List AV}(hz:zeroOf P ty=some ss):∃ i z,P.info? ty=some i∧i.zero=some z∧∀ (h:Heap) (μ:LMap),RowR h μ (flat ss) z.cells:=by
 obtain ⟨i,z,h1,h2,h3,h4⟩:=q03r hz
 exact ⟨i,z,h1,h2,fun h μ=>⟨h3,fun j u hu=>by
  obtain ⟨g1,c,g2,g3,g4⟩:=h4 j u hu
  exact ⟨g1,c,g2,g3,g4 h μ⟩⟩⟩
theorem q054 {μ:LMap}{a:Act}{ps:Array (Nat×Operand)}(hx:∀ x,x∈(ps.toList.map (·.2))->VR h μ (evalO t x) (a.eval x)):
  (ps.toList.map fun (i,x)=>(i,evalO t x)).length=(ps.map fun (i,x)=>(i,a.eval x)).toList.length ∧
  ∀ (i:Nat) (p:Nat×AV) (q:Nat×Value),(ps.toList.map fun (i,x)=>(i,evalO t x))[i]?=some p->(ps.map fun (i,x)=>(i,a.eval x)).toList[i]?=some q->p.1=q.1∧VR h μ p.2 q.2:=by
 refine ⟨by simp,fun i p q hp hq=>?_⟩
 simp only [List.getElem?_map,Array.toList_map] at hp hq
 cases hc:ps.toList[i]? with
 | none=>rw [hc] at hp;cases hp
 | some x=>
  rw [hc] at hp hq
  simp only [Option.map_some,Option.some.injEq] at hp hq
  subst hp;subst hq
  exact ⟨rfl,hx x.2 (List.mem_map.2 ⟨x,List.mem_of_getElem? hc,rfl⟩)⟩
theorem q055 {ty:TypeId}{ps:Array (Nat×Operand)}{K:AV->Option α}(he:goBuild P ty (ps.toList.map fun (i,x)=>(i,evalO t x)) K=some r):
  ∃ v,K v=some r∧OpSem P ro (.build ty ps) t h v h:=by
 have ops:∀ {μ:LMap} {a:Act},(∀ y,y∈(Op.build ty ps).operands->VR h μ (evalO t y) (a.eval y))->∀ x,x∈(ps.toList.map (·.2))->VR h μ (evalO t x) (a.eval x):=
  fun hop x hx=>hop x (by simpa [Op.operands] using hx)
 unfold goBuild at he
 split at he
 ·rename_i z fs hz hu
  obtain ⟨i,zv,hi,hzv,hrow⟩:=q053 hz
  split at he
  ·rename_i places hpl
   obtain ⟨blk,hk,_,hfill⟩:=q052 _ _ _ he
   refine ⟨_,hk,.of_pure fun o a w μ ho hop H=>?_⟩
   obtain ⟨p1,p2⟩:=q054 (ops hop)
   obtain ⟨cs',f1,f2⟩:=hfill h μ _ zv.cells p1 p2 (hrow h μ)
   refine ⟨.agg cs',?_,f2.agg⟩
   have hb:P.built ty (ps.map fun (i,x)=>(i,a.eval x)).toList=some cs':=by
    simp only [Program.built,hi,hu,hzv,hpl]
    exact f1
   simp [execOp,ho,run_build w ty _ cs' hb]
  ·cases he
 ·rename_i z n e hz hu
  obtain ⟨i,zv,hi,hzv,hrow⟩:=q053 hz
  split at he
  ·rename_i ie hie
   obtain ⟨blk,hk,_,hfill⟩:=q052 _ _ _ he
   refine ⟨_,hk,.of_pure fun o a w μ ho hop H=>?_⟩
   obtain ⟨p1,p2⟩:=q054 (ops hop)
   obtain ⟨cs',f1,f2⟩:=hfill h μ _ zv.cells p1 p2 (hrow h μ)
   refine ⟨.agg cs',?_,f2.agg⟩
   have hb:P.built ty (ps.map fun (i,x)=>(i,a.eval x)).toList=some cs':=by
    simp only [Program.built,hi,hu,hzv,hie]
    exact f1
   simp [execOp,ho,run_build w ty _ cs' hb]
  ·cases he
 ·cases he
theorem q056 (fl:List AV)(h0:0<fl.length):∀ (n i:Nat),i<n*fl.length->((List.replicate n fl).flatten)[i]?=fl[i%fl.length]?
 | 0,i,h=>by simp at h
 | n+1,i,h=>by
  rw [List.replicate_succ,List.flatten_cons]
  by_cases hi:i<fl.length
  ·rw [List.getElem?_append_left hi,Nat.mod_eq_of_lt hi]
  ·rw [List.getElem?_append_right (by omega),q056 fl h0 n (i-fl.length) (by rw [Nat.succ_mul] at h;omega),Nat.mod_eq_sub_mod (by omega:i ≥ fl.length)]
theorem q057:∀ {fl:List AV} {ks:List (Option IntKind)},kindsO fl=some ks->ks.length=fl.length∧∀ i,i<fl.length->fl[i]?=some (convC (ks.getD i none) 0)
 | [],ks,h=>by
  simp only [kindsO,Option.some.injEq] at h
  subst h
  exact ⟨rfl,fun i hi=>by simp at hi⟩
 | v::vs,ks,h=>by
  cases v<;>simp only [kindsO,reduceCtorEq] at h
  case int k n=>
   split at h
   ·rename_i ks' hk
    cases hn:n==0 with
    | false=>simp [hn] at h
    | true=>
     simp only [hn,cond_true,Option.some.injEq] at h
     subst h
     have hn:n=0:=by simpa using hn
     subst hn
     obtain ⟨g1,g2⟩:=q057 hk
     refine ⟨by simp [g1],fun i hi=>?_⟩
     cases i with
     | zero=>rfl
     | succ i=>simpa using g2 i (by simpa using hi)
   ·cases h
  case bool b=>
   split at h
   ·rename_i ks' hk
    cases b with
    | true=>simp at h
    | false=>
     simp only [cond_false,Option.some.injEq] at h
     subst h
     obtain ⟨g1,g2⟩:=q057 hk
     refine ⟨by simp [g1],fun i hi=>?_⟩
     cases i with
     | zero=>rfl
     | succ i=>simpa using g2 i (by simpa using hi)
   ·cases h
theorem q058 {lit:Bool}{e:TypeId}{n:Nat}{blk:Blk}(hz:zeroRow P lit e n=some blk)(h0:0<P.cellsOf e):∃ i z,P.info? e=some i∧i.zero=some z∧i.size=P.cellsOf e∧z.cells.size=P.cellsOf e∧blk≠[]∧isPool blk=false ∧
  (z.cells.size=P.cellsOf e->∀ (h:Heap) (μ:LMap),RowR h μ (flat blk) ((Array.range (n*P.cellsOf e)).map fun i=>z.cells[i%z.cells.size]!)):=by
 unfold zeroRow at hz
 split at hz
 case h_2=>cases hz
 rename_i ss hss
 cases hcl:Nat.beq (ss.flatMap segValsOf).length (P.cellsOf e) with
 | false=>simp only [hcl,cond_false,reduceCtorEq] at hz
 | true=>
 simp only [hcl,cond_true] at hz
 have hcl:=Nat.eq_of_beq_eq_true hcl
 obtain ⟨i,z,hi,hzz,hrow⟩:=q053 hss
 have hzs0:z.cells.size=P.cellsOf e:=by rw [<- hcl];exact (hrow [] fun _=>.absent).len.symm
 have hfl:flat ss=ss.flatMap segValsOf:=rfl
 have hsize:i.size=P.cellsOf e:=by simp [Program.cellsOf,hi]
 have main:∀ (l:List AV),l.length=n*P.cellsOf e->(∀ j,j<n*P.cellsOf e->l[j]?=(flat ss)[j%P.cellsOf e]?)->z.cells.size=P.cellsOf e ->
   ∀ (h:Heap) (μ:LMap),RowR h μ l ((Array.range (n*P.cellsOf e)).map fun i=>z.cells[i%z.cells.size]!):=by
  intro l hl hg hzs h μ
  refine ⟨by simp [hl],fun j u hu=>?_⟩
  have hj:j<n*P.cellsOf e:=by
   rcases Nat.lt_or_ge j l.length with h | h
   ·omega
   ·rw [List.getElem?_eq_none h] at hu;cases hu
  rw [hg j hj] at hu
  obtain ⟨q1,c,q2,q3,q4⟩:=(hrow h μ).get _ u hu
  refine ⟨q1,c,?_,q3,q4⟩
  have hm:j%z.cells.size<z.cells.size:=Nat.mod_lt _ (by omega)
  rw [<- hzs] at q2
  simp only [Array.getElem?_map,Array.getElem?_range,hj,if_true,Option.map_some]
  rw [getElem!_pos z.cells _ hm]
  rw [Array.getElem?_eq_getElem hm] at q2
  exact q2
 refine ⟨i,z,hi,hzz,hsize,hzs0,?_⟩
 split at hz
 ·rename_i k m hh
  cases hc:allB (isInt0 k) (ss.flatMap segValsOf) with
  | false=>simp [hc] at hz
  | true=>
   simp only [hc,cond_true,Option.some.injEq] at hz
   subst hz
   refine ⟨by simp,by first | rfl | (cases lit<;>rfl),fun hzs=>?_⟩
   have hm:=q013 hh
   have h1:∀ j,j<P.cellsOf e->(flat ss)[j]?=some (.int k 0):=by
    intro j hj
    have hlen:=(hrow [] fun _=>.absent).len
    have hj':j<(flat ss).length:=by omega
    have hx:=q024 hc (flat ss)[j] (List.getElem_mem hj')
    rw [List.getElem?_eq_getElem hj']
    congr 1
    generalize (flat ss)[j]=u at hx
    cases u<;>simp only [isInt0,Bool.false_eq_true] at hx
    simp only [Bool.and_eq_true,beq_iff_eq] at hx
    rw [q00z hx.1,hx.2]
   refine main _ ?_ (fun j hj=>?_) hzs
   ·cases lit<;>simp [flat,segValsOf,q011,hm]
   ·rw [h1 _ (Nat.mod_lt _ h0)]
    cases lit
    ·simp only [cond_false,flat,List.flatMap_cons,List.flatMap_nil,List.append_nil]
     exact q00r (by rw [q011,hm];exact hj)
    ·simp [flat,segValsOf,hm,hj]
 ·rename_i hh hfl2
  simp only [Option.some.injEq] at hz
  subst hz
  refine ⟨by simp,by first | rfl | (cases lit<;>rfl),fun hzs=>?_⟩
  have hlen:=(hrow [] fun _=>.absent).len
  have hl1:(flat ss).length=1:=by rw [hfl,hfl2];rfl
  have h1:P.cellsOf e=1:=by omega
  refine main _ (by simp [flat,segValsOf,h1]) (fun j hj=>?_) hzs
  rw [h1,Nat.mod_one,hfl,hfl2]
  simp only [flat,List.flatMap_cons,List.flatMap_nil,List.append_nil]
  rw [q00s (by rw [h1] at hj;omega)]
  rfl
 ·rename_i hh hfl2
  simp only [Option.some.injEq] at hz
  subst hz
  refine ⟨by simp,rfl,fun hzs=>?_⟩
  have hlen:=(hrow [] fun _=>.absent).len
  have hl1:(flat ss).length=1:=by rw [hfl,hfl2];rfl
  have h1:P.cellsOf e=1:=by omega
  refine main _ (by simp [flat,segValsOf,h1]) (fun j hj=>?_) hzs
  rw [h1,Nat.mod_one,hfl,hfl2]
  simp only [flat,List.flatMap_cons,List.flatMap_nil,List.append_nil]
  rw [q00v (by simp;rw [h1] at hj;omega)]
  simp only [List.getD_eq_getElem?_getD,List.getElem?_replicate]
  rw [if_pos (by rw [h1] at hj;omega)]
  rfl
 ·rename_i hh hne
  split at hz
  ·rename_i ks hks
   simp only [Option.some.injEq] at hz
   subst hz
   obtain ⟨k1,k2⟩:=q057 hks
   refine ⟨by simp,by first | rfl | (cases lit<;>rfl),fun hzs=>?_⟩
   have hl1:(flat ss).length=P.cellsOf e:=by rw [hfl];exact hcl
   have hkl:ks.length=P.cellsOf e:=by rw [k1,<- hfl,hl1]
   have hf1:flat [AV.recs ks (List.replicate (n*ks.length) 0)]=recVals ks (List.replicate (n*ks.length) 0):=by simp [flat,segValsOf]
   refine main _ (by rw [hf1];simp [recVals,hkl]) (fun j hj=>?_) hzs
   rw [hf1,q018 (by simp [hkl];exact hj),hfl,k2 _ (by rw [<- k1,hkl];exact Nat.mod_lt _ h0),hkl]
   congr 2
   rw [List.getD_eq_getElem?_getD,List.getElem?_replicate]
   split<;>rfl
  ·rename_i hks
   simp only [Option.some.injEq] at hz
   subst hz
   refine ⟨by simp,by first | rfl | (cases lit<;>rfl),fun hzs=>?_⟩
   have hlen:=(hrow [] fun _=>.absent).len
   have hl1:(flat ss).length=P.cellsOf e:=by omega
   refine main _ ?_ (fun j hj=>?_) hzs
   ·simp only [flat,List.flatMap_cons,List.flatMap_nil,List.append_nil,segValsOf]
    rw [<- hfl]
    simp [hl1]
   ·simp only [flat,List.flatMap_cons,List.flatMap_nil,List.append_nil,segValsOf]
    rw [<- hl1] at hj ⊢
    rw [<- hfl]
    exact q056 (flat ss) (by omega) n j hj
theorem VR.newSlice {μ:LMap}{ss:Blk}{k n l c es:Nat}(hp:isPool ss=false)(hne:ss≠[])(hlc:l<=c):VR (h++[ss]) (addMap μ h.length (.at k 0 n)) (.slice (newPlace h ss) l c es true) (.slice (some ⟨k,0,none⟩) l c):=by
 cases ss with
 | nil=>exact absurd rfl hne
 | cons s rest=>
  have hb:=q03e (h:=h) hp
  refine .slice _ _ _ _ _ _ _ (segLen s) (by simp only [segLenAt,newPlace,hb];rfl) (by simp [newPlace]) ⟨hlc,fun _ e=>by cases e⟩ fun _=>⟨Nat.le_refl _,fun _=>rfl,.inl ⟨k,0,n,by simp [addMap,newPlace],?_,fun e=>by cases e⟩⟩
  simp [newPlace,segOff,lenOf]
theorem HR.allocRow {μ:LMap}{w w':World}(H:HR ro h μ w){ss:Blk}(hp:isPool ss=false){cs:Array Value}{T:TypeId}
  (hheap:w'.heap=w.heap.push (.cells cs T)) (hos:w'.os=w.os) (htape:w'.tape=w.tape) (hout:w'.output=w.output) (hr:RowR h μ (flat ss) cs):
  HR ro (h++[ss]) (addMap μ h.length (.at w.heap.size 0 cs.size)) w'∧Ext ro h μ w (h++[ss]) (addMap μ h.length (.at w.heap.size 0 cs.size)) w':=
 H.alloc hp hheap hos htape hout (by rw [hr.len];exact Nat.le_refl _) fun i u hu=>(hr.get i u hu).2
theorem HR.newTable {μ:LMap}{w w':World}(H:HR ro h μ w)(k:IntKind){l c:Nat}(hlc:l<=c){cs:Array Value}{T:TypeId}
  (hheap:w'.heap=w.heap.push (.cells cs T)) (hos:w'.os=w.os) (htape:w'.tape=w.tape) (hout:w'.output=w.output) (hsz:cs.size=c) (hcs:∀ i,i<c->cs[i]?=some (.slice none 0 0)):
  ∃ μ',HR ro (h++[[.pool k (List.replicate c [])],[.hdr h.length ((List.range c).map fun i=>(i,0))]]) μ' w'∧Ext ro h μ w (h++[[.pool k (List.replicate c [])],[.hdr h.length ((List.range c).map fun i=>(i,0))]]) μ' w' ∧
   VR (h++[[.pool k (List.replicate c [])],[.hdr h.length ((List.range c).map fun i=>(i,0))]]) μ' (.slice ⟨topK (h.length+1),0,0,c⟩ l c 1 true) (.slice (some ⟨w.heap.size,0,none⟩) l c):=by
 obtain ⟨H1,X1⟩:=H.newPool k c
 have hfl:∀ {i:Nat} {u:AV},(flat [AV.hdr h.length ((List.range c).map fun i=>(i,0))])[i]?=some u->i<c∧u=idCell h.length (i,0):=by
  intro i u hu
  simp only [flat,List.flatMap_cons,List.flatMap_nil,List.append_nil,segVals,segValsOf,List.map_map,List.getElem?_map] at hu
  rcases Nat.lt_or_ge i c with hi | hi
  ·rw [List.getElem?_range hi] at hu
   cases hu
   exact ⟨hi,rfl⟩
  ·rw [List.getElem?_eq_none (by simpa using hi)] at hu
   cases hu
 have hlen1:(h++[[AV.pool k (List.replicate c [])]]).length=h.length+1:=by simp
 have hr:=H1.alloc (ss:=[.hdr h.length ((List.range c).map fun i=>(i,0))]) rfl hheap hos htape hout (by simp [flat,segValsOf,hsz]) fun i u hu=>by
  obtain ⟨hi,rfl⟩:=hfl hu
  refine ⟨_,hcs i hi,rfl,.slice _ 0 0 1 false none 0 0 ?_ (Nat.le_refl _) ⟨Nat.le_refl _,fun e=>absurd e (Nat.lt_irrefl _)⟩ fun _=>⟨Nat.le_refl _,(fun e=>by cases e),.inr ⟨if_pos rfl,rfl,rfl⟩⟩⟩
  have:blk? (h++[[AV.pool k (List.replicate c [])]]) (rowK h.length i)=some [.vec k []]:=q00h (k:=k) (rows:=List.replicate c []) (by simp) (by simp [hi])
  simp only [segLenAt,this]
  rfl
 have hap:h++[[AV.pool k (List.replicate c [])],[AV.hdr h.length ((List.range c).map fun i=>(i,0))]]=(h++[[AV.pool k (List.replicate c [])]])++[[AV.hdr h.length ((List.range c).map fun i=>(i,0))]]:=by simp
 rw [hap]
 rw [hlen1,hsz] at hr
 refine ⟨_,hr.1,X1.trans hr.2,?_⟩
 have hb:=q03e (h:=h++[[AV.pool k (List.replicate c [])]]) (ss:=[.hdr h.length ((List.range c).map fun i=>(i,0))]) rfl
 rw [hlen1] at hb
 refine .slice _ _ _ _ _ _ _ c ?_ (Nat.le_refl _) ⟨hlc,fun _ e=>by cases e⟩ fun _=>⟨Nat.le_refl _,fun _=>rfl,.inl ⟨w.heap.size,0,c,by simp [addMap],?_,fun e=>by cases e⟩⟩
 ·simp only [segLenAt,hb]
  simp [segLen]
 ·simp [segOff,lenOf]
theorem q059 {e:TypeId}{ps:List (Nat×AV)}{k:IntKind}(ht:tableOf P e ps=some k):ps=[]∧P.cellsOf e=1∧∃ i z,P.info? e=some i∧i.zero=some z∧z.cells=#[.slice none 0 0]:=by
 unfold tableOf at ht
 split at ht
 ·split at ht
  ·rename_i hz
   cases hb:Nat.beq (elemSize P e) 1 with
   | false=>rw [hb] at ht;cases ht
   | true=>
    obtain ⟨i,z,h1,h2,h3,h4⟩:=q03r hz
    refine ⟨rfl,Nat.eq_of_beq_eq_true hb,i,z,h1,h2,?_⟩
    have h3:1=z.cells.size:=h3
    obtain ⟨_,c,h5,_,h6⟩:=h4 0 .nils rfl
    have h7:=h6 [] fun _=>.absent
    cases h7
    apply Array.ext
    ·exact h3.symm
    ·intro j h8 h9
     have:j=0:=by simp at h9;omega
     subst this
     have:=(Array.getElem?_eq_some_iff.1 h5).2
     rw [this]
     rfl
  ·cases ht
 ·cases ht
theorem q05a {ty:TypeId}{n:Nat}{ps:Array (Nat×Operand)}{K:AV->Heap->Option α}(he:goBuildSlice P ty n (ps.toList.map fun (i,x)=>(i,evalO t x)) h K=some r):
  ∃ v h',K v h'=some r∧OpSem P ro (.buildSlice ty n ps) t h v h':=by
 have ops:∀ {μ:LMap} {a:Act},(∀ y,y∈(Op.buildSlice ty n ps).operands->VR h μ (evalO t y) (a.eval y))->∀ x,x∈(ps.toList.map (·.2))->VR h μ (evalO t x) (a.eval x):=
  fun hop x hx=>hop x (by simpa [Op.operands] using hx)
 unfold goBuildSlice at he
 split at he
 case h_2=>cases he
 rename_i e hu
 split at he
 ·rename_i k hk
  obtain ⟨hb,hk2⟩:=q008 he
  obtain ⟨hps,h1,i,zv,hi,hzv,hzc⟩:=q059 hk
  have hps:ps=#[]:=by
   have:ps.toList=[]:=by simpa using hps
   exact Array.toList_eq_nil_iff.1 this
  subst hps
  refine ⟨_,_,hk2,.of_value fun o a w μ ho hop H=>?_⟩
  rw [Nat.ble_eq] at hb
  have hcs:((Array.range (n*P.cellsOf e)).map fun j=>zv.cells[j%zv.cells.size]!)=(Array.range n).map fun _=>Value.slice none 0 0:=by
   rw [h1,Nat.mul_one,hzc]
   refine Array.map_congr_left fun j _=>?_
   simp [Nat.mod_one]
  obtain ⟨μ',q1,q2,q3⟩:=H.newTable (w':=w.alloc (.cells ((Array.range n).map fun _=>Value.slice none 0 0) e)) k (Nat.le_refl n) rfl rfl rfl rfl (by simp) (fun i hi=>by simp [hi])
  refine ⟨_,_,μ',?_,q3,q1,q2⟩
  have hpos:0<P.cellsOf e:=by omega
  have hlim:¬ n*P.cellsOf e > 2 ^ 24:=by rw [h1];omega
  have f1:Instr.fill (fun i=>some (i*P.cellsOf e,P.cellsOf e)) ((Array.range n).map fun _=>Value.slice none 0 0) ((#[]:Array (Nat×Operand)).map fun x=>(x.fst,a.eval x.snd)).toList=some ((Array.range n).map fun _=>Value.slice none 0 0):=by simp [Instr.fill]
  by_cases h0:n*P.cellsOf e=0
  ·have e0:((Array.range (n*P.cellsOf e)).map fun j=>(#[]:Array Value)[j%(#[]:Array Value).size]!)=(Array.range n).map fun _=>Value.slice none 0 0:=by
    have:n=0:=by rw [h1] at h0;omega
    subst this
    simp
   simp only [execOp,ho,Instr.buildSlice,Sem.run_bind,run_underlying hu,Result.andThen_ok,q04e hpos,if_neg hlim,if_pos h0,Sem.run_pure,e0,f1,newRow,run_newObj_alloc]
  ·simp only [execOp,ho,Instr.buildSlice,Sem.run_bind,run_underlying hu,Result.andThen_ok,q04e hpos,if_neg hlim,if_neg h0,q03s hi hzv,Sem.run_pure,hcs,f1,newRow,run_newObj_alloc]
 split at he
 case h_2=>cases he
 rename_i z hz
 obtain ⟨hb,he⟩:=q008 he
 simp only [Bool.and_eq_true,Nat.ble_eq,Nat.blt_eq] at hb
 obtain ⟨i,zv,hi,hzv,hsz,hzs,hne,_,hrow⟩:=q058 hz hb.2
 obtain ⟨blk,he2,hbl,hfill⟩:=q052 _ _ _ he
 obtain ⟨hpl,hk⟩:=q008 he2
 have hpl:isPool blk=false:=by simpa using hpl
 refine ⟨_,_,hk,.of_value fun o a w μ ho hop H=>?_⟩
 obtain ⟨p1,p2⟩:=q054 (ops hop)
 obtain ⟨cs',f1,f2⟩:=hfill h μ _ _ p1 p2 (hrow hzs h μ)
 obtain ⟨r1,r2⟩:=H.allocRow hpl (w':=w.alloc (.cells cs' e)) (ss:=blk) (T:=e) rfl rfl rfl rfl f2
 have hne':blk≠[]:=by
  intro hbe
  rw [hbe] at hbl
  cases z with
  | nil=>exact hne rfl
  | cons s rest=>simp at hbl
 refine ⟨_,_,_,?_,VR.newSlice hpl hne' (Nat.le_refl _),r1,r2⟩
 have hel:elemSize P e=P.cellsOf e:=rfl
 rw [hel] at f1
 have f1':Instr.fill (fun i=>some (i*P.cellsOf e,P.cellsOf e)) ((Array.range (n*P.cellsOf e)).map fun j=>zv.cells[j%zv.cells.size]!) (ps.map fun x=>(x.fst,a.eval x.snd)).toList=some cs':=f1
 have hlim:¬ n*P.cellsOf e > 2 ^ 24:=by
  have:=hb.1
  rw [hel] at this
  omega
 by_cases h0:n*P.cellsOf e=0
 ·have e0:((Array.range (n*P.cellsOf e)).map fun j=>(#[]:Array Value)[j%(#[]:Array Value).size]!)=(Array.range (n*P.cellsOf e)).map fun j=>zv.cells[j%zv.cells.size]!:=by
   rw [h0];simp
  simp only [execOp,ho,Instr.buildSlice,Sem.run_bind,run_underlying hu,Result.andThen_ok,q04e (show 0<P.cellsOf e from hb.2),if_neg hlim,if_pos h0,Sem.run_pure,e0,f1',newRow,run_newObj_alloc]
 ·simp only [execOp,ho,Instr.buildSlice,Sem.run_bind,run_underlying hu,Result.andThen_ok,q04e (show 0<P.cellsOf e from hb.2),if_neg hlim,if_neg h0,q03s hi hzv,Sem.run_pure,f1',newRow,run_newObj_alloc]
theorem q05b {ty:TypeId}{l c:Operand}{K:AV->Heap->Option α}(he:goMakeSlice P ty (evalO t l) (evalO t c) h K=some r):
  ∃ v h',K v h'=some r∧OpSem P ro (.makeSlice ty l c) t h v h':=by
 unfold goMakeSlice at he
 split at he
 case h_2=>cases he
 rename_i e kl lv kc cv hu hl hc
 obtain ⟨hb,he⟩:=q008 he
 simp only [Bool.and_eq_true,decide_eq_true_eq,Nat.ble_eq,Nat.blt_eq] at hb
 obtain ⟨⟨⟨⟨b1,b2⟩,b3⟩,b4⟩,b5⟩:=hb
 have run:∀ (o:Oper) (a:Act) (w:World) (i:TypeInfo) (zv:Value),o.op=.makeSlice ty l c->a.eval l=.int kl lv->a.eval c=.int kc cv->P.info? e=some i->i.zero=some zv ->
   (execOp a.eval o).run P w=.ok (.value (.slice (some ⟨w.heap.size,0,none⟩) lv.toNat cv.toNat)) (w.alloc (.cells ((Array.range (cv.toNat*P.cellsOf e)).map fun i=>zv.cells[i%zv.cells.size]!) e)):=by
  intro o a w i zv ho hql hqc hi hzv
  have hwl:IntKind.i64.wrap lv=lv:=by
   refine q02l ?_
   rw [q02k]
   simp only [kmin,kmax]
   omega
  have hwc:IntKind.i64.wrap cv=cv:=by
   refine q02l ?_
   rw [q02k]
   simp only [kmin,kmax]
   omega
  have hbytes:(P.bytesOf e:Int)=i.bytes:=by simp [Program.bytesOf,hi]
  have hby:(i.bytes:Int)*cv<=2 ^ 48:=by
   have h1:(i.bytes:Int)<=65536:=by omega
   have h2:(i.bytes:Int)*cv<=65536*1073741824:=Int.mul_le_mul h1 b3 (by omega) (by omega)
   omega
  have hcond:((decide (cv<0)||decide ((i.bytes:Int)*cv > 2 ^ 48))||decide (lv<0)||decide (lv > cv))=false:=by
   simp only [Bool.or_eq_false_iff,decide_eq_false_iff_not]
   omega
  have hti:∀ w,(typeInfo e).run P w=.ok i w:=fun w=>by simp [typeInfo,hi]
  by_cases h0:cv.toNat*P.cellsOf e=0
  ·have e0:((Array.range (cv.toNat*P.cellsOf e)).map fun j=>(#[]:Array Value)[j%(#[]:Array Value).size]!)=(Array.range (cv.toNat*P.cellsOf e)).map fun j=>zv.cells[j%zv.cells.size]!:=by
    rw [h0];simp
   simp only [execOp,ho,hql,hqc,Instr.makeSlice,Sem.run_bind,run_underlying hu,Result.andThen_ok,asInt,asIntOf,Sem.run_pure,hti,hwl,hwc,hcond,Bool.false_eq_true,if_false,run_askRoom,q04e (show 0<P.cellsOf e from b5),if_pos h0,e0,newRow,run_newObj_alloc]
  ·simp only [execOp,ho,hql,hqc,Instr.makeSlice,Sem.run_bind,run_underlying hu,Result.andThen_ok,asInt,asIntOf,Sem.run_pure,hti,hwl,hwc,hcond,Bool.false_eq_true,if_false,run_askRoom,q04e (show 0<P.cellsOf e from b5),if_neg h0,q03s hi hzv,newRow,run_newObj_alloc]
 have hops:∀ {μ:LMap} {a:Act},(∀ x,x∈(Op.makeSlice ty l c).operands->VR h μ (evalO t x) (a.eval x))->a.eval l=.int kl lv∧a.eval c=.int kc cv:=by
  intro μ a hop
  have hvl:=hop l (by simp [Op.operands])
  have hvc:=hop c (by simp [Op.operands])
  rw [hl] at hvl
  rw [hc] at hvc
  generalize a.eval l=ql at *
  generalize a.eval c=qc at *
  cases hvl with | int _ _ fl=>
  cases hvc with | int _ _ fc=>
  exact ⟨rfl,rfl⟩
 split at he
 ·rename_i k hk
  obtain ⟨_,h1,i,zv,hi,hzv,hzc⟩:=q059 hk
  refine ⟨_,_,he,.of_value fun o a w μ ho hop H=>?_⟩
  obtain ⟨hql,hqc⟩:=hops hop
  obtain ⟨μ',q1,q2,q3⟩:=H.newTable (w':=w.alloc (.cells ((Array.range (cv.toNat*P.cellsOf e)).map fun i=>zv.cells[i%zv.cells.size]!) e)) k (show lv.toNat<=cv.toNat by omega) rfl rfl rfl rfl (by simp [h1]) (fun j hj=>by
   rw [hzc,h1]
   simp [hj,Nat.mod_one])
  exact ⟨_,_,μ',run o a w i zv ho hql hqc hi hzv,q3,q1,q2⟩
 split at he
 case h_2=>cases he
 rename_i blk hz
 obtain ⟨i,zv,hi,hzv,hsz,hzs,hne,hpl,hrow⟩:=q058 hz b5
 refine ⟨_,_,he,.of_value fun o a w μ ho hop H=>?_⟩
 obtain ⟨hql,hqc⟩:=hops hop
 obtain ⟨r1,r2⟩:=H.allocRow hpl (w':=w.alloc (.cells ((Array.range (cv.toNat*P.cellsOf e)).map fun i=>zv.cells[i%zv.cells.size]!) e)) (T:=e) rfl rfl rfl rfl (hrow hzs h μ)
 exact ⟨_,_,_,run o a w i zv ho hql hqc hi hzv,VR.newSlice hpl hne (by omega:lv.toNat<=cv.toNat),r1,r2⟩
theorem q05c {ty:TypeId}{x:Operand}{e:TypeId}(hu:P.underlying ty=some (.slice e))(hx:evalO t x=.nils):OpSem P ro (.call ⟨.builtin .cap,#[x],#[ty]⟩) t h (.int .i64 0) h:=by
 refine .of_pure fun o a w μ ho hop H=>?_
 have hv:=hop x (by simp [Op.operands,Call.operands])
 rw [hx] at hv
 generalize hq:a.eval x=q at *
 cases hv
 exact ⟨_,by simp [execOp,ho,resolve,invoke,builtin,hq,Builtin.cap_,run_underlying hu,goInt],.int _ _ (by decide)⟩
theorem q05d {ty:TypeId}{x:Operand}{c:Call}{K:AV->Option α}(hcall:c=⟨.builtin .len,#[x],#[ty]⟩)(he:goLen P ty (evalO t x) K=some r):
  ∃ v,K v=some r∧OpSem P ro (.call c) t h v h:=by
 subst hcall
 have ops:∀ {μ:LMap} {a:Act},(∀ y,y∈(Op.call ⟨.builtin .len,#[x],#[ty]⟩).operands->VR h μ (evalO t y) (a.eval y))->VR h μ (evalO t x) (a.eval x):=
  fun hop=>hop x (by simp [Op.operands,Call.operands])
 unfold goLen at he
 have fitsN:∀ n:Nat,n<=9223372036854775807->fits .i64 (n:Int)=true:=fun n hn=>by rw [q02k];simp only [kmin,kmax];omega
 split at he
 ·rename_i e p len cap es ex hu hx
  obtain ⟨hb,hk⟩:=q008 he
  rw [Nat.ble_eq] at hb
  refine ⟨_,hk,.of_pure fun o a w μ ho hop H=>?_⟩
  have hv:=ops hop
  rw [hx] at hv
  generalize hq:a.eval x=q at *
  obtain ⟨oa,cap',L,rfl,_⟩:=hv.slice_inv
  exact ⟨_,by simp [execOp,ho,resolve,invoke,builtin,hq,Builtin.len_,run_underlying hu,goInt],.int _ _ (fitsN _ hb)⟩
 ·rename_i e hu hx
  refine ⟨_,he,.of_pure fun o a w μ ho hop H=>?_⟩
  have hv:=ops hop
  rw [hx] at hv
  generalize hq:a.eval x=q at *
  cases hv
  exact ⟨_,by simp [execOp,ho,resolve,invoke,builtin,hq,Builtin.len_,run_underlying hu,goInt],.int _ _ (by decide)⟩
 ·rename_i s hu hx
  obtain ⟨hb,hk⟩:=q008 he
  rw [Nat.ble_eq] at hb
  refine ⟨_,hk,.of_pure fun o a w μ ho hop H=>?_⟩
  have hv:=ops hop
  rw [hx] at hv
  generalize hq:a.eval x=q at *
  cases hv
  exact ⟨.int .i64 (s.length:Int),by simp [execOp,ho,resolve,invoke,builtin,hq,Builtin.len_,run_underlying hu,goInt];rfl,.int _ _ (fitsN _ hb)⟩
 ·rename_i n e hu
  obtain ⟨hb,hk⟩:=q008 he
  rw [Nat.ble_eq] at hb
  refine ⟨_,hk,.of_pure fun o a w μ ho hop H=>?_⟩
  exact ⟨_,by simp [execOp,ho,resolve,invoke,builtin,Builtin.len_,run_underlying hu,goInt],.int _ _ (fitsN _ hb)⟩
 ·cases he
end
end Go.AM
