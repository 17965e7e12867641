/- A part of a proof about the given program: an abstract machine, what the given functions come to, and plain laws. -/
import Derived.Test.YtoginabccpjeoaaMachE
import Derived.Test.YtoginabccpjeoaaMachA
set_option linter.unusedVariables false
set_option linter.unusedSimpArgs false
namespace Go.AM
section
variable {α:Type} {r:α} {P:Program} {ro:Nat}
theorem q09d {h:Heap}{n:Nat}{v:AV}(hs:Scoped h v)(hr:refsBelow n v=true):Scoped (h.take n) v:=by
 have place:∀ {p:Place} {L:Nat},segLenAt h p.b p.s=some L->Nat.blt p.b.b n=true->segLenAt (h.take n) p.b p.s=some L:=by
  intro p L hl hb
  rw [Nat.blt_eq] at hb
  unfold segLenAt at *
  rw [q00k (h:=h) (h':=h.take n) (κ:=p.b) rfl (by rw [List.getElem?_take,if_pos hb])]
  exact hl
 have num:∀ (b:Bool->Scoped h .undef) (ss:List AV),(∀ seg,seg∈ss->∀ v,v∈segVals seg->(∃ k n,v=.int k n)∨(∃ b,v=.bool b)∨(∃ s,v=.str s)∨v=.nils)->∀ i,Scoped (h.take n) ((flat ss).getD i .undef):=by
  intro _ ss hss i
  rw [List.getD_eq_getElem?_getD]
  cases hq:(flat ss)[i]? with
  | none=>exact .undef
  | some v=>
   simp only [Option.getD_some]
   obtain ⟨seg,h1,h2⟩:=List.mem_flatMap.1 (List.mem_of_getElem? hq)
   rcases hss seg h1 v h2 with ⟨k,n,rfl⟩ | ⟨b,rfl⟩ | ⟨s,rfl⟩ | rfl
   ·exact .int _ _
   ·exact .bool _
   ·exact .str _
   ·exact .nils
 have aggs:∀ ss:List AV,(ss.all fun
   | .ints .. | .bools ..=>true
   | .vals vs=>vs.all fun
    | .bool _ | .int _ _ | .str _ | .nils=>true
    | _=>false
   | _=>false)=true->Scoped (h.take n) (.agg ss):=by
  intro ss hss
  refine .agg ss (num (fun _=>.undef) ss fun seg h1 v h2=>?_)
  have h3:=List.all_eq_true.1 hss seg h1
  cases seg<;>simp only [Bool.false_eq_true] at h3
  ·rename_i k m f
   simp only [segValsOf,List.mem_map] at h2
   obtain ⟨i,_,rfl⟩:=h2
   exact .inl ⟨_,_,rfl⟩
  ·rename_i m f
   simp only [segValsOf,List.mem_map] at h2
   obtain ⟨i,_,rfl⟩:=h2
   exact .inr (.inl ⟨_,rfl⟩)
  ·rename_i vs
   have h4:=List.all_eq_true.1 h3 v h2
   cases v<;>simp only [Bool.false_eq_true] at h4
   ·exact .inr (.inl ⟨_,rfl⟩)
   ·exact .inl ⟨_,_,rfl⟩
   ·exact .inr (.inr (.inl ⟨_,rfl⟩))
   ·exact .inr (.inr (.inr rfl))
 cases hs with
 | undef=>exact .undef
 | bool=>exact .bool _
 | int=>exact .int _ _
 | str=>exact .str _
 | nils=>exact .nils
 | ptr p L h1 h2=>exact .ptr p L (place h1 hr) h2
 | rptr p c L h1 h2=>exact .rptr p c L (place h1 hr) h2
 | slice p len cap es ex L h1 h2=>exact .slice p len cap es ex L (place h1 hr) h2
 | func f caps h1=>
  refine .func f caps fun i=>?_
  rw [List.getD_eq_getElem?_getD]
  cases hq:caps[i]? with
  | none=>exact .undef
  | some v=>
   have h2:=List.all_eq_true.1 (show caps.all _=true from hr) v (List.mem_of_getElem? hq)
   have h3:=h1 i
   rw [List.getD_eq_getElem?_getD,hq] at h3
   simp only [Option.getD_some] at h3 ⊢
   cases v<;>simp only [Bool.false_eq_true] at h2
   ·exact .bool _
   ·exact .int _ _
   ·cases h3 with | ptr _ L g1 g2=>exact .ptr _ L (place g1 h2) g2
 | agg ss _=>exact aggs ss hr
 | tuple vs h1=>
  refine .tuple vs fun i=>?_
  rw [List.getD_eq_getElem?_getD]
  cases hq:vs[i]? with
  | none=>exact .undef
  | some v=>
   have h2:=List.all_eq_true.1 (show vs.all _=true from hr) v (List.mem_of_getElem? hq)
   have h3:=h1 i
   rw [List.getD_eq_getElem?_getD,hq] at h3
   simp only [Option.getD_some] at h3 ⊢
   cases v<;>simp only [Bool.false_eq_true] at h2
   ·exact .bool _
   ·exact .int _ _
   ·exact .str _
   ·cases h3 with | slice _ _ _ _ _ L g1 g2=>exact .slice _ _ _ _ _ L (place g1 h2) g2
   ·exact .nils
   ·exact aggs _ h2
theorem q09e {h:Heap}{n:Nat}(hs:ScopedH h)(hr:∀ b,b∈h.take n->∀ seg,seg∈b->refsBelow n seg=true):ScopedH (h.take n):=by
 intro b ss hb i v hv
 have hlt:=q00j ⟨_,hb⟩
 rw [List.length_take] at hlt
 have hb':blk? h b=some ss:=by
  rw [q00k (h:=h) (h':=h.take n) (κ:=b) rfl (by rw [List.getElem?_take,if_pos (by omega)])] at hb
  exact hb
 have h1:=hs b ss hb' i v hv
 rcases q00i hb with ⟨_,hraw,_⟩ | ⟨_,k,_,xs,_,_,_,rfl⟩
 case inr=>
  simp only [flat,List.flatMap_cons,List.flatMap_nil,List.append_nil,segVals,segValsOf,List.getElem?_map] at hv
  cases hq:xs[i]? with
  | none=>rw [hq] at hv;cases hv
  | some m=>rw [hq] at hv;cases hv;exact .int _ _
 obtain ⟨seg,h2,h3⟩:=List.mem_flatMap.1 (List.mem_of_getElem? hv)
 have h4:=hr ss (List.mem_of_getElem? hraw) seg h2
 cases seg<;>simp only [segValsOf,List.not_mem_nil] at h3
 ·obtain ⟨j,_,rfl⟩:=List.mem_map.1 h3;exact .int _ _
 ·obtain ⟨j,_,rfl⟩:=List.mem_map.1 h3;exact .int _ _
 ·obtain ⟨j,_,rfl⟩:=List.mem_map.1 h3;exact .bool _
 ·have h5:=List.all_eq_true.1 (show List.all _ _=true from h4) v h3
  apply q09d h1
  cases v<;>simp only [Bool.false_eq_true] at h5<;>first | exact h5 | rfl
 ·simp only [recVals,List.mem_map] at h3
  obtain ⟨j,_,rfl⟩:=h3
  rename_i ks xs _
  cases ks.getD (j%ks.length) none
  ·exact .bool _
  ·exact .int _ _
 ·obtain ⟨q,_,rfl⟩:=List.mem_map.1 h3
  exact q09d h1 h4
 ·obtain ⟨j,_,rfl⟩:=List.mem_map.1 h3;exact .str _
theorem HR.cut {h:Heap}{μ:LMap}{w:World}{n:Nat}(H:HR ro h μ w)(hn:ro<=n)(hr:h.length<=n∨∀ b,b∈h.take n->∀ seg,seg∈b->refsBelow n seg=true):HR ro (h.take n) μ w:=by
 refine H.restrict (List.take_prefix _ _) ?_ ?_
 ·rcases hr with h1 | h1
  ·rw [List.take_of_length_le h1];exact H.scope
  ·exact q09e H.scope h1
 ·rw [List.length_take]
  have:=H.rol
  omega
theorem VR.cut {h:Heap}{μ:LMap}{n:Nat}{v:AV}{c:Value}(hv:VR h μ v c)(hr:h.length<=n∨refsBelow n v=true):VR (h.take n) μ v c:=by
 refine hv.restrict (List.take_prefix _ _) ?_
 rcases hr with h1 | h1
 ·rw [List.take_of_length_le h1];exact hv.inScope
 ·exact q09d hv.inScope h1
theorem Ext.cut {h h':Heap}{μ μ':LMap}{w w':World}{n:Nat}(X:Ext ro h μ w h' μ' w')(hn:h.length<=n):Ext ro h μ w (h'.take n) μ' w':=by
 have hraw:∀ b,b<h.length->(h'.take n)[b]?=h'[b]?:=fun b hb=>by rw [List.getElem?_take,if_pos (by omega)]
 have hget:∀ b:Key,b.b<h.length->blk? (h'.take n) b=blk? h' b:=fun b hb=>q00k rfl (hraw b.b hb)
 refine ⟨⟨fun b s L hl=>?_⟩,X.os,X.tape,X.output,X.size,by rw [List.length_take];have:=X.len;omega,X.frame,fun b h1 h2=>?_,fun b k base room h1 h2=>X.moved b k base room ?_ h2,X.froz⟩
 ·obtain ⟨L',h1,h2,h3⟩:=X.le.lens b s L hl
  have hb:=q03i hl
  refine ⟨L',?_,h2,fun e=>?_⟩
  ·unfold segLenAt at *
   rw [hget b hb];exact h1
  ·obtain ⟨h4,h5⟩:=h3 e
   refine ⟨?_,h5⟩
   rw [<- h4]
   unfold segOff
   rw [q00a (q03h h1) (hget b hb)]
 ·rw [hraw b h2]
  exact X.rob b h1 h2
 ·have hlt:=q00j h1
  rw [List.length_take] at hlt
  obtain ⟨ss,hb⟩:=h1
  exact ⟨ss,by rw [<- q00k (h:=h') (h':=h'.take n) (κ:=b) rfl (by rw [List.getElem?_take,if_pos (by omega)])];exact hb⟩
theorem q09f (ks gs:List Nat):∀ (t:List AV) (i j:Nat),(keepT ks gs i t).getD j .undef=.undef∨(keepT ks gs i t).getD j .undef=t.getD j .undef∨(keepT ks gs i t).getD j .undef=unex (t.getD j .undef):=by
 intro t
 induction t with
 | nil=>intro i j;left;rfl
 | cons v t ih=>
  intro i j
  cases j with
  | zero=>
   simp only [keepT,List.getD_cons_zero]
   cases elemB i ks with
   | false=>left;rfl
   | true=>
    cases elemB i gs with
    | false=>right;left;rfl
    | true=>right;right;rfl
  | succ j=>simpa [keepT] using ih (i+1) j
theorem q09g (ks gs:List Nat):∀ (t:List AV) (i:Nat),(keepT ks gs i t).length=t.length:=by
 intro t
 induction t with
 | nil=>intro i;rfl
 | cons v t ih=>intro i;simp [keepT,ih]
theorem VR.unex {h:Heap}{μ:LMap}{w:World}(H:HR ro h μ w){v:AV}{c:Value}(hv:VR h μ v c):VR h μ (unex v) c:=by
 unfold Go.AM.unex
 split
 ·rename_i p l cp es
  cases hq:Nat.ble (p.o+mulS cp es) p.n with
  | false=>exact .undef _
  | true=>
   rw [cond_true]
   rw [Nat.ble_eq,q011] at hq
   cases hv with
   | slice _ _ _ _ _ a cap' L h1 h2 h3 h4=>
    refine .slice _ _ _ _ _ _ _ L h1 h2 h3 fun e=>?_
    obtain ⟨g1,g2,g3⟩:=h4 e
    refine ⟨g1,fun e=>(by cases e),?_⟩
    rcases g3 with ⟨k,base,room,m1,m2,m3⟩ | g3
    ·refine .inl ⟨k,base,room,m1,m2,fun _=>?_⟩
     have:=g2 rfl
     subst this
     obtain ⟨ss,hb,hs,hL⟩:=q00m h1
     have hroom:=(H.at_ _ _ _ _ _ hb m1).2.1
     rw [q00n hb]
     have hfl:lenOf (ss.take p.s)+L<=(flat ss).length:=by
      rw [q002]
      have e1:=q00o hs
      have e2:lenOf ss=lenOf (ss.take p.s)+lenOf (ss.drop p.s):=by
       have hap:∀ x y:List AV,lenOf (x++y)=lenOf x+lenOf y:=fun x y=>by simp [lenOf]
       have:=hap (ss.take p.s) (ss.drop p.s)
       rwa [List.take_append_drop] at this
      rw [e2,e1]
      simp only [lenOf,List.map_cons,List.sum_cons,hL]
      omega
     omega
    ·exact .inr g3
 ·exact hv
theorem q09h {ks gs:List Nat}{n:Nat}{st s:St}(he:trimSt ks gs n st=some s){h0:Heap}{μ0 μ:LMap}{w0 w:World}{a:Act}(hn:h0.length=n)(ht:TR st.h μ st.t a.tmps)(H:HR ro st.h μ w)(X:Ext ro h0 μ0 w0 st.h μ w)(hro:ro<=n):
  TR s.h μ s.t a.tmps∧HR ro s.h μ w∧Ext ro h0 μ0 w0 s.h μ w∧s.h.length=n:=by
 unfold trimSt at he
 simp only [q07l,q07o] at he
 cases hq:(Nat.beq (st.h.take n).length st.h.length||(allB (refsBelow n) (keepT ks gs 0 st.t)&&allB (fun b=>allB (refsBelow n) b) (st.h.take n))) with
 | false=>rw [hq] at he;cases he
 | true=>
  rw [hq] at he
  simp only [cond_true,Option.some.injEq] at he
  subst he
  simp only
  simp only [Bool.or_eq_true,Bool.and_eq_true] at hq
  have hc:st.h.length<=n∨(∀ v,v∈keepT ks gs 0 st.t->refsBelow n v=true)∧∀ b,b∈st.h.take n->∀ seg,seg∈b->refsBelow n seg=true:=by
   rcases hq with h1 | ⟨h1,h2⟩
   ·left
    have:=Nat.eq_of_beq_eq_true h1
    rw [List.length_take] at this
    omega
   ·exact .inr ⟨q024 h1,fun b hb=>q024 (q024 h2 b hb)⟩
  have hlen:=X.len
  refine ⟨⟨by rw [q09g];exact ht.1,fun i=>?_⟩,H.cut hro (hc.imp id (·.2)),X.cut (by omega),by rw [List.length_take];omega⟩
  have h1:VR st.h μ ((keepT ks gs 0 st.t).getD i .undef) (a.tmps.getD i Go.undef):=by
   rcases q09f ks gs st.t 0 i with e | e | e
   ·rw [e];exact .undef _
   ·rw [e];exact ht.2 i
   ·rw [e];exact (ht.2 i).unex H
  refine h1.cut (hc.imp id fun hh=>?_)
  rw [List.getD_eq_getElem?_getD]
  cases hq:(keepT ks gs 0 st.t)[i]? with
  | none=>rfl
  | some v=>exact hh.1 v (List.mem_of_getElem? hq)
def exitOf:AExit->Exit
 | .normal=>.normal
 | .exit i=>.exit i
 | .ret=>.ret
def Left (ro:Nat)(st:St)(ae:AExit)(st':St)(a:Act)(w:World)(μ:LMap):Exit->Act->World->Prop:=fun e a' w'=>
 e=exitOf ae∧∃ μ',TR st'.h μ' st'.t a'.tmps∧a'.defers=a.defers∧HR ro st'.h μ' w'∧Ext ro st.h μ w st'.h μ' w'
def CodeSem (P:Program)(ro:Nat)(c:Code)(st:St)(ae:AExit)(st':St):Prop:=
 ∀ (a:Act) (w:World) (μ:LMap),TR st.h μ st.t a.tmps->HR ro st.h μ w->c.wp P (Left ro st ae st' a w μ) a w
theorem q09i {c:Code}{body:St->(AExit->St->Option α)->Option α}{ks gs:List Nat}{n:Nat}(hro:ro<=n)
  (hbody:∀ st K,body st K=some r->∃ ae st',K ae st'=some r∧CodeSem P ro c st ae st'):∀ (fuel:Nat) (s:St) (K:AExit->St->Option α),loopN (trimSt ks gs n) body fuel s K=some r->s.h.length=n ->
  ∃ ae st',K ae st'=some r∧ae≠.normal∧∀ (a:Act) (w:World) (μ:LMap),TR s.h μ s.t a.tmps->HR ro s.h μ w->∀ (b:Frame) (k:List Item) (cs:List Frame),
   ∃ e a' w',Left ro s ae st' a w μ e a' w'∧Arrives P (lone (b.at a (.code c::.inLoop c::k)) cs w) b k cs e a' w':=by
 intro fuel
 induction fuel with
 | zero=>intro s K he;simp [loopN] at he
 | succ fuel ih=>
  intro s K he hn
  simp only [loopN] at he
  obtain ⟨ae,st',hk,hsem⟩:=hbody s _ he
  cases ae with
  | normal=>
   simp only at hk
   split at hk
   ·rename_i s2 hs2
    have hs2n:s2.h.length=n∨¬ ∃ (a:Act) (w:World) (μ:LMap),TR s.h μ s.t a.tmps∧HR ro s.h μ w:=by
     by_cases hx:∃ (a:Act) (w:World) (μ:LMap),TR s.h μ s.t a.tmps∧HR ro s.h μ w
     ·obtain ⟨a,w,μ,ht,H⟩:=hx
      obtain ⟨e,a',w',⟨_,μ',q1,_,q3,q4⟩,_⟩:=hsem a w μ ht H default [] []
      exact .inl (q09h hs2 hn q1 q3 q4 hro).2.2.2
     ·exact .inr hx
    rcases hs2n with hs2n | hnx
    ·obtain ⟨ae,st2,hk2,hne,hrest⟩:=ih s2 K hk hs2n
     refine ⟨ae,st2,hk2,hne,fun a w μ ht H b k cs=>?_⟩
     obtain ⟨e,a1,w1,⟨rfl,μ1,q1,q2,q3,q4⟩,harr⟩:=hsem a w μ ht H b (.inLoop c::k) cs
     obtain ⟨r1,r2,r3,_⟩:=q09h hs2 hn q1 q3 q4 hro
     obtain ⟨e2,a2,w2,⟨h1,μ2,h2,h3,h4,h5⟩,harr2⟩:=hrest a1 w1 μ1 r1 r2 b k cs
     exact ⟨e2,a2,w2,⟨h1,μ2,h2,h3.trans q2,h4,r3.trans h5⟩,.of_steps (Steps.trans harr (.one step_inLoop)) harr2⟩
    ·-- nobody comes here: any way out will do
     have:∀ (fuel:Nat) (s:St),loopN (trimSt ks gs n) body fuel s K=some r->∃ ae st',K ae st'=some r∧ae≠.normal:=by
      intro fuel
      induction fuel with
      | zero=>intro s he;simp [loopN] at he
      | succ fuel ih2=>
       intro s he
       simp only [loopN] at he
       obtain ⟨ae,st',hk,_⟩:=hbody s _ he
       cases ae with
       | normal=>
        simp only at hk
        split at hk
        ·exact ih2 _ hk
        ·cases hk
       | exit i=>exact ⟨.exit i,st',hk,by simp⟩
       | ret=>exact ⟨.ret,st',hk,by simp⟩
     obtain ⟨ae,st2,hk2,hne⟩:=this fuel s2 hk
     exact ⟨ae,st2,hk2,hne,fun a w μ ht H=>absurd ⟨a,w,μ,ht,H⟩ hnx⟩
   ·cases hk
  | exit i=>
   refine ⟨.exit i,st',hk,by simp,fun a w μ ht H b k cs=>?_⟩
   obtain ⟨e,a1,w1,hl,harr⟩:=hsem a w μ ht H b (.inLoop c::k) cs
   have he:=hl.1
   subst he
   exact ⟨_,a1,w1,hl,.pass (x:=.inLoop c) rfl (fun _ _=>.inl (by simp [exitOf])) harr⟩
  | ret=>
   refine ⟨.ret,st',hk,by simp,fun a w μ ht H b k cs=>?_⟩
   obtain ⟨e,a1,w1,hl,harr⟩:=hsem a w μ ht H b (.inLoop c::k) cs
   have he:=hl.1
   subst he
   exact ⟨_,a1,w1,hl,.pass (x:=.inLoop c) rfl (fun _ _=>.inl (by simp [exitOf])) harr⟩
theorem q09j {ann:LoopAnn}{n:Nat}{K:AExit->St->Option α}{ae:AExit}{st:St}(he:leaveLoop ann n K ae st=some r):∃ ks st',K ae st'=some r∧trimSt ks [] n st=some st':=by
 have key:∀ (ks:List Nat) (o:Option St),trimSt ks [] n st=o->(match o with | some s=>K ae s | none=>none)=some r->∃ ks st',K ae st'=some r∧trimSt ks [] n st=some st':=by
  intro ks o ho h
  cases o with
  | none=>cases h
  | some s=>exact ⟨ks,s,h,ho⟩
 cases ae with
 | normal=>exact key ann.out _ rfl he
 | exit i=>exact key ann.out _ rfl he
 | ret=>exact key ann.ret _ rfl he
theorem Left.refl {st:St}{a:Act}{w:World}{μ:LMap}(ht:TR st.h μ st.t a.tmps)(H:HR ro st.h μ w)(ae:AExit):Left ro st ae st a w μ (exitOf ae) a w:=⟨rfl,μ,ht,rfl,H,.refl _ _ _ _⟩
theorem q09k {c:Code}{body:St->(AExit->St->Option α)->Option α}(hbody:∀ st K,body st K=some r->∃ ae st',K ae st'=some r∧CodeSem P ro c st ae st'){a:LoopAnn}{fuel:Nat}{st s:St}{K:AExit->St->Option α}
  (hs:trimSt a.head a.grow st.h.length st=some s) (he:loopN (trimSt a.head a.grow st.h.length) body fuel s (leaveLoop a st.h.length K)=some r):
  ∃ ae st',K ae st'=some r∧CodeSem P ro (.loop c) st ae st':=by
 by_cases hx:∃ (a:Act) (w:World) (μ:LMap),TR st.h μ st.t a.tmps∧HR ro st.h μ w
 ·obtain ⟨a0,w0,μ0,ht0,H0⟩:=hx
  have hsn:=(q09h hs rfl ht0 H0 (.refl _ _ _ _) H0.rol).2.2.2
  obtain ⟨ae,st1,hk,hne,hsem⟩:=q09i H0.rol hbody fuel s _ he hsn
  obtain ⟨ks,st2,hk2,htr⟩:=q09j hk
  refine ⟨ae,st2,hk2,fun a w μ ht H b k cs=>?_⟩
  obtain ⟨r1,r2,r3,_⟩:=q09h hs rfl ht H (.refl _ _ _ _) H.rol
  obtain ⟨e,a1,w1,⟨q0,μ1,q1,q2,q3,q4⟩,harr⟩:=hsem a w μ r1 r2 b k cs
  obtain ⟨u1,u2,u3,_⟩:=q09h htr rfl q1 q3 (r3.trans q4) H.rol
  exact ⟨e,a1,w1,⟨q0,μ1,u1,q2,u2,u3⟩,.of_steps (.one step_loop) harr⟩
 ·have:∀ (fuel:Nat) (s:St) (K:AExit->St->Option α),loopN (trimSt a.head a.grow st.h.length) body fuel s K=some r->∃ ae st',K ae st'=some r:=by
   intro fuel
   induction fuel with
   | zero=>intro s K he;simp [loopN] at he
   | succ fuel ih2=>
    intro s K he
    simp only [loopN] at he
    obtain ⟨ae,st',hk,_⟩:=hbody s _ he
    cases ae with
    | normal=>
     simp only at hk
     split at hk
     ·exact ih2 _ _ hk
     ·cases hk
    | exit i=>exact ⟨.exit i,st',hk⟩
    | ret=>exact ⟨.ret,st',hk⟩
  obtain ⟨ae,st1,hk⟩:=this _ _ _ he
  obtain ⟨ks,st2,hk2,_⟩:=q09j hk
  exact ⟨ae,st2,hk2,fun a w μ ht H=>absurd ⟨a,w,μ,ht,H⟩ hx⟩
def LoopOk (P:Program)(s:LSum α)(c:Code):Prop:=
 ∀ (ro:Nat) (st:St) (K:AExit->St->Option α) (r:α),s ro st K=some r->∃ ae st',K ae st'=some r∧CodeSem P ro (.loop c) st ae st'
def CutOk (P:Program)(s:LSum α)(c:Code):Prop:=
 ∀ (ro:Nat) (st:St) (K:AExit->St->Option α) (r:α),s ro st K=some r->∃ ae st',K ae st'=some r∧CodeSem P ro c st ae st'
theorem q09l {call:FuncId->Sum α}(hcall:CallsT P call)(hm:P.follows .mixedOrders=true){ls:Nat->Option (LSum α)}{ann:Nat->LoopAnn}{lf:Nat}:∀ (c:Code),(∀ c',c'∈loopsIn c->∀ s,ls (firstRegion c')=some s->LoopOk P s c')∧(∀ y,y∈tailsIn c->∀ s,ls (cutKey y)=some s->CutOk P s y) ->
  ∀ (st:St) (K:AExit->St->Option α),codeK P ro call ls ann lf c st K=some r->∃ ae st',K ae st'=some r∧CodeSem P ro c st ae st':=by
 intro c
 induction c with
 | skip=>exact fun _ st K he=>⟨.normal,st,he,fun a w μ ht H=>wp_skip (Left.refl ht H .normal)⟩
 | label l=>exact fun _ st K he=>⟨.normal,st,he,fun a w μ ht H=>wp_label (Left.refl ht H .normal)⟩
 | exit id=>exact fun _ st K he=>⟨.exit id,st,he,fun a w μ ht H=>wp_exit (Left.refl ht H (.exit id))⟩
 | ret=>exact fun _ st K he=>⟨.ret,st,he,fun a w μ ht H=>wp_ret (Left.refl ht H .ret)⟩
 | region id ops draw=>
  intro _ st K he
  simp only [codeK] at he
  obtain ⟨hb,hk⟩:=q008 he
  cases draw with
  | false=>
   obtain ⟨st',h1,h2⟩:=q07w (id:=id) (K:=K .normal) hcall hk
   exact ⟨.normal,st',h1,fun a w μ ht H=>h2 a w μ _ ht H fun a' w' μ' q1 q2 q3 q4=>⟨rfl,μ',q1,q2,q3,q4⟩⟩
  | true=>
   obtain ⟨st',h1,h2⟩:=q09c (id:=id) (K:=K .normal) hcall hm (by simpa using hb) hk
   exact ⟨.normal,st',h1,fun a w μ ht H=>h2 a w μ _ ht H fun a' w' μ' q1 q2 q3 q4=>⟨rfl,μ',q1,q2,q3,q4⟩⟩
 | seq x y ihx ihy=>
  intro hls st K he
  have ihx:=ihx ⟨fun c' hc=>hls.1 c' (List.mem_append_left _ hc),fun q hq=>hls.2 q (List.mem_cons_of_mem _ (List.mem_append_left _ hq))⟩
  have ihy:=ihy ⟨fun c' hc=>hls.1 c' (List.mem_append_right _ hc),fun q hq=>hls.2 q (List.mem_cons_of_mem _ (List.mem_append_right _ hq))⟩
  simp only [codeK] at he
  obtain ⟨ae,st1,hk,hs⟩:=ihx st _ he
  cases ae with
  | normal=>
   have hk:(match ls (cutKey y) with | some s=>s ro st1 K | none=>codeK P ro call ls ann lf y st1 K)=some r:=hk
   have hy:∃ ae st2,K ae st2=some r∧CodeSem P ro y st1 ae st2:=by
    split at hk
    ·rename_i s hs'
     exact hls.2 y (List.mem_cons_self ..) s hs' ro st1 K r hk
    ·exact ihy st1 K hk
   obtain ⟨ae2,st2,hk2,hs2⟩:=hy
   refine ⟨ae2,st2,hk2,fun a w μ ht H=>wp_seq (wp_mono (hs a w μ ht H) ?_)⟩
   rintro e a1 w1 ⟨rfl,μ1,q1,q2,q3,q4⟩
   exact wp_mono (hs2 a1 w1 μ1 q1 q3) fun e a2 w2 ⟨h1,μ2,h2,h3,h4,h5⟩=>⟨h1,μ2,h2,h3.trans q2,h4,q4.trans h5⟩
  | exit i=>
   refine ⟨.exit i,st1,hk,fun a w μ ht H=>wp_seq (wp_mono (hs a w μ ht H) ?_)⟩
   intro e a1 w1 hl
   have:=hl.1
   subst this
   exact hl
  | ret=>
   refine ⟨.ret,st1,hk,fun a w μ ht H=>wp_seq (wp_mono (hs a w μ ht H) ?_)⟩
   intro e a1 w1 hl
   have:=hl.1
   subst this
   exact hl
 | cond c x y ihx ihy=>
  intro hls st K he
  have ihx:=ihx ⟨fun c' hc=>hls.1 c' (List.mem_append_left _ hc),fun q hq=>hls.2 q (List.mem_append_left _ hq)⟩
  have ihy:=ihy ⟨fun c' hc=>hls.1 c' (List.mem_append_right _ hc),fun q hq=>hls.2 q (List.mem_append_right _ hq)⟩
  simp only [codeK] at he
  split at he
  ·rename_i b hc
   have hknow:knowO st.t c b=st.t:=by
    cases c<;>simp only [knowO]
    exact q07r hc
   have hcv:∀ {a:Act} {μ:LMap},TR st.h μ st.t a.tmps->a.eval c=.bool b:=fun ht=>by
    have:=ht.eval c
    rw [hc] at this
    generalize Act.eval _ c=q at *
    cases this
    rfl
   rcases q007 he with ⟨rfl,hk⟩ | ⟨rfl,hk⟩
   ·rw [q07l,hknow] at hk
    obtain ⟨ae,st',h1,h2⟩:=ihx st K hk
    exact ⟨ae,st',h1,fun a w μ ht H=>wp_cond_true (hcv ht) (h2 a w μ ht H)⟩
   ·rw [q07l,hknow] at hk
    obtain ⟨ae,st',h1,h2⟩:=ihy st K hk
    exact ⟨ae,st',h1,fun a w μ ht H=>wp_cond_false (hcv ht) (h2 a w μ ht H)⟩
  ·cases he
 | block id c ih=>
  intro hls st K he
  have ih:=ih hls
  simp only [codeK] at he
  obtain ⟨ae,st1,hk,hs⟩:=ih st _ he
  cases ae with
  | normal=>
   refine ⟨.normal,st1,hk,fun a w μ ht H=>wp_block (wp_mono (hs a w μ ht H) ?_)⟩
   intro e a1 w1 hl
   have:=hl.1
   subst this
   exact hl
  | ret=>
   refine ⟨.ret,st1,hk,fun a w μ ht H=>wp_block (wp_mono (hs a w μ ht H) ?_)⟩
   intro e a1 w1 hl
   have:=hl.1
   subst this
   exact hl
  | exit i=>
   rcases q007 hk with ⟨hi,hk2⟩ | ⟨hi,hk2⟩
   ·have:=Nat.eq_of_beq_eq_true hi
    subst this
    refine ⟨.normal,st1,hk2,fun a w μ ht H=>wp_block (wp_mono (hs a w μ ht H) ?_)⟩
    rintro e a1 w1 ⟨rfl,hl⟩
    simp only [exitOf,Exit.inBlock,if_true]
    exact ⟨rfl,hl⟩
   ·refine ⟨.exit i,st1,hk2,fun a w μ ht H=>wp_block (wp_mono (hs a w μ ht H) ?_)⟩
    rintro e a1 w1 ⟨rfl,hl⟩
    have hne:¬ i=id:=fun e=>by subst e;simp at hi
    simp only [exitOf,Exit.inBlock,hne,if_false]
    exact ⟨rfl,hl⟩
 | loop c ih=>
  intro hls st K he
  have ih:=ih ⟨fun c' hc=>hls.1 c' (List.mem_cons_of_mem _ hc),hls.2⟩
  simp only [codeK] at he
  split at he
  ·rename_i s hs
   exact hls.1 c (List.mem_cons_self ..) s hs ro st K r he
  split at he
  ·rename_i s hs
   exact q09k (fun st K=>ih st K) hs he
  ·cases he
 | rangeFunc=>intro _ st K he;simp [codeK] at he
 | scope=>intro _ st K he;simp [codeK] at he
 | goto=>intro _ st K he;simp [codeK] at he
 | refuse=>intro _ st K he;simp [codeK] at he
end
end Go.AM
namespace Go.AM
section ren
def renK (ρ:Nat->Nat)(κ:Key):Key:=⟨ρ κ.b,κ.r⟩
mutual
def ren (ρ:Nat->Nat):AV->AV
 | .ptr p=>.ptr { p with b:=renK ρ p.b }
 | .slice p l c es ex=>.slice { p with b:=renK ρ p.b } l c es ex
 | .func f caps=>.func f (renL ρ caps)
 | .vals vs=>.vals (renL ρ vs)
 | .agg ss=>.agg (renL ρ ss)
 | .tuple vs=>.tuple (renL ρ vs)
 | .undef=>.undef
 | .bool b=>.bool b
 | .int k n=>.int k n
 | .str s=>.str s
 | .nils=>.nils
 | .ints k n f=>.ints k n f
 | .vec k xs=>.vec k xs
 | .bools n f=>.bools n f
 | .recs ks xs=>.recs ks xs
 | .rptr p c=>.rptr { p with b:=renK ρ p.b } c
 | .pool k rows=>.pool k rows
 | .hdr b ids=>.hdr (ρ b) ids
 | .strs xs=>.strs xs
def renL (ρ:Nat->Nat):List AV->List AV
 | []=>[]
 | v::vs=>ren ρ v::renL ρ vs
end
def allIn (bs:List Nat):List Nat->Bool
 | []=>true
 | b::l=>cond (elemB b bs) (allIn bs l) false
def belows (n:Nat):List Nat->List Nat
 | []=>[]
 | b::l=>cond (Nat.blt b n) (b::belows n l) (belows n l)
def aboves (n:Nat):List Nat->List Nat
 | []=>[]
 | b::l=>cond (Nat.blt b n) (aboves n l) (b::aboves n l)
def idxOf (b:Nat):List Nat->Nat
 | []=>0
 | c::l=>cond (Nat.beq b c) 0 (idxOf b l+1)
def distinctB:List Nat->Bool
 | []=>true
 | b::l=>cond (elemB b l) false (distinctB l)
def rhoOf (bs:List Nat)(n i:Nat):Nat:=match bs[i]? with
 | some b=>b
 | none=>n+(i-bs.length)
def setAll:List Nat->List Blk->Heap->Heap
 | b::bs,x::xs,h=>setAll bs xs (h.set b x)
 | _,_,h=>h
def renH (ρ:Nat->Nat):Heap->Heap
 | []=>[]
 | b::h=>renL ρ b::renH ρ h
def liftHeap (bs:List Nat)(h hs:Heap):Heap:=
 setAll bs (renH (rhoOf bs h.length) (hs.take bs.length)) h++renH (rhoOf bs h.length) (hs.drop bs.length)
def getAll (h:Heap):List Nat->Heap
 | []=>[]
 | b::bs=>h.getD b []::getAll h bs
def canonCall {α:Type}(quiet:Bool)(S:Sum α):Sum α:=fun ro args h K=>
 let bs0:=closeRefs h (h.length+1) 0 (addNew [] (refsL args))
 let low:=belows ro bs0
 let bs:=low++aboves ro bs0
 let hs:=getAll h bs
 br (distinctB bs&&(allB (fun b=>Nat.blt b h.length) bs&&(allIn bs (refsL args)&&allB (fun b=>allIn bs (refsL b)) hs)))
  (forceVs (renL (fun b=>idxOf b bs) args) fun args'=>forceH (renH (fun b=>idxOf b bs) hs) fun hs'=>
   S (cond quiet bs.length low.length) args' hs' fun v h'=>K (ren (rhoOf bs h.length) v) (liftHeap bs h h')) none
def prefixB (n:Nat)(l:List Nat):Bool:=Nat.ble n l.length&&allB (fun i=>Nat.beq (l.getD i 0) i) (List.range n)
def packK {α:Type}(ro n:Nat)(v:AV)(h:Heap)(K:AV->Heap->Option α):Option α:=
 let keep:=closeRefs h (h.length+1) 0 (addNew (List.range n) (refs v))
 br (Nat.beq keep.length h.length) (K v h)
  (br (prefixB n keep&&(distinctB keep&&(allB (fun b=>Nat.blt b h.length) keep&&(allIn keep (refs v)&&(allB (fun b=>allIn keep (refsL b)) (getAll h keep)&&allB (fun b=>allB (fun c=>Nat.blt c n) (refsL b)) (h.take ro))))))
   (K (ren (fun b=>idxOf b keep) v) (renH (fun b=>idxOf b keep) (getAll h keep))) (K v h))
end ren
end Go.AM
namespace Go.AM
section run
variable {α:Type} (P:Program)
structure Env (α:Type) where
 ann:FuncId->Nat->LoopAnn
 lf:Nat
 sums:FuncId->Option (Bool×Sum α)
 ls:FuncId->Nat->Option (LSum α)
def callE (E:Env α)(c:FuncId->Sum α)(g:FuncId):Sum α:=match E.sums g with
 | some (q,s)=>canonCall q s
 | none=>canonCall false (c g)
def callK (E:Env α):Nat->FuncId->Sum α
 | 0,_,_,_,_,_=>none
 | d+1,f,ro,args,h,K=>match P.funcs[f]? with
  | some fn=>match fn.body with
   | some c=>br (Nat.ble args.length fn.ntmps) (codeK P ro (callE E (callK E d)) (E.ls f) (E.ann f) E.lf c (forceL (args++List.replicate (fn.ntmps-args.length) .undef) fun t=>⟨t,h⟩) fun e st=>match e with
    | .exit _=>none
    | _=>resultsK P fn.results.toList st.t st.h fun vs=>leaveCall h.length (oneOf vs) st.h (fun v h'=>packK ro h.length v h' K)) none
   | none=>none
  | none=>none
def fin (a:LoopAnn)(n:Nat)(kn:St->Option α)(K:AExit->St->Option α):AExit->St->Option α:=fun e st=>match e with
 | .normal=>match trimSt a.head a.grow n st with
  | some s=>kn s
  | none=>none
 | e=>leaveLoop a n K e st
def bodyK (E:Env α)(d ro:Nat)(f:FuncId)(fn:Func)(i:Nat):St->(AExit->St->Option α)->Option α:=
 codeK P ro (callE E (callK P E d)) (E.ls f) (E.ann f) E.lf (loopOf fn i)
def roundK (E:Env α)(d ro:Nat)(f:FuncId)(fn:Func)(i n:Nat)(st:St)(kn:St->Option α)(K:AExit->St->Option α):Option α:=
 bodyK P E d ro f fn i st (fin (E.ann f i) n kn K)
def Env.base (ann:FuncId->Nat->LoopAnn)(lf:Nat):Env α:={ ann,lf,sums:=fun _=>none,ls:=fun _ _=>none }
def Env.addLoop (E:Env α)(f:FuncId)(i:Nat)(s:LSum α):Env α:={ E with ls:=fun g j=>cond (Nat.beq g f&&Nat.beq j i) (some s) (E.ls g j) }
def Env.addSum (E:Env α)(f:FuncId)(quiet:Bool)(s:Sum α):Env α:={ E with sums:=fun g=>cond (Nat.beq g f) (some (quiet,s)) (E.sums g) }
end run
end Go.AM
namespace Go.AM
section
variable {ρ:Nat->Nat}
theorem q09m (l:List AV):renL ρ l=l.map (ren ρ):=by
 induction l with
 | nil=>rfl
 | cons v l ih=>simp [renL,ih]
theorem q09n (h:Heap):renH ρ h=h.map (renL ρ):=by
 induction h with
 | nil=>rfl
 | cons b h ih=>simp [renH,ih]
theorem q09o:ren ρ .undef=.undef:=by simp [ren]
theorem q09p (v:AV):segVals (ren ρ v)=(segVals v).map (ren ρ):=by
 cases v<;>simp [ren,segValsOf,q09m,Function.comp_def]
 ·rename_i ks xs
  unfold recVals
  rw [List.map_map]
  refine List.map_congr_left fun i _=>?_
  simp only [Function.comp_apply]
  cases ks.getD (i%ks.length) none<;>simp only [convC,ren]
 ·intro a b _
  simp [idCell,ren,renK]
theorem q09q (v:AV):segLen (ren ρ v)=segLen v:=by rw [<- q001,q09p,List.length_map,q001]
theorem q09r (ss:List AV):flat (renL ρ ss)=(flat ss).map (ren ρ):=by
 induction ss with
 | nil=>rfl
 | cons s ss ih=>rw [renL,q004,q004,ih,List.map_append,q09p]
theorem q09s (ss:List AV):lenOf (renL ρ ss)=lenOf ss:=by rw [<- q002,q09r,List.length_map,q002]
theorem q09t (l:List AV)(i:Nat):(l.map (ren ρ)).getD i .undef=ren ρ (l.getD i .undef):=by
 rw [List.getD_eq_getElem?_getD,List.getD_eq_getElem?_getD,List.getElem?_map]
 cases l[i]? with
 | none=>exact q09o.symm
 | some v=>rfl
def Emb (ρ:Nat->Nat)(hs:Heap)(μs:LMap)(h:Heap)(μ:LMap):Prop:=
 ∀ b s L,segLenAt hs b s=some L->segLenAt h (renK ρ b) s=some L∧segOff h (renK ρ b) s=segOff hs b s∧μ (renK ρ b)=μs b
theorem VR.ren {hs h:Heap}{μs μ:LMap}(E:Emb ρ hs μs h μ){v:AV}{c:Value}(hv:VR hs μs v c):VR h μ (ren ρ v) c:=by
 induction hv with
 | undef c=>rw [q09o];exact .undef c
 | bool b=>simp only [Go.AM.ren];exact .bool b
 | int k n h=>simp only [Go.AM.ren];exact .int k n h
 | str s=>simp only [Go.AM.ren];exact .str s
 | nils=>simp only [Go.AM.ren];exact .nils
 | ptr p a L h1 h2 h3=>
  simp only [Go.AM.ren]
  obtain ⟨e1,e2,e3⟩:=E _ _ _ h1
  exact .ptr _ a L e1 h2 fun e=>by simp only;rw [e2,e3];exact h3 e
 | rptr p c a L h1 h2 h3=>
  simp only [Go.AM.ren]
  obtain ⟨e1,e2,e3⟩:=E _ _ _ h1
  exact .rptr _ c a L e1 h2 fun e=>by simp only;rw [e2,e3];exact h3 e
 | slice p len cap es ex a cap' L h1 h2 h3 h4=>
  simp only [Go.AM.ren]
  obtain ⟨e1,e2,e3⟩:=E _ _ _ h1
  exact .slice _ len cap es ex a cap' L e1 h2 h3 fun e=>by simp only;rw [e2,e3];exact h4 e
 | func f caps cs h1 _ ih=>
  simp only [Go.AM.ren,q09m]
  exact .func f _ cs (by simpa using h1) fun i=>by rw [q09t];exact ih i
 | agg ss cs h1 _ ih=>
  simp only [Go.AM.ren]
  exact .agg _ cs (by rw [q09r];simpa using h1) fun i=>by rw [q09r,q09t];exact ih i
 | tuple vs cs h1 _ ih=>
  simp only [Go.AM.ren,q09m]
  exact .tuple _ cs (by simpa using h1) fun i=>by rw [q09t];exact ih i
theorem VR.unren {hs h:Heap}{μs μ:LMap}(E:Emb ρ hs μs h μ){v:AV}(hs':Scoped hs v):∀ {c:Value},VR h μ (Go.AM.ren ρ v) c->VR hs μs v c:=by
 induction hs' with
 | undef=>exact fun _=>.undef _
 | bool b=>intro c hv;simp only [Go.AM.ren] at hv;cases hv;exact .bool b
 | int k n=>intro c hv;simp only [Go.AM.ren] at hv;cases hv with | int _ _ h=>exact .int k n h
 | str s=>intro c hv;simp only [Go.AM.ren] at hv;cases hv;exact .str s
 | nils=>intro c hv;simp only [Go.AM.ren] at hv;cases hv;exact .nils
 | ptr p L h1 h2=>
  intro c hv
  simp only [Go.AM.ren] at hv
  obtain ⟨e1,e2,e3⟩:=E _ _ _ h1
  cases hv with
  | ptr _ a L' g1 g2 g3=>
   simp only at g1 g2 g3
   rw [e1] at g1
   cases g1
   exact .ptr p a L h1 h2 fun e=>by rw [<- e2,<- e3];exact g3 e
 | rptr p k L h1 h2=>
  intro c hv
  simp only [Go.AM.ren] at hv
  obtain ⟨e1,e2,e3⟩:=E _ _ _ h1
  cases hv with
  | rptr _ _ a L' g1 g2 g3=>
   simp only at g1 g2 g3
   rw [e1] at g1
   cases g1
   exact .rptr p k a L h1 h2 fun e=>by rw [<- e2,<- e3];exact g3 e
 | slice p len cap es ex L h1 h2=>
  intro c hv
  simp only [Go.AM.ren] at hv
  obtain ⟨e1,e2,e3⟩:=E _ _ _ h1
  cases hv with
  | slice _ _ _ _ _ a cap' L' g1 g2 g3 g4=>
   simp only at g1 g2 g4
   rw [e1] at g1
   cases g1
   exact .slice p len cap es ex a cap' L h1 h2 g3 fun e=>by rw [<- e2,<- e3];exact g4 e
 | func f caps _ ih=>
  intro c hv
  simp only [Go.AM.ren,q09m] at hv
  cases hv with
  | func _ _ cs h1 h2=>exact .func f caps cs (by simpa using h1) fun i=>ih i (by rw [<- q09t];exact h2 i)
 | agg ss _ ih=>
  intro c hv
  simp only [Go.AM.ren] at hv
  cases hv with
  | agg _ cs h1 h2=>exact .agg ss cs (by rw [q09r] at h1;simpa using h1) fun i=>ih i (by rw [<- q09t,<- q09r];exact h2 i)
 | tuple vs _ ih=>
  intro c hv
  simp only [Go.AM.ren,q09m] at hv
  cases hv with
  | tuple _ cs h1 h2=>exact .tuple vs cs (by simpa using h1) fun i=>ih i (by rw [<- q09t];exact h2 i)
structure Canon (ro ro':Nat) (ρ:Nat->Nat) (h hs:Heap):Prop where
 lt:∀ i,i<hs.length->ρ i<h.length
 inj:∀ i j,i<hs.length->j<hs.length->ρ i=ρ j->i=j
 blk:∀ i,i<hs.length->h[ρ i]?=(hs[i]?).map (renL ρ)
 new:∀ j,ρ (hs.length+j)=h.length+j
 wr:∀ i,ro'<=i->i<hs.length->ro<=ρ i
 rol:ro'<=hs.length
 scope:ScopedH hs
theorem q09u (x:Blk):isPool (renL ρ x)=isPool x∧poolOf (renL ρ x)=poolOf x:=by
 cases x with
 | nil=>exact ⟨rfl,rfl⟩
 | cons v l=>
  cases l with
  | nil=>cases v<;>simp [renL,ren,isPool,poolOf]
  | cons u l=>cases v<;>simp [renL,ren,isPool,poolOf]
theorem q09v {h hs:Heap}{κ:Key}(hb:h[ρ κ.b]?=(hs[κ.b]?).map (renL ρ)):blk? h (renK ρ κ)=(blk? hs κ).map (renL ρ):=by
 unfold blk? renK
 simp only
 rw [hb]
 cases κ.r with
 | zero=>
  simp only
  cases hs[κ.b]? with
  | none=>rfl
  | some x=>
   simp only [Option.map_some,(q09u x).1]
   cases isPool x<;>rfl
 | succ r=>
  simp only
  cases hs[κ.b]? with
  | none=>rfl
  | some x=>
   simp only [Option.map_some,(q09u x).2]
   cases poolOf x with
   | none=>rfl
   | some q=>
    obtain ⟨k,rows⟩:=q
    simp only
    cases rows[r]? with
    | none=>rfl
    | some xs=>simp [renL,ren]
theorem q09w {h hs:Heap}{κ κ':Key}(hb:blk? h κ'=(blk? hs κ).map (renL ρ))(s:Nat):segLenAt h κ' s=segLenAt hs κ s∧(has hs κ->segOff h κ' s=segOff hs κ s):=by
 refine ⟨?_,fun ⟨ss,hx⟩=>?_⟩
 ·unfold segLenAt
  rw [hb]
  cases blk? hs κ with
  | none=>rfl
  | some ss=>
   simp only [Option.map_some,Option.bind_some]
   rw [q09m,List.getElem?_map,Option.map_map]
   congr 1
   funext v
   exact q09q v
 ·unfold segOff
  rw [q009 hx,q009 (ss:=renL ρ ss) (by rw [hb,hx];rfl),q09m,<- List.map_take,<- q09m,q09s]
variable {ro ro':Nat} {h hs:Heap} {μ:LMap} {w:World}
theorem Canon.blkK (C:Canon ro ro' ρ h hs){κ:Key}(hk:κ.b<hs.length):blk? h (renK ρ κ)=(blk? hs κ).map (renL ρ):=q09v (C.blk κ.b hk)
theorem Canon.hasK (C:Canon ro ro' ρ h hs){κ:Key}(hk:has hs κ):has h (renK ρ κ):=by
 have:=C.blkK (q00j hk)
 obtain ⟨x,hx⟩:=hk
 exact ⟨_,by rw [this,hx];rfl⟩
theorem Canon.emb (C:Canon ro ro' ρ h hs):Emb ρ hs (fun b=>μ (renK ρ b)) h μ:=fun b s L hl=>by
 obtain ⟨e1,e2⟩:=q09w (C.blkK (q03i hl)) s
 exact ⟨e1.trans hl,e2 (q03h hl),rfl⟩
theorem q09x {a b:Key}(h:renK ρ a=renK ρ b):ρ a.b=ρ b.b∧a.r=b.r:=by
 unfold renK at h
 injection h with h1 h2
 exact ⟨h1,h2⟩
theorem Canon.small (C:Canon ro ro' ρ h hs)(H:HR ro h μ w):HR ro' hs (fun b=>μ (renK ρ b)) w:=by
 have hget:∀ {b:Key} {ss:Blk},blk? hs b=some ss->blk? h (renK ρ b)=some (renL ρ ss):=fun hb=>by rw [C.blkK (q00j ⟨_,hb⟩),hb];rfl
 refine ⟨fun b ss hb hm=>?_,fun b ss k base room hb hm=>?_,fun b b' k base room base' room' h1 h2 h3 h4 h5=>?_,C.scope,C.rol⟩
 ·have:=H.nil_ _ _ (hget hb) hm
  rw [q09r] at this
  simpa using this
 ·obtain ⟨q1,q2,q3,q4⟩:=H.at_ _ _ _ _ _ (hget hb) hm
  refine ⟨q1,by rw [q09r] at q2;simpa using q2,q3,fun i v hv=>?_⟩
  obtain ⟨c,e1,e2,e3⟩:=q4 i (ren ρ v) (by rw [q09r,List.getElem?_map,hv];rfl)
  exact ⟨c,e1,e2,VR.unren C.emb (C.scope b ss hb i v hv) e3⟩
 ·refine H.inj _ _ _ _ _ _ _ (C.wr b.b h1 (q00j h2)) (C.hasK h2) (C.hasK h3) (fun e=>h4 ?_) h5
  obtain ⟨e1,e2⟩:=q09x e
  have:=C.inj b.b b'.b (q00j h2) (q00j h3) e1
  cases b;cases b'
  simp only at this e2
  rw [this,e2]
theorem Canon.back (C:Canon ro ro' ρ h hs)(H:HR ro h μ w){hs' h'':Heap}{μs':LMap}{w':World}(H':HR ro' hs' μs' w')(X:Ext ro' hs (fun b=>μ (renK ρ b)) w hs' μs' w')
  (f1:∀ i,i<hs.length->h''[ρ i]?=(hs'[i]?).map (renL ρ)) (f2:∀ b,b<h.length->(∀ i,i<hs.length->ρ i≠b)->h''[b]?=h[b]?)
  (f3:∀ j,h''[h.length+j]?=(hs'[hs.length+j]?).map (renL ρ)) (f4:h''.length=h.length+(hs'.length-hs.length)):
  ∃ μ'',Emb ρ hs' μs' h'' μ''∧HR ro h'' μ'' w'∧Ext ro h μ w h'' μ'' w':=by
 have hinj:∀ i j,ρ i=ρ j->i=j:=by
  intro i j e
  by_cases hi:i<hs.length
  ·by_cases hj:j<hs.length
   ·exact C.inj i j hi hj e
   ·obtain ⟨d,rfl⟩:=Nat.exists_eq_add_of_le (Nat.le_of_not_lt hj)
    rw [C.new] at e
    have:=C.lt i hi
    omega
  ·obtain ⟨d,rfl⟩:=Nat.exists_eq_add_of_le (Nat.le_of_not_lt hi)
   by_cases hj:j<hs.length
   ·rw [C.new] at e
    have:=C.lt j hj
    omega
   ·obtain ⟨d',rfl⟩:=Nat.exists_eq_add_of_le (Nat.le_of_not_lt hj)
    rw [C.new,C.new] at e
    omega
 have hinjK:∀ a b:Key,renK ρ a=renK ρ b->a=b:=by
  intro a b e
  obtain ⟨e1,e2⟩:=q09x e
  have:=hinj _ _ e1
  cases a;cases b
  simp only at this e2
  rw [this,e2]
 have hraw:∀ i,h''[ρ i]?=(hs'[i]?).map (renL ρ):=by
  intro i
  by_cases hi:i<hs.length
  ·exact f1 i hi
  ·obtain ⟨d,rfl⟩:=Nat.exists_eq_add_of_le (Nat.le_of_not_lt hi)
   rw [C.new]
   exact f3 d
 have hblk:∀ κ:Key,blk? h'' (renK ρ κ)=(blk? hs' κ).map (renL ρ):=fun κ=>q09v (hraw κ.b)
 have hhas:∀ κ:Key,has h'' (renK ρ κ)->has hs' κ:=by
  rintro κ ⟨x,hx⟩
  rw [hblk] at hx
  cases hq:blk? hs' κ with
  | none=>rw [hq] at hx;cases hx
  | some y=>exact ⟨y,hq⟩
 have himg0:∀ b,b<h''.length->(∃ i,i<hs'.length∧ρ i=b)∨(b<h.length∧∀ i,ρ i≠b):=by
  intro b hb
  by_cases hlt:b<h.length
  ·by_cases hx:∃ i,i<hs.length∧ρ i=b
   ·obtain ⟨i,h1,h2⟩:=hx
    exact .inl ⟨i,Nat.lt_of_lt_of_le h1 X.len,h2⟩
   ·refine .inr ⟨hlt,fun i e=>?_⟩
    by_cases hi:i<hs.length
    ·exact hx ⟨i,hi,e⟩
    ·obtain ⟨d,rfl⟩:=Nat.exists_eq_add_of_le (Nat.le_of_not_lt hi)
     rw [C.new] at e
     omega
  ·obtain ⟨d,rfl⟩:=Nat.exists_eq_add_of_le (Nat.le_of_not_lt hlt)
   have:=X.len
   exact .inl ⟨hs.length+d,by omega,C.new d⟩
 have hold0:∀ b,b<h.length->(∀ i,ρ i≠b)->h''[b]?=h[b]?:=fun b hlt hb=>f2 b hlt fun i _=>hb i
 have himg:∀ b:Key,has h'' b->(∃ κ,has hs' κ∧renK ρ κ=b)∨(b.b<h.length∧(∀ i,ρ i≠b.b)∧has h b):=by
  intro b hb
  rcases himg0 b.b (q00j hb) with ⟨i,hi,e⟩ | ⟨hlt,hn⟩
  ·have e2:renK ρ ⟨i,b.r⟩=b:=by cases b;simp only at e;unfold renK;simp only [e]
   exact .inl ⟨⟨i,b.r⟩,hhas _ (by rw [e2];exact hb),e2⟩
  ·obtain ⟨x,hx⟩:=hb
   exact .inr ⟨hlt,hn,x,by rw [<- q00k (κ:=b) rfl (hold0 b.b hlt hn)];exact hx⟩
 have hex:∃ μ'':LMap,(∀ κ,μ'' (renK ρ κ)=μs' κ)∧∀ b:Key,(∀ i,ρ i≠b.b)->μ'' b=μ b:=by
  classical
  refine ⟨fun b=>if h:∃ κ,renK ρ κ=b then μs' (Classical.choose h) else μ b,fun κ=>?_,fun b hb=>?_⟩
  ·have hx:∃ j,renK ρ j=renK ρ κ:=⟨κ,rfl⟩
   simp only
   rw [dif_pos hx]
   congr 1
   exact hinjK _ _ (Classical.choose_spec hx)
  ·simp only
   rw [dif_neg]
   rintro ⟨κ,rfl⟩
   exact hb κ.b rfl
 obtain ⟨μ'',m1,m2⟩:=hex
 have hold:∀ b:Key,(∀ i,ρ i≠b.b)->b.b<h.length->blk? h'' b=blk? h b:=fun b hb hlt=>q00k rfl (hold0 b.b hlt hb)
 have hemb:Emb ρ hs' μs' h'' μ'':=fun b s L hl=>by
  obtain ⟨e1,e2⟩:=q09w (hblk b) s
  exact ⟨e1.trans hl,e2 (q03h hl),m1 b⟩
 have hlen:h.length<=h''.length:=by omega
 have hle:Le h μ h'' μ'':=by
  refine ⟨fun b s L hl=>?_⟩
  have hlt:=q03i hl
  rcases himg0 b.b (by omega) with ⟨i,h1,e⟩ | ⟨_,hn⟩
  ·have hi:i<hs.length:=by
    rcases Nat.lt_or_ge i hs.length with h | h
    ·exact h
    ·obtain ⟨d,rfl⟩:=Nat.exists_eq_add_of_le h
     rw [C.new] at e
     omega
   have eb:renK ρ ⟨i,b.r⟩=b:=by cases b;simp only at e;unfold renK;simp only [e]
   rw [<- eb] at hl ⊢
   obtain ⟨e1,e2⟩:=q09w (C.blkK (κ:=⟨i,b.r⟩) hi) s
   obtain ⟨e3,e4⟩:=q09w (hblk ⟨i,b.r⟩) s
   obtain ⟨L',g1,g2,g3⟩:=X.le.lens ⟨i,b.r⟩ s L (e1.symm.trans hl)
   refine ⟨L',e3.trans g1,g2,fun e=>?_⟩
   obtain ⟨g4,g5⟩:=g3 e
   exact ⟨by rw [e4 (q03h g1),g4,e2 (q03h (e1.symm.trans hl))],fun hne=>by rw [m1];exact g5 hne⟩
  ·refine ⟨L,?_,Nat.le_refl _,fun _=>⟨?_,fun _=>m2 b hn⟩⟩
   ·unfold segLenAt at *
    rw [hold b hn hlt]
    exact hl
   ·unfold segOff
    rw [q00a (q03h hl) (hold b hn hlt)]
 have hsm:=C.small H
 have hkeep:∀ b k base room,has h b->(∀ i,ρ i≠b.b)->μ b=.at k base room->k<w.heap.size∧w'.heap[k]?=w.heap[k]?:=by
  intro b k base room hb hn hm
  obtain ⟨x,hx⟩:=hb
  have hk:=(H.at_ b x k base room hx hm).1
  refine ⟨hk,X.frame k hk fun i base' room' h1 h2 h3=>?_⟩
  exact H.inj (renK ρ i) b k base' room' base room (C.wr i.b h1 (q00j h2)) (C.hasK h2) ⟨x,hx⟩ (fun e=>hn i.b (by rw [<- e];rfl)) h3 hm
 have hsep:∀ κ b k base room base' room',has hs' κ->has h b->(∀ i,ρ i≠b.b)->μs' κ=.at k base room->μ b=.at k base' room'->(ro'<=κ.b∨ro<=b.b∨ro<=ρ κ.b)->False:=by
  intro κ b k base room base' room' h1 h2 hn h3 h4 h5
  have hk:=(hkeep b k base' room' h2 hn h4).1
  rcases X.moved κ k base room h1 h3 with ⟨b2,base2,room2,g1,g2,g3⟩ | g
  ·have hne:renK ρ b2≠b:=fun e=>hn b2.b (by rw [<- e];rfl)
   by_cases hr:ro<=ρ b2.b
   ·exact H.inj (renK ρ b2) b k base2 room2 base' room' hr (C.hasK g1) h2 hne g2 h4
   ·have hb2:b2.b<ro':=by
     rcases Nat.lt_or_ge b2.b ro' with h | h
     ·exact h
     ·exact absurd (C.wr b2.b h (q00j g1)) hr
    rcases g3 with g3 | rfl
    ·omega
    ·rcases h5 with h5 | h5 | h5
     ·omega
     ·exact H.inj b (renK ρ b2) k base' room' base2 room2 h5 h2 (C.hasK g1) (Ne.symm hne) h4 g2
     ·omega
  ·omega
 refine ⟨μ'',hemb,⟨fun b ss hb hm=>?_,fun b ss k base room hb hm=>?_,fun b b' k base room base' room' h1 h2 h3 h4 h5 h6=>?_,fun b ss hb i v hv=>?_,by have:=H.rol;omega⟩,
  hle,X.os,X.tape,X.output,X.size,hlen,fun k hk hn=>?_,fun b h1 h2=>?_,fun b k base room h1 h2=>?_,X.froz⟩
 ·rcases himg b ⟨_,hb⟩ with ⟨i,hi,rfl⟩ | ⟨hlt,hn,_⟩
  ·rw [hblk] at hb
   rw [m1] at hm
   cases hq:blk? hs' i with
   | none=>rw [hq] at hb;cases hb
   | some s2=>
    rw [hq] at hb
    cases hb
    rw [q09r,H'.nil_ i s2 hq hm]
    rfl
  ·rw [hold b hn hlt] at hb
   rw [m2 b hn] at hm
   exact H.nil_ b ss hb hm
 ·rcases himg b ⟨_,hb⟩ with ⟨i,hi,rfl⟩ | ⟨hlt,hn,hh⟩
  ·rw [hblk] at hb
   rw [m1] at hm
   cases hq:blk? hs' i with
   | none=>rw [hq] at hb;cases hb
   | some s2=>
    rw [hq] at hb
    cases hb
    obtain ⟨q1,q2,q3,q4⟩:=H'.at_ i s2 k base room hq hm
    refine ⟨q1,by rw [q09r];simpa using q2,q3,fun j v hv=>?_⟩
    rw [q09r,List.getElem?_map] at hv
    cases hv':(flat s2)[j]? with
    | none=>rw [hv'] at hv;cases hv
    | some u=>
     rw [hv'] at hv
     cases hv
     obtain ⟨c,e1,e2,e3⟩:=q4 j u hv'
     exact ⟨c,e1,e2,e3.ren hemb⟩
  ·rw [hold b hn hlt] at hb
   rw [m2 b hn] at hm
   obtain ⟨q1,q2,q3,q4⟩:=H.at_ b ss k base room hb hm
   have hh:=(hkeep b k base room hh hn hm).2
   refine ⟨Nat.lt_of_lt_of_le q1 X.size,q2,fun i hi=>?_,fun i v hv=>?_⟩
   ·rw [q01r (a:=⟨k,base+i,none⟩) hh,q01s (a:=⟨k,base+i,none⟩) hh];exact q3 i hi
   ·obtain ⟨c,e1,e2,e3⟩:=q4 i v hv
    exact ⟨c,by rw [q01r (a:=⟨k,base+i,none⟩) hh];exact e1,e2,e3.mono hle⟩
 ·-- no two blocks on one
  rcases himg b h2 with ⟨i,hi,rfl⟩ | ⟨hlt,hn,hh⟩
  ·rw [m1] at h5
   rcases himg b' h3 with ⟨j,hj,rfl⟩ | ⟨hlt',hn',hh'⟩
   ·rw [m1] at h6
    have hij:i≠j:=fun e=>h4 (by rw [e])
    by_cases hr:ro'<=i.b
    ·exact H'.inj i j k base room base' room' hr hi hj hij h5 h6
    ·have hi0:i.b<hs.length:=by have:=C.rol;omega
     obtain ⟨ri1,ri2⟩:=X.rob i.b (by omega) hi0
     have hri:μs' i=μ (renK ρ i):=ri2 i.r
     have hhi:has hs i:=(q086 ri1).1 hi
     rw [hri] at h5
     by_cases hr':ro'<=j.b
     ·exact H'.inj j i k base' room' base room hr' hj hi (Ne.symm hij) h6 (by rw [hri];exact h5)
     ·have hj0:j.b<hs.length:=by have:=C.rol;omega
      obtain ⟨rj1,rj2⟩:=X.rob j.b (by omega) hj0
      have hrj:μs' j=μ (renK ρ j):=rj2 j.r
      rw [hrj] at h6
      exact H.inj (renK ρ i) (renK ρ j) k base room base' room' h1 (C.hasK hhi) (C.hasK ((q086 rj1).1 hj)) h4 h5 h6
   ·rw [m2 b' hn'] at h6
    exact hsep i b' k base room base' room' hi hh' hn' h5 h6 (.inr (.inr h1))
  ·rw [m2 b hn] at h5
   rcases himg b' h3 with ⟨j,hj,rfl⟩ | ⟨hlt',hn',hh'⟩
   ·rw [m1] at h6
    exact hsep j b k base' room' base room hj hh hn h6 h5 (.inr (.inl h1))
   ·rw [m2 b' hn'] at h6
    exact H.inj b b' k base room base' room' h1 hh hh' h4 h5 h6
 ·rcases himg b ⟨_,hb⟩ with ⟨j,hj,rfl⟩ | ⟨hlt,hn,_⟩
  ·rw [hblk] at hb
   cases hq:blk? hs' j with
   | none=>rw [hq] at hb;cases hb
   | some s2=>
    rw [hq] at hb
    cases hb
    rw [q09r,List.getElem?_map] at hv
    cases hv':(flat s2)[i]? with
    | none=>rw [hv'] at hv;cases hv
    | some u=>
     rw [hv'] at hv
     cases hv
     have hu:=H'.scope j s2 hq i u hv'
     clear hv' hq
     induction hu with
     | undef=>rw [q09o];exact .undef
     | bool b=>simp only [ren];exact .bool b
     | int k n=>simp only [ren];exact .int k n
     | str s=>simp only [ren];exact .str s
     | nils=>simp only [ren];exact .nils
     | ptr p L g1 g2=>simp only [ren];exact .ptr _ L (hemb _ _ _ g1).1 g2
     | rptr p c L g1 g2=>simp only [ren];exact .rptr _ c L (hemb _ _ _ g1).1 g2
     | slice p len cap es ex L g1 g2=>simp only [ren];exact .slice _ len cap es ex L (hemb _ _ _ g1).1 g2
     | func f caps _ ih=>simp only [ren,q09m];exact .func f _ fun i=>by rw [q09t];exact ih i
     | agg ss _ ih=>simp only [ren];exact .agg _ fun i=>by rw [q09r,q09t];exact ih i
     | tuple vs _ ih=>simp only [ren,q09m];exact .tuple _ fun i=>by rw [q09t];exact ih i
  ·rw [hold b hn hlt] at hb
   exact hle.inScope (H.scope b ss hb i v hv)
 ·exact X.frame k hk fun i base room h1 h2 h3=>hn (renK ρ i) base room (C.wr i.b h1 (q00j h2)) (C.hasK h2) h3
 ·rcases himg0 b (by omega) with ⟨i,hi,rfl⟩ | ⟨hlt,hn⟩
  ·have hi0:i<hs.length:=by
    rcases Nat.lt_or_ge i hs.length with h | h
    ·exact h
    ·obtain ⟨d,rfl⟩:=Nat.exists_eq_add_of_le h
     rw [C.new] at h2
     omega
   have hir:i<ro':=by
    rcases Nat.lt_or_ge i ro' with h | h
    ·exact h
    ·have:=C.wr i h hi0
     omega
   obtain ⟨e1,e2⟩:=X.rob i hir hi0
   exact ⟨by rw [hraw,C.blk i hi0,e1],fun r=>(m1 ⟨i,r⟩).trans (e2 r)⟩
  ·exact ⟨hold0 b hlt hn,fun r=>m2 ⟨b,r⟩ hn⟩
 ·rcases himg b h1 with ⟨i,hi,rfl⟩ | ⟨hlt,hn,hh⟩
  ·rw [m1] at h2
   rcases X.moved i k base room hi h2 with ⟨b2,base2,room2,g1,g2,g3⟩ | g2
   ·refine .inl ⟨renK ρ b2,base2,room2,C.hasK g1,g2,?_⟩
    rcases g3 with g3 | rfl
    ·exact .inl (C.wr b2.b g3 (q00j g1))
    ·exact .inr rfl
   ·exact .inr g2
  ·rw [m2 b hn] at h2
   exact .inl ⟨b,base,room,hh,h2,.inr rfl⟩
end
end Go.AM
namespace Go.AM
section
variable {α:Type} {r:α} {P:Program}
theorem q09y:∀ {bs:List Nat},distinctB bs=true->∀ i j (hi:i<bs.length) (hj:j<bs.length),bs[i]=bs[j]->i=j:=by
 intro bs
 induction bs with
 | nil=>intro _ i j hi;simp at hi
 | cons b bs ih=>
  intro hd i j hi hj e
  simp only [distinctB] at hd
  cases hq:elemB b bs with
  | true=>rw [hq] at hd;cases hd
  | false=>
   rw [hq] at hd
   have hn:b ∉ bs:=fun hm=>by rw [q07y hm] at hq;cases hq
   cases i with
   | zero=>
    cases j with
    | zero=>rfl
    | succ j=>
     simp only [List.getElem_cons_zero,List.getElem_cons_succ] at e
     exact absurd (e▸List.getElem_mem _) hn
   | succ i=>
    cases j with
    | zero=>
     simp only [List.getElem_cons_zero,List.getElem_cons_succ] at e
     exact absurd (e▸List.getElem_mem _) hn
    | succ j=>
     simp only [List.getElem_cons_succ] at e
     exact congrArg (·+1) (ih hd i j (by simpa using hi) (by simpa using hj) e)
theorem q09z {b:Nat}:∀ {bs:List Nat},b∈bs->bs[idxOf b bs]?=some b:=by
 intro bs
 induction bs with
 | nil=>intro h;simp at h
 | cons c bs ih=>
  intro h
  simp only [idxOf]
  cases hq:Nat.beq b c with
  | true=>rw [cond_true,Nat.eq_of_beq_eq_true hq];rfl
  | false=>
   rw [cond_false]
   rcases List.mem_cons.1 h with rfl | h
   ·simp at hq
   ·simpa using ih h
theorem q0a0 {bs:List Nat}:∀ {l:List Nat},allIn bs l=true->∀ b∈l,b∈bs:=by
 intro l
 induction l with
 | nil=>intro _ b hb;simp at hb
 | cons c l ih=>
  intro h b hb
  simp only [allIn] at h
  cases hq:elemB c bs with
  | false=>rw [hq] at h;cases h
  | true=>
   rw [hq] at h
   rcases List.mem_cons.1 hb with rfl | hb
   ·exact q07x hq
   ·exact ih h b hb
mutual
theorem q0a1 {σ ρ:Nat->Nat}:∀ (v:AV),(∀ b∈refs v,ρ (σ b)=b)->ren ρ (ren σ v)=v
 | .ptr p,h=>by simp only [ren,renK];rw [h p.b.b (by simp [refs])]
 | .rptr p _,h=>by simp only [ren,renK];rw [h p.b.b (by simp [refs])]
 | .slice p l c es ex,h=>by simp only [ren,renK];rw [h p.b.b (by simp [refs])]
 | .hdr b ids,h=>by simp only [ren];rw [h b (by simp [refs])]
 | .pool _ _,_=>by simp only [ren]
 | .strs _,_=>by simp only [ren]
 | .func f caps,h=>by simp only [ren];rw [q0a2 caps (by simpa [refs] using h)]
 | .vals vs,h=>by simp only [ren];rw [q0a2 vs (by simpa [refs] using h)]
 | .agg ss,h=>by simp only [ren];rw [q0a2 ss (by simpa [refs] using h)]
 | .tuple vs,h=>by simp only [ren];rw [q0a2 vs (by simpa [refs] using h)]
 | .undef,_=>by simp only [ren]
 | .bool _,_=>by simp only [ren]
 | .int _ _,_=>by simp only [ren]
 | .str _,_=>by simp only [ren]
 | .nils,_=>by simp only [ren]
 | .ints _ _ _,_=>by simp only [ren]
 | .vec _ _,_=>by simp only [ren]
 | .bools _ _,_=>by simp only [ren]
 | .recs _ _,_=>by simp only [ren]
theorem q0a2 {σ ρ:Nat->Nat}:∀ (l:List AV),(∀ b∈refsL l,ρ (σ b)=b)->renL ρ (renL σ l)=l
 | [],_=>by simp only [renL]
 | v::vs,h=>by
  simp only [renL]
  rw [q0a1 v (fun b hb=>h b (by simp [refsL,hb])),q0a2 vs (fun b hb=>h b (by simp [refsL,hb]))]
end
mutual
theorem q0a3:∀ (seg v:AV),v∈segVals seg->∀ b∈refs v,b∈refs seg
 | .vals vs,v,hv,b,hb=>by
  simp only [refs]
  exact q0a4 vs v (by simpa [segValsOf] using hv) b hb
 | .ints k n f,v,hv,b,hb=>by
  simp only [segValsOf,List.mem_map] at hv
  obtain ⟨i,_,rfl⟩:=hv
  simp [refs] at hb
 | .vec k xs,v,hv,b,hb=>by
  simp only [segValsOf,List.mem_map] at hv
  obtain ⟨i,_,rfl⟩:=hv
  simp [refs] at hb
 | .bools n f,v,hv,b,hb=>by
  simp only [segValsOf,List.mem_map] at hv
  obtain ⟨i,_,rfl⟩:=hv
  simp [refs] at hb
 | .recs ks xs,v,hv,b,hb=>by
  simp only [segValsOf,recVals,List.mem_map] at hv
  obtain ⟨i,_,rfl⟩:=hv
  revert hb
  cases ks.getD (i%ks.length) none<;>simp [convC,refs]
 | .hdr pb ids,v,hv,b,hb=>by
  simp only [segValsOf,List.mem_map] at hv
  obtain ⟨q,_,rfl⟩:=hv
  simpa [refs,idCell] using hb
 | .strs xs,v,hv,b,hb=>by
  simp only [segValsOf,List.mem_map] at hv
  obtain ⟨x,_,rfl⟩:=hv
  simp [refs] at hb
 | .pool ..,v,hv,_,_=>by simp [segValsOf] at hv
 | .rptr ..,v,hv,_,_=>by simp [segValsOf] at hv
 | .ptr _,v,hv,_,_=>by simp [segValsOf] at hv
 | .slice ..,v,hv,_,_=>by simp [segValsOf] at hv
 | .func ..,v,hv,_,_=>by simp [segValsOf] at hv
 | .agg _,v,hv,_,_=>by simp [segValsOf] at hv
 | .tuple _,v,hv,_,_=>by simp [segValsOf] at hv
 | .undef,v,hv,_,_=>by simp [segValsOf] at hv
 | .bool _,v,hv,_,_=>by simp [segValsOf] at hv
 | .int _ _,v,hv,_,_=>by simp [segValsOf] at hv
 | .str _,v,hv,_,_=>by simp [segValsOf] at hv
 | .nils,v,hv,_,_=>by simp [segValsOf] at hv
theorem q0a4:∀ (l:List AV) (v:AV),v∈l->∀ b∈refs v,b∈refsL l
 | [],v,hv,_,_=>by simp at hv
 | u::us,v,hv,b,hb=>by
  simp only [refsL,List.mem_append]
  rcases List.mem_cons.1 hv with rfl | hv
  ·exact .inl hb
  ·exact .inr (q0a4 us v hv b hb)
end
theorem q0a5 (h:Heap):∀ (bs:List Nat) (i:Nat),(getAll h bs)[i]?=(bs[i]?).map fun b=>h.getD b []:=by
 intro bs
 induction bs with
 | nil=>intro i;simp [getAll]
 | cons b bs ih=>
  intro i
  cases i with
  | zero=>rfl
  | succ i=>simpa [getAll] using ih i
theorem q0a6 (h:Heap)(bs:List Nat):(getAll h bs).length=bs.length:=by
 induction bs with
 | nil=>rfl
 | cons b bs ih=>simp [getAll,ih]
theorem q0a7:∀ (bs:List Nat) (xs:List Blk) (h:Heap),(setAll bs xs h).length=h.length:=by
 intro bs
 induction bs with
 | nil=>intro xs h;cases xs<;>rfl
 | cons b bs ih=>
  intro xs h
  cases xs with
  | nil=>rfl
  | cons x xs=>simp [setAll,ih]
theorem q0a8 {b:Nat}:∀ (bs:List Nat) (xs:List Blk) (h:Heap),b ∉ bs->(setAll bs xs h)[b]?=h[b]?:=by
 intro bs
 induction bs with
 | nil=>intro xs h _;cases xs<;>rfl
 | cons c bs ih=>
  intro xs h hb
  cases xs with
  | nil=>rfl
  | cons x xs=>
   simp only [List.mem_cons,not_or] at hb
   simp only [setAll]
   rw [ih xs _ hb.2,List.getElem?_set,if_neg (Ne.symm hb.1)]
theorem q0a9:∀ (bs:List Nat) (xs:List Blk) (h:Heap) (i:Nat) (hi:i<bs.length),distinctB bs=true->(∀ b∈bs,b<h.length)->i<xs.length->(setAll bs xs h)[bs[i]]?=xs[i]?:=by
 intro bs
 induction bs with
 | nil=>intro xs h i hi;simp at hi
 | cons c bs ih=>
  intro xs h i hi hd hlt hx
  cases xs with
  | nil=>simp at hx
  | cons x xs=>
   simp only [setAll]
   have hd':elemB c bs=false∧distinctB bs=true:=by
    simp only [distinctB] at hd
    cases hq:elemB c bs with
    | true=>rw [hq] at hd;cases hd
    | false=>rw [hq] at hd;exact ⟨rfl,hd⟩
   have hn:c ∉ bs:=fun hm=>by rw [q07y hm] at hd';cases hd'.1
   cases i with
   | zero=>
    simp only [List.getElem_cons_zero]
    rw [q0a8 bs xs _ hn,List.getElem?_set,if_pos rfl,if_pos (hlt c (by simp))]
    rfl
   | succ i=>
    simp only [List.getElem_cons_succ,List.getElem?_cons_succ]
    exact ih xs _ i (by simpa using hi) hd'.2 (fun b hb=>by rw [List.length_set];exact hlt b (by simp [hb])) (by simpa using hx)
theorem q0aa {bs:List Nat}{n i:Nat}(hi:i<bs.length):rhoOf bs n i=bs[i]:=by
 unfold rhoOf
 rw [List.getElem?_eq_getElem hi]
theorem q0ab {bs:List Nat}{n j:Nat}:rhoOf bs n (bs.length+j)=n+j:=by
 unfold rhoOf
 rw [List.getElem?_eq_none (by omega)]
 simp
theorem q0ac {n b:Nat}:∀ {l:List Nat},b∈aboves n l->n<=b:=by
 intro l
 induction l with
 | nil=>intro h;simp [aboves] at h
 | cons c l ih=>
  intro h
  simp only [aboves] at h
  cases hq:Nat.blt c n with
  | true=>rw [hq] at h;exact ih h
  | false=>
   rw [hq] at h
   rcases List.mem_cons.1 h with rfl | h
   ·have:¬ b<n:=fun e=>by rw [<- Nat.blt_eq] at e;rw [e] at hq;cases hq
    omega
   ·exact ih h
mutual
theorem q0ad:∀ v:AV,ren (fun b=>b) v=v
 | .ptr p=>by simp only [ren,renK]
 | .rptr p c=>by simp only [ren,renK]
 | .recs ks xs=>by simp only [ren]
 | .pool _ _=>by simp only [ren]
 | .hdr _ _=>by simp only [ren]
 | .strs _=>by simp only [ren]
 | .slice p l c es ex=>by simp only [ren,renK]
 | .func f caps=>by simp only [ren,q0ae caps]
 | .vals vs=>by simp only [ren,q0ae vs]
 | .agg ss=>by simp only [ren,q0ae ss]
 | .tuple vs=>by simp only [ren,q0ae vs]
 | .undef=>by simp only [ren]
 | .bool b=>by simp only [ren]
 | .int k n=>by simp only [ren]
 | .str s=>by simp only [ren]
 | .nils=>by simp only [ren]
 | .ints k n f=>by simp only [ren]
 | .vec k xs=>by simp only [ren]
 | .bools n f=>by simp only [ren]
theorem q0ae:∀ l:List AV,renL (fun b=>b) l=l
 | []=>by simp only [renL]
 | v::vs=>by simp only [renL,q0ad v,q0ae vs]
end
mutual
theorem q0af {ρ:Nat->Nat}:∀ v:AV,refs (ren ρ v)=(refs v).map ρ
 | .ptr p=>by simp only [ren,renK,refs,List.map]
 | .rptr p c=>by simp only [ren,renK,refs,List.map]
 | .recs ks xs=>by simp only [ren,refs,List.map]
 | .pool _ _=>by simp only [ren,refs,List.map]
 | .hdr _ _=>by simp only [ren,refs,List.map]
 | .strs _=>by simp only [ren,refs,List.map]
 | .slice p l c es ex=>by simp only [ren,renK,refs,List.map]
 | .func f caps=>by simp only [ren,refs,q0ag caps]
 | .vals vs=>by simp only [ren,refs,q0ag vs]
 | .agg ss=>by simp only [ren,refs,q0ag ss]
 | .tuple vs=>by simp only [ren,refs,q0ag vs]
 | .undef=>by simp only [ren,refs,List.map]
 | .bool b=>by simp only [ren,refs,List.map]
 | .int k n=>by simp only [ren,refs,List.map]
 | .str s=>by simp only [ren,refs,List.map]
 | .nils=>by simp only [ren,refs,List.map]
 | .ints k n f=>by simp only [ren,refs,List.map]
 | .vec k xs=>by simp only [ren,refs,List.map]
 | .bools n f=>by simp only [ren,refs,List.map]
theorem q0ag {ρ:Nat->Nat}:∀ l:List AV,refsL (renL ρ l)=(refsL l).map ρ
 | []=>by simp only [renL,refsL,List.map]
 | v::vs=>by simp only [renL,refsL,List.map_append,q0af v,q0ag vs]
end
theorem q0ah {bs:List Nat}{h:Heap}(hlt:∀ b∈bs,b<h.length)(hinb:∀ b∈bs,∀ c∈refsL (h.getD b []),c∈bs)(hsc:ScopedH h):
  (renH (fun b=>idxOf b bs) (getAll h bs)).length=bs.length ∧
  (∀ i,i<bs.length->h[rhoOf bs h.length i]?=((renH (fun b=>idxOf b bs) (getAll h bs))[i]?).map (renL (rhoOf bs h.length))) ∧
  (∀ {v':AV},Scoped h v'->(∀ c∈refs v',c∈bs)->Scoped (renH (fun b=>idxOf b bs) (getAll h bs)) (ren (fun b=>idxOf b bs) v')) ∧
  ScopedH (renH (fun b=>idxOf b bs) (getAll h bs)):=by
 have hσ:∀ b∈bs,rhoOf bs h.length (idxOf b bs)=b:=fun b hb=>by
  unfold rhoOf
  rw [q09z hb]
 have hhs:∀ i,(renH (fun b=>idxOf b bs) (getAll h bs))[i]?=(bs[i]?).map fun b=>renL (fun b=>idxOf b bs) (h.getD b []):=fun i=>by
  rw [q09n,List.getElem?_map,q0a5,Option.map_map]
  rfl
 have hhlen:(renH (fun b=>idxOf b bs) (getAll h bs)).length=bs.length:=by rw [q09n,List.length_map,q0a6]
 generalize hhsd:renH (fun b=>idxOf b bs) (getAll h bs)=hs at *
 have hblk:∀ i,i<bs.length->h[rhoOf bs h.length i]?=(hs[i]?).map (renL (rhoOf bs h.length)):=by
  intro i hi'
  have hb:=List.getElem_mem hi'
  rw [q0aa hi',hhs,List.getElem?_eq_getElem hi']
  simp only [Option.map_some]
  rw [q0a2 _ fun c hc=>hσ c (hinb _ hb c hc)]
  have:=hlt _ hb
  rw [List.getD_eq_getElem?_getD,List.getElem?_eq_getElem this]
  rfl
 have hren:∀ {v':AV},Scoped h v'->(∀ c∈refs v',c∈bs)->Scoped hs (ren (fun b=>idxOf b bs) v'):=by
  have place:∀ {p:Place} {L:Nat},segLenAt h p.b p.s=some L->p.b.b∈bs->segLenAt hs (renK (fun b=>idxOf b bs) p.b) p.s=some L:=by
   intro p L hl hm
   have hi:=q09z hm
   have hi':idxOf p.b.b bs<bs.length:=(List.getElem?_eq_some_iff.1 hi).1
   have hk:renK (rhoOf bs h.length) (renK (fun b=>idxOf b bs) p.b)=p.b:=by
    unfold renK
    simp only
    rw [hσ _ hm]
   rw [<- (q09w (q09v (κ:=renK (fun b=>idxOf b bs) p.b) (hblk (idxOf p.b.b bs) hi')) p.s).1,hk]
   exact hl
  intro v' hv'
  induction hv' with
  | undef=>exact fun _=>by rw [q09o];exact .undef
  | bool b=>exact fun _=>by simp only [ren];exact .bool b
  | int k n=>exact fun _=>by simp only [ren];exact .int k n
  | str s=>exact fun _=>by simp only [ren];exact .str s
  | nils=>exact fun _=>by simp only [ren];exact .nils
  | ptr p L g1 g2=>exact fun hc=>by simp only [ren];exact .ptr _ L (place g1 (hc _ (by simp [refs]))) g2
  | rptr p c L g1 g2=>exact fun hc=>by simp only [ren];exact .rptr _ c L (place g1 (hc _ (by simp [refs]))) g2
  | slice p len cap es ex L g1 g2=>exact fun hc=>by simp only [ren];exact .slice _ len cap es ex L (place g1 (hc _ (by simp [refs]))) g2
  | func f caps _ ih=>
   intro hc
   simp only [ren,q09m]
   refine .func f _ fun i=>?_
   rw [q09t]
   refine ih i fun c hcm=>hc c ?_
   simp only [refs]
   rw [List.getD_eq_getElem?_getD] at hcm
   cases hq:caps[i]? with
   | none=>rw [hq] at hcm;simp [refs] at hcm
   | some u=>rw [hq] at hcm;exact q0a4 caps u (List.mem_of_getElem? hq) c hcm
  | agg ss _ ih=>
   intro hc
   simp only [ren]
   refine .agg _ fun i=>?_
   rw [q09r,q09t]
   refine ih i fun c hcm=>hc c ?_
   simp only [refs]
   rw [List.getD_eq_getElem?_getD] at hcm
   cases hq:(flat ss)[i]? with
   | none=>rw [hq] at hcm;simp [refs] at hcm
   | some u=>
    rw [hq] at hcm
    obtain ⟨seg,h1,h2⟩:=List.mem_flatMap.1 (List.mem_of_getElem? hq)
    exact q0a4 ss seg h1 c (q0a3 seg u h2 c hcm)
  | tuple vs _ ih=>
   intro hc
   simp only [ren,q09m]
   refine .tuple _ fun i=>?_
   rw [q09t]
   refine ih i fun c hcm=>hc c ?_
   simp only [refs]
   rw [List.getD_eq_getElem?_getD] at hcm
   cases hq:vs[i]? with
   | none=>rw [hq] at hcm;simp [refs] at hcm
   | some u=>rw [hq] at hcm;exact q0a4 vs u (List.mem_of_getElem? hq) c hcm
 refine ⟨hhlen,hblk,hren,fun b ss hb i v' hv'=>?_⟩
 have hbl:b.b<bs.length:=by have:=q00j ⟨_,hb⟩;omega
 have hm:=List.getElem_mem hbl
 have hbk:=q09v (κ:=b) (hblk b.b hbl)
 rw [hb,Option.map_some] at hbk
 have hmo:Scoped h (ren (rhoOf bs h.length) v'):=hsc _ _ hbk i _ (by rw [q09r,List.getElem?_map,hv'];rfl)
 have hall:∀ c∈refs v',∃ c0∈bs,c=idxOf c0 bs:=by
  intro c hc
  rcases q00i hb with ⟨hr,hraw,_⟩ | ⟨r,k,rows,xs,_,_,_,rfl⟩
  ·rw [hhs,List.getElem?_eq_getElem hbl] at hraw
   cases hraw
   rw [q09r,List.getElem?_map] at hv'
   cases hq2:(flat (h.getD bs[b.b] []))[i]? with
   | none=>rw [hq2] at hv';cases hv'
   | some u=>
    rw [hq2] at hv'
    cases hv'
    rw [q0af] at hc
    obtain ⟨c0,h1,rfl⟩:=List.mem_map.1 hc
    obtain ⟨seg,g1,g2⟩:=List.mem_flatMap.1 (List.mem_of_getElem? hq2)
    exact ⟨c0,hinb _ hm c0 (q0a4 _ seg g1 c0 (q0a3 seg u g2 c0 h1)),rfl⟩
  ·have hv2:=List.mem_of_getElem? hv'
   simp only [flat,List.flatMap_cons,List.flatMap_nil,List.append_nil,segVals,segValsOf,List.mem_map] at hv2
   obtain ⟨x,_,rfl⟩:=hv2
   simp [refs] at hc
 have:=hren hmo fun c hc=>by
  rw [q0af] at hc
  obtain ⟨c1,h1,rfl⟩:=List.mem_map.1 hc
  obtain ⟨c0,h2,rfl⟩:=hall c1 h1
  simpa only [hσ _ h2] using h2
 rwa [q0a1 v' fun c hc=>by obtain ⟨c0,h2,rfl⟩:=hall c hc;simp only [hσ _ h2]] at this
theorem q0ai {n b:Nat}:∀ {l:List Nat},b∈belows n l->b∈l:=by
 intro l
 induction l with
 | nil=>intro h;exact h
 | cons x l ih=>
  intro h
  rw [belows] at h
  cases hx:Nat.blt x n<;>rw [hx] at h
  ·exact List.mem_cons_of_mem _ (ih h)
  ·rcases List.mem_cons.1 h with e | e
   ·rw [e];exact List.mem_cons_self
   ·exact List.mem_cons_of_mem _ (ih e)
theorem q0aj {n b:Nat}:∀ {l:List Nat},b∈aboves n l->b∈l:=by
 intro l
 induction l with
 | nil=>intro h;exact h
 | cons x l ih=>
  intro h
  rw [aboves] at h
  cases hx:Nat.blt x n<;>rw [hx] at h
  ·rcases List.mem_cons.1 h with e | e
   ·rw [e];exact List.mem_cons_self
   ·exact List.mem_cons_of_mem _ (ih e)
  ·exact List.mem_cons_of_mem _ (ih h)
theorem q0ak {f:FuncId}{quiet:Bool}{S:Sum α}(hS:∀ (ro:Nat) (args:List AV) (h:Heap) (K:AV->Heap->Option α) (r:α),S ro args h K=some r->∃ v h',K v h'=some r∧CallSem P ro f args h v h'):
  ∀ (ro:Nat) (args:List AV) (h:Heap) (K:AV->Heap->Option α) (r:α),canonCall quiet S ro args h K=some r->∃ v h',K v h'=some r∧CallSem P ro f args h v h'∧∀ b,b<h.length->b ∉ reachOf args h->h'[b]?=h[b]?:=by
 intro ro args h K r he
 unfold canonCall at he
 simp only at he
 unfold reachOf
 obtain ⟨hb,he⟩:=q008 he
 rw [q07n,q07o] at he
 simp only [Bool.and_eq_true] at hb
 generalize hlow:belows ro (closeRefs h (h.length+1) 0 (addNew [] (refsL args)))=low at *
 generalize hbs:low++aboves ro (closeRefs h (h.length+1) 0 (addNew [] (refsL args)))=bs at *
 obtain ⟨hd,hlt,hin,hinb⟩:=hb
 have hlt:∀ b∈bs,b<h.length:=fun b hb=>by simpa using q024 hlt b hb
 have hin:=q0a0 hin
 have hinb:∀ b∈bs,∀ c∈refsL (h.getD b []),c∈bs:=fun b hb=>by
  obtain ⟨i,hi,rfl⟩:=List.mem_iff_getElem.1 hb
  exact q0a0 (q024 hinb _ (List.mem_of_getElem? (i:=i) (by rw [q0a5,List.getElem?_eq_getElem hi];rfl)))
 have hσ:∀ b∈bs,rhoOf bs h.length (idxOf b bs)=b:=fun b hb=>by
  unfold rhoOf
  rw [q09z hb]
 obtain ⟨v,hs',hk,hf,hsem⟩:=hS _ _ _ _ _ he
 refine ⟨_,_,hk,⟨hf,fun μ w cs hlen hargs H=>?_⟩,fun b hb hn=>by
  unfold liftHeap
  rw [List.getElem?_append_left (by rw [q0a7];exact hb)]
  refine q0a8 bs _ h fun hm=>hn ?_
  rw [<- hbs] at hm
  rcases List.mem_append.1 hm with hm | hm
  ·rw [<- hlow] at hm;exact q0ai hm
  ·exact q0aj hm⟩
 obtain ⟨hhlen,hblk,hren,hsc⟩:=q0ah hlt hinb H.scope
 generalize hhsd:renH (fun b=>idxOf b bs) (getAll h bs)=hs at *
 have C:Canon ro (cond quiet bs.length low.length) (rhoOf bs h.length) h hs:=by
  refine ⟨fun i hi=>?_,fun i j hi hj e=>?_,fun i hi=>hblk i (by omega),fun j=>?_,fun i h1 h2=>?_,?_,hsc⟩
  ·rw [q0aa (by omega)]
   exact hlt _ (List.getElem_mem _)
  ·rw [q0aa (by omega:i<bs.length),q0aa (by omega:j<bs.length)] at e
   exact q09y hd i j (by omega) (by omega) e
  ·rw [hhlen,q0ab]
  ·have hi:i<bs.length:=by omega
   rw [q0aa hi]
   cases quiet with
   | true=>simp only [cond_true] at h1;omega
   | false=>
    simp only [cond_false] at h1
    subst hbs
    rw [List.getElem_append_right h1]
    exact q0ac (List.getElem_mem _)
  ·cases quiet with
   | true=>simp only [cond_true];omega
   | false=>simp only [cond_false];rw [hhlen,<- hbs];simp
 have hsm:=C.small H
 refine (hsem _ w cs (by rw [q09m,List.length_map];exact hlen) (fun i=>?_) hsm).mono ?_
 ·have hv:=hargs i
  rw [q09m,q09t]
  have hrefs:∀ c∈refs (args.getD i .undef),c∈bs:=by
   intro c hc
   rw [List.getD_eq_getElem?_getD] at hc
   cases hq:args[i]? with
   | none=>rw [hq] at hc;simp [refs] at hc
   | some u=>rw [hq] at hc;exact hin c (q0a4 args u (List.mem_of_getElem? hq) c hc)
  refine VR.unren C.emb (hren hv.inScope hrefs) ?_
  rw [q0a1 _ fun c hc=>hσ c (hrefs c hc)]
  exact hv
 ·rintro e w' ⟨c,rfl,μs',v1,v2,v3⟩
  have hkl:=v3.len
  have hlift:∀ b,(liftHeap bs h hs')[b]?=if b<h.length then (setAll bs (renH (rhoOf bs h.length) (hs'.take bs.length)) h)[b]? else (renH (rhoOf bs h.length) (hs'.drop bs.length))[b-h.length]?:=by
   intro b
   unfold liftHeap
   split
   ·rename_i hb
    rw [List.getElem?_append_left (by rw [q0a7];exact hb)]
   ·rename_i hb
    rw [List.getElem?_append_right (by rw [q0a7];omega),q0a7]
  have q1:∀ i,i<hs.length->(liftHeap bs h hs')[rhoOf bs h.length i]?=(hs'[i]?).map (renL (rhoOf bs h.length)):=by
   intro i hi
   have hi':i<bs.length:=by omega
   rw [hlift,q0aa hi',if_pos (hlt _ (List.getElem_mem hi')),q0a9 bs _ h i hi' hd hlt (by rw [q09n,List.length_map,List.length_take];omega),q09n,List.getElem?_map,List.getElem?_take,if_pos hi']
  have q2:∀ b,b<h.length->(∀ i,i<hs.length->rhoOf bs h.length i≠b)->(liftHeap bs h hs')[b]?=h[b]?:=by
   intro b hb hn
   rw [hlift,if_pos hb,q0a8 bs _ h]
   intro hm
   obtain ⟨i,hi,rfl⟩:=List.mem_iff_getElem.1 hm
   exact hn i (by omega) (q0aa hi)
  have q3:∀ j,(liftHeap bs h hs')[h.length+j]?=(hs'[hs.length+j]?).map (renL (rhoOf bs h.length)):=by
   intro j
   rw [hlift,if_neg (by omega),q09n,List.getElem?_map,List.getElem?_drop,hhlen,Nat.add_sub_cancel_left]
  have q4:(liftHeap bs h hs').length=h.length+(hs'.length-hs.length):=by
   unfold liftHeap
   rw [List.length_append,q0a7,q09n,List.length_map,List.length_drop,hhlen]
  obtain ⟨μ'',g1,g2,g3⟩:=C.back H v2 v3 q1 q2 q3 q4
  exact ⟨c,rfl,μ'',v1.ren g1,g2,g3⟩
theorem q0al {ro n:Nat}{v:AV}{h:Heap}{K:AV->Heap->Option α}(he:packK ro n v h K=some r):
  ∃ v' h',K v' h'=some r∧∀ (h0:Heap) (μ0 μ:LMap) (w0 w:World) (c:Value),h0.length=n->ro<=n->VR h μ v c->HR ro h μ w->Ext ro h0 μ0 w0 h μ w ->
   ∃ μ',VR h' μ' v' c∧HR ro h' μ' w∧Ext ro h0 μ0 w0 h' μ' w:=by
 have same:∀ {K:AV->Heap->Option α},K v h=some r->∃ v' h',K v' h'=some r∧∀ (h0:Heap) (μ0 μ:LMap) (w0 w:World) (c:Value),h0.length=n->ro<=n->VR h μ v c->HR ro h μ w->Ext ro h0 μ0 w0 h μ w ->
   ∃ μ',VR h' μ' v' c∧HR ro h' μ' w∧Ext ro h0 μ0 w0 h' μ' w:=fun hk=>⟨v,h,hk,fun h0 μ0 μ w0 w c _ _ a b d=>⟨μ,a,b,d⟩⟩
 unfold packK at he
 simp only at he
 generalize closeRefs h (h.length+1) 0 (addNew (List.range n) (refs v))=bs at he
 rcases q007 he with ⟨_,hk⟩ | ⟨_,he⟩
 ·exact same hk
 rcases q007 he with ⟨hb,hk⟩ | ⟨_,hk⟩
 rotate_left
 ·exact same hk
 simp only [Bool.and_eq_true,prefixB] at hb
 obtain ⟨⟨hpl,hpre⟩,hd,hlt,hin,hinb,hro⟩:=hb
 refine ⟨_,_,hk,fun h0 μ0 μ w0 w c hn hron hv H X=>?_⟩
 have hlt:∀ b∈bs,b<h.length:=fun b hb=>by simpa using q024 hlt b hb
 have hin:=q0a0 hin
 have hinb:∀ b∈bs,∀ c∈refsL (h.getD b []),c∈bs:=fun b hb=>by
  obtain ⟨i,hi,rfl⟩:=List.mem_iff_getElem.1 hb
  exact q0a0 (q024 hinb _ (List.mem_of_getElem? (i:=i) (by rw [q0a5,List.getElem?_eq_getElem hi];rfl)))
 rw [Nat.ble_eq] at hpl
 have hfix:∀ b,b<n->bs[b]?=some b:=fun b hb=>by
  have h1:=Nat.eq_of_beq_eq_true (q024 hpre b (List.mem_range.2 hb))
  rw [List.getD_eq_getElem?_getD] at h1
  have h2:b<bs.length:=by omega
  rw [List.getElem?_eq_getElem h2] at h1 ⊢
  exact congrArg some h1
 have hσ:∀ b∈bs,rhoOf bs h.length (idxOf b bs)=b:=fun b hb=>by
  unfold rhoOf
  rw [q09z hb]
 have hρn:∀ b,b<n->rhoOf bs h.length b=b:=fun b hb=>by unfold rhoOf;rw [hfix b hb]
 have hidx:∀ b,b<n->idxOf b bs=b:=fun b hb=>by
  have h1:=List.mem_of_getElem? (hfix b hb)
  have h2:=q09z h1
  have h3:=(List.getElem?_eq_some_iff.1 h2)
  have h4:=(List.getElem?_eq_some_iff.1 (hfix b hb))
  obtain ⟨l1,e1⟩:=h3
  obtain ⟨l2,e2⟩:=h4
  exact q09y hd _ _ l1 l2 (e1.trans e2.symm)
 obtain ⟨hlen,hblk,hren,hsc⟩:=q0ah hlt hinb H.scope
 have hinj:∀ i j,i<bs.length->j<bs.length->rhoOf bs h.length i=rhoOf bs h.length j->i=j:=fun i j hi hj e=>by
  rw [q0aa hi,q0aa hj] at e
  exact q09y hd i j hi hj e
 have hlow:∀ i,i<bs.length->rhoOf bs h.length i<n->rhoOf bs h.length i=i:=fun i hi hl=>by
  refine hinj _ _ (by omega) hi ?_
  rw [hρn _ hl]
 have C:Canon ro ro (rhoOf bs h.length) h (renH (fun b=>idxOf b bs) (getAll h bs)):=by
  refine ⟨fun i hi=>?_,fun i j hi hj e=>hinj i j (by omega) (by omega) e,fun i hi=>hblk i (by omega),fun j=>by rw [hlen,q0ab],fun i h1 h2=>?_,by omega,hsc⟩
  ·rw [q0aa (by omega)]
   exact hlt _ (List.getElem_mem _)
  ·by_cases hl:rhoOf bs h.length i<n
   ·have:=hlow i (by omega) hl;omega
   ·omega
 have hρK:∀ κ:Key,κ.b<n->renK (rhoOf bs h.length) κ=κ:=fun κ hb=>by unfold renK;rw [hρn _ hb]
 refine ⟨fun b=>μ (renK (rhoOf bs h.length) b),VR.unren C.emb (hren hv.inScope hin) (by rw [q0a1 _ fun c hc=>hσ c (hin c hc)];exact hv),C.small H,?_⟩
 refine ⟨⟨fun b s L hl=>?_⟩,X.os,X.tape,X.output,X.size,by rw [hlen];omega,X.frame,fun b h1 h2=>?_,fun b k base room h1 h2=>?_,X.froz⟩
 ·have hb:b.b<n:=by have:=q03i hl;omega
  obtain ⟨L',e1,e2,e3⟩:=X.le.lens b s L hl
  have hbk:=C.blkK (κ:=b) (by omega)
  rw [hρK b hb] at hbk
  obtain ⟨g1,g2⟩:=q09w hbk s
  have g2:=g2 (q03h (g1.symm.trans e1))
  refine ⟨L',g1.symm.trans e1,e2,fun e=>?_⟩
  obtain ⟨a1,a2⟩:=e3 e
  refine ⟨g2.symm.trans a1,fun hne=>?_⟩
  try simp only
  rw [hρK b hb]
  exact a2 hne
 ·have hb:b<n:=by omega
  obtain ⟨e1,e2⟩:=X.rob b h1 h2
  refine ⟨?_,fun r=>by rw [hρK ⟨b,r⟩ hb];exact e2 r⟩
  rw [<- e1]
  have hbl:b<h.length:=by have:=X.len;omega
  rw [q09n,List.getElem?_map,q0a5,hfix b hb]
  simp only [Option.map_some]
  rw [List.getD_eq_getElem?_getD,List.getElem?_eq_getElem hbl]
  simp only [Option.getD_some]
  congr 1
  have hz:=q0a2 (σ:=fun b=>idxOf b bs) (ρ:=fun b=>b) h[b] fun c hc=>by
   have hm:h[b]∈h.take ro:=List.mem_of_getElem? (i:=b) (by rw [List.getElem?_take,if_pos h1,List.getElem?_eq_getElem hbl])
   have:=q024 (q024 hro _ hm) c hc
   exact hidx c (by simpa using this)
  rw [q0ae] at hz
  exact hz
 ·have hbl:b.b<bs.length:=by have:=q00j h1;omega
  rcases X.moved _ k base room (C.hasK h1) h2 with ⟨b2,base2,room2,g1,g2,g3⟩ | g
  ·left
   refine ⟨b2,base2,room2,g1,g2,?_⟩
   rcases g3 with g3 | g3
   ·exact .inl g3
   ·right
    have hl:rhoOf bs h.length b.b<n:=by
     have:=q00j g1
     rw [g3] at this
     simpa [renK,<- hn] using this
    rw [g3]
    unfold renK
    rw [hlow _ hbl hl]
  ·exact .inr g
end
end Go.AM
namespace Go.AM
section
variable {α:Type} {r:α} {P:Program} {ro:Nat}
theorem q0am (a:Addr)(w:World):(asAddr (.pointer (some a))).run P w=.ok a w:=by simp [asAddr]
theorem q0an {t:List AV}{h:Heap}:∀ (rs:List ResultVar) (K:List AV->Option α),resultsK P rs t h K=some r ->
  ∃ vs,K vs=some r∧vs.length=rs.length∧∀ (ro:Nat) (μ:LMap) (w:World) (tmps:Array Value),TR h μ t tmps->HR ro h μ w ->
   ∃ cs:List Value,(rs.mapM (m:=Sem) (fun
    | .tmp t=>pure (tmps.getD t Go.undef)
    | .cell a t=>do loadVar t (<- asAddr (tmps.getD a Go.undef)))).run P w=.ok cs w∧cs.length=vs.length∧∀ i,VR h μ (vs.getD i .undef) (cs.getD i Go.undef):=by
 intro rs
 induction rs with
 | nil=>exact fun K he=>⟨[],he,rfl,fun ro μ w tmps _ _=>⟨[],rfl,rfl,fun i=>by simpa using VR.undef _⟩⟩
 | cons x rest ih=>
  intro K he
  have key:∀ (v:AV),(∃ vs,K (v::vs)=some r∧vs.length=rest.length∧∀ (ro:Nat) (μ:LMap) (w:World) (tmps:Array Value),TR h μ t tmps->HR ro h μ w ->
    ∃ cs:List Value,(rest.mapM (m:=Sem) (fun
     | .tmp t=>pure (tmps.getD t Go.undef)
     | .cell a t=>do loadVar t (<- asAddr (tmps.getD a Go.undef)))).run P w=.ok cs w∧cs.length=vs.length∧∀ i,VR h μ (vs.getD i .undef) (cs.getD i Go.undef)) ->
    (∀ (ro:Nat) (μ:LMap) (w:World) (tmps:Array Value),TR h μ t tmps->HR ro h μ w->∃ c,((fun
     | .tmp t=>pure (tmps.getD t Go.undef)
     | .cell a t=>do loadVar t (<- asAddr (tmps.getD a Go.undef)):ResultVar->Sem Value) x).run P w=.ok c w∧VR h μ v c) ->
    ∃ vs,K vs=some r∧vs.length=(x::rest).length∧∀ (ro:Nat) (μ:LMap) (w:World) (tmps:Array Value),TR h μ t tmps->HR ro h μ w ->
     ∃ cs:List Value,((x::rest).mapM (m:=Sem) (fun
      | .tmp t=>pure (tmps.getD t Go.undef)
      | .cell a t=>do loadVar t (<- asAddr (tmps.getD a Go.undef)))).run P w=.ok cs w∧cs.length=vs.length∧∀ i,VR h μ (vs.getD i .undef) (cs.getD i Go.undef):=by
   rintro v ⟨vs,hk,hl,hrest⟩ hx
   refine ⟨v::vs,hk,by simp [hl],fun ro μ w tmps ht H=>?_⟩
   obtain ⟨c,e1,e2⟩:=hx ro μ w tmps ht H
   obtain ⟨cs,f1,f2,f3⟩:=hrest ro μ w tmps ht H
   refine ⟨c::cs,?_,by simp [f2],fun i=>?_⟩
   ·rw [List.mapM_cons,Sem.run_bind,e1,Result.andThen_ok,Sem.run_bind,f1]
    rfl
   ·cases i with
    | zero=>exact e2
    | succ i=>exact f3 i
  cases x with
  | tmp i=>
   simp only [resultsK] at he
   obtain ⟨vs,hk,hl,hrest⟩:=ih _ he
   exact key _ ⟨vs,hk,hl,hrest⟩ fun ro μ w tmps ht H=>⟨_,rfl,ht.2 i⟩
  | cell i ty=>
   simp only [resultsK] at he
   split at he
   ·rename_i p hp
    obtain ⟨v,hk,hld⟩:=q03w he
    obtain ⟨vs,hk,hl,hrest⟩:=ih _ hk
    refine key v ⟨vs,hk,hl,hrest⟩ fun ro μ w tmps ht H=>?_
    have hv:=ht.2 i
    rw [hp] at hv
    obtain ⟨a,ha⟩:=hv.ptr_c
    rw [ha] at hv
    obtain ⟨c,e1,e2⟩:=hld ro μ w a hv H
    refine ⟨c,?_,e2⟩
    simp only [Sem.run_bind,ha,q0am,Result.andThen_ok]
    exact e1
   ·cases he
theorem q0ao {fn:Func}{t:List AV}{h:Heap}{K:List AV->Option α}(he:resultsK P fn.results.toList t h K=some r):
  ∃ vs,K vs=some r∧∀ (ro:Nat) (μ:LMap) (w:World) (tmps:Array Value),TR h μ t tmps->HR ro h μ w->∃ c,(results fn tmps).run P w=.ok c w∧VR h μ (oneOf vs) c:=by
 obtain ⟨vs,hk,hl,hrest⟩:=q0an _ _ he
 refine ⟨vs,hk,fun ro μ w tmps ht H=>?_⟩
 obtain ⟨cs,e1,e2,e3⟩:=hrest ro μ w tmps ht H
 have hrun:(results fn tmps).run P w=.ok (if h:cs.toArray.size=1 then cs.toArray[0] else .tuple cs.toArray) w:=by
  unfold results
  rw [Array.mapM_eq_mapM_toList,Sem.run_bind,Sem.run_map]
  erw [e1]
  rfl
 refine ⟨_,hrun,?_⟩
 match vs,cs,e2,e3 with
 | [],[],_,_=>exact .tuple [] #[] rfl fun i=>by simpa using VR.undef _
 | [v],[c],_,e3=>exact e3 0
 | v::v2::vs,c::c2::cs,e2,e3=>
  have hne:¬ (c::c2::cs).toArray.size=1:=by simp
  rw [dif_neg hne]
  exact .tuple _ _ (by simpa using e2.symm) fun i=>by simpa [List.getD_eq_getElem?_getD,Array.getD_eq_getD_getElem?] using e3 i
theorem q0ap {n:Nat}{v:AV}{h:Heap}{K:AV->Heap->Option α}(he:leaveCall n v h K=some r):
  ∃ h',K v h'=some r∧(h'=h∨(h'=h.take n∧refsBelow n v=true∧∀ b,b∈h.take n->∀ seg,seg∈b->refsBelow n seg=true)):=by
 unfold leaveCall at he
 rcases q007 he with ⟨_,hk⟩ | ⟨_,hk⟩
 ·exact ⟨h,hk,.inl rfl⟩
 ·rcases q007 hk with ⟨hb,hk⟩ | ⟨_,hk⟩
  ·simp only [Bool.and_eq_true] at hb
   exact ⟨_,hk,.inr ⟨rfl,hb.1,fun b hbm=>q024 (q024 hb.2 b hbm)⟩⟩
  ·exact ⟨h,hk,.inl rfl⟩
def NamesOk (P:Program):Prop:=∀ (f:FuncId) (fn:Func),P.funcs[f]?=some fn->(fn.name=="runtime.NumGoroutine")=false
theorem NamesOk.of_all (h:(P.funcs.toList.all fun f=>!(f.name=="runtime.NumGoroutine"))=true):NamesOk P:=by
 intro f fn hf
 have:=List.all_eq_true.1 h fn (by
  have:P.funcs.toList[f]?=some fn:=by simpa using hf
  exact List.mem_of_getElem? this)
 simpa using this
structure EnvOk (P:Program) (E:Env α):Prop where
 sums:∀ (f:FuncId) (q:Bool) (s:Sum α),E.sums f=some (q,s)->∀ (ro:Nat) (args:List AV) (h:Heap) (K:AV->Heap->Option α) (r:α),s ro args h K=some r->∃ v h',K v h'=some r∧CallSem P ro f args h v h'
 ls:∀ (f:FuncId) (fn:Func),P.funcs[f]?=some fn->∀ c,c∈loopsOf fn->∀ s,E.ls f (firstRegion c)=some s->LoopOk P s c
 cs:∀ (f:FuncId) (fn:Func),P.funcs[f]?=some fn->∀ y,y∈tailsOf fn->∀ s,E.ls f (cutKey y)=some s->CutOk P s y
theorem q0aq {E:Env α}(hE:EnvOk P E){c:FuncId->Sum α}(hc:CallsOk P c):CallsT P (callE E c):=by
 intro g ro args h K r he
 unfold callE at he
 cases hs:E.sums g with
 | some s=>
  obtain ⟨q,s⟩:=s
  rw [hs] at he
  exact q0ak (hE.sums g q s hs) ro args h K r he
 | none=>
  rw [hs] at he
  exact q0ak (fun ro args h K r=>hc g ro args h K r) ro args h K r he
theorem q0ar (hm:P.follows .mixedOrders=true)(hnames:NamesOk P){E:Env α}(hE:EnvOk P E):∀ d,CallsOk P (callK P E d):=by
 intro d
 induction d with
 | zero=>intro f ro args h K r he;simp [callK] at he
 | succ d ih=>
  intro f ro args h K r he
  simp only [callK] at he
  split at he
  ·rename_i fn hf
   split at he
   ·rename_i c hc
    obtain ⟨hb,he⟩:=q008 he
    rw [Nat.ble_eq] at hb
    rw [q07l] at he
    obtain ⟨ae,st,hk,hsem⟩:=q09l (q0aq hE ih) hm _ ⟨fun c' hc' s hs=>hE.ls f fn hf c' (by unfold loopsOf;rw [hc];exact hc') s hs,fun y hy s hs=>hE.cs f fn hf y (by unfold tailsOf;rw [hc];exact hy) s hs⟩ _ _ he
    have hres:ae=.normal∨ae=.ret:=by
     cases ae with
     | normal=>exact .inl rfl
     | exit i=>cases hk
     | ret=>exact .inr rfl
    have hk':(resultsK P fn.results.toList st.t st.h fun vs=>leaveCall h.length (oneOf vs) st.h (fun v h'=>packK ro h.length v h' K))=some r:=by
     rcases hres with rfl | rfl
     ·exact hk
     ·exact hk
    obtain ⟨vs,hk2,hr⟩:=q0ao hk'
    obtain ⟨h',hk3,hcut⟩:=q0ap hk2
    obtain ⟨v9,h9,hk9,hpack⟩:=q0al hk3
    refine ⟨v9,h9,hk9,⟨fn,c,hf,hnames f fn hf,hc⟩,fun μ w cs hlen hargs H=>?_⟩
    refine calls_of_wp hf hc ?_
    refine wp_mono (hsem { tmps:=cs++Array.replicate (fn.ntmps-cs.size) Go.undef,defers:=[] } w μ ⟨by simp [hlen],fun i=>?_⟩ H) ?_
    ·simp only
     by_cases hi:i<args.length
     ·rw [List.getD_eq_getElem?_getD,List.getElem?_append_left hi,<- List.getD_eq_getElem?_getD,Array.getD_eq_getD_getElem?,Array.getElem?_append_left (by omega),<- Array.getD_eq_getD_getElem?]
      exact hargs i
     ·rw [List.getD_eq_getElem?_getD,List.getElem?_append_right (by omega),List.getElem?_replicate]
      split<;>exact .undef _
    ·rintro e a' w' ⟨rfl,μ',q1,q2,q3,q4⟩
     obtain ⟨v,e1,e2⟩:=hr ro μ' w' a'.tmps q1 q3
     have hfin:∃ c,Ending.returned v=.returned c∧∃ μ'',VR h9 μ'' v9 c∧HR ro h9 μ'' w'∧Ext ro h μ w h9 μ'' w':=by
      rcases hcut with rfl | ⟨rfl,g1,g2⟩
      ·exact ⟨v,rfl,hpack h μ μ' w w' v rfl H.rol e2 q3 q4⟩
      ·exact ⟨v,rfl,hpack h μ μ' w w' v rfl H.rol (e2.cut (.inr g1)) (q3.cut H.rol (.inr g2)) (q4.cut (Nat.le_refl _))⟩
     rcases hres with rfl | rfl
     ·exact ⟨q2,v,e1,hfin⟩
     ·exact ⟨q2,v,e1,hfin⟩
   ·cases he
  ·cases he
end
end Go.AM
