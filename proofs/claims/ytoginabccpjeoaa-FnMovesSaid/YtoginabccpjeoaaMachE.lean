/- A part of a proof about the given program: an abstract machine, what the given functions come to, and plain laws. -/
import Derived.Test.YtoginabccpjeoaaMachD
import Derived.Orders
set_option linter.unusedVariables false
set_option linter.unusedSimpArgs false
namespace Go.AM
section
variable {α:Type} {P:Program} {r:α} {ro:Nat} {t:List AV} {h:Heap}
abbrev shapeB (ss:Blk):List (Nat×Nat):=ss.map shapeS
theorem q06z (l:Blk)(s:Nat):shapeS (l.getD s .undef)=(shapeB l).getD s (0,0):=by
 simp only [List.getD_eq_getElem?_getD,List.getElem?_map]
 cases l[s]?<;>rfl
theorem q070 {h2:Heap}{b:Key}(e:shapeB (blkD h b)=shapeB (blkD h2 b))(s:Nat):segLen (getSeg h b s)=segLen (getSeg h2 b s)∧segK (getSeg h b s)=segK (getSeg h2 b s):=by
 have:shapeS (getSeg h b s)=shapeS (getSeg h2 b s):=by unfold getSeg;rw [q06z,q06z,e]
 exact ⟨congrArg Prod.fst this,congrArg Prod.snd this⟩
theorem q071:∀ {l l2:List AV} (o:Nat),shapeB l=shapeB l2->locate l o=locate l2 o:=by
 intro l
 induction l with
 | nil=>intro l2 o e;cases l2 with
  | nil=>rfl
  | cons=>simp at e
 | cons s l ih=>
  intro l2 o e
  cases l2 with
  | nil=>simp at e
  | cons s2 l2=>
   simp only [List.map_cons,List.cons.injEq] at e
   have e1:segLen s=segLen s2:=congrArg Prod.fst e.1
   simp only [locate,e1,ih _ e.2]
theorem q072 {β:Type}{h2:Heap}{p:Place}{off:Nat}{same:Bool}{K:Place->Option β}(e:shapeB (blkD h p.b)=shapeB (blkD h2 p.b)):movePlace h p off same K=movePlace h2 p off same K:=by
 unfold movePlace
 rw [(q070 e p.s).1,q071 (l:=(blkD h p.b).drop p.s) (l2:=(blkD h2 p.b).drop p.s) _ (by simp only [shapeB,List.map_drop] at e ⊢;rw [e])]
def Uni {γ:Type}(F:(β:Type)->(γ->Option β)->Option β):Prop:=(∃ v,∀ β K,F β K=K v)∨∀ β K,F β K=none
theorem Uni.get {γ:Type}{F:(β:Type)->(γ->Option β)->Option β}(hF:Uni F){K:γ->Option α}(he:F α K=some r):∃ v,K v=some r∧∀ β K,F β K=K v:=by
 rcases hF with ⟨v,hv⟩ | hn
 ·exact ⟨v,by rw [<- hv α K];exact he,hv⟩
 ·rw [hn] at he;cases he
theorem Uni.one {γ:Type}(v:γ):Uni fun _ K=>K v:=.inl ⟨v,fun _ _=>rfl⟩
theorem Uni.no {γ:Type}:Uni (γ:=γ) fun _ _=>none:=.inr fun _ _=>rfl
theorem Uni.br {γ:Type}{b:Bool}{F:(β:Type)->(γ->Option β)->Option β}(hF:Uni F):Uni fun β K=>AM.br b (F β K) none:=by
 cases b
 ·exact .no
 ·exact hF
theorem Uni.pick {γ:Type}{b:Bool}{F G:(β:Type)->(γ->Option β)->Option β}(hF:Uni F)(hG:Uni G):Uni fun β K=>AM.br b (F β K) (G β K):=by
 cases b
 ·exact hG
 ·exact hF
theorem Uni.map {γ δ:Type}{F:(β:Type)->(γ->Option β)->Option β}(hF:Uni F)(g:γ->δ):Uni fun β K=>F β fun v=>K (g v):=by
 rcases hF with ⟨v,hv⟩ | hn
 ·exact .inl ⟨g v,fun β K=>hv β _⟩
 ·exact .inr fun β K=>hn β _
theorem q073 (h:Heap)(p:Place)(off:Nat)(same:Bool):Uni fun _ K=>movePlace h p off same K:=by
 unfold movePlace
 refine .pick (.one _) (.br ?_)
 rcases locate ((blkD h p.b).drop p.s) (p.o+off) with _ | ⟨i,q,n⟩
 ·exact .no
 ·exact .one _
theorem q074 (ty:TypeId)(v:AV)(f:Nat)(h:Heap):Uni fun _ K=>goFieldAddr P ty v f h K:=by
 unfold goFieldAddr
 rcases P.underlying ty with _ | d
 ·exact .no
 ·cases d<;>try exact .no
  cases v<;>try exact .no
  rename_i fs p
  simp only
  rcases fs[f]? with _ | fd
  ·exact .no
  ·refine .br ?_
   cases isRec (getSeg h p.b p.s)
   ·exact (q073 _ _ _ _).map _
   ·exact .br (.one _)
theorem q075 {β:Type}{ty:TypeId}{v:AV}{f:Nat}{h2:Heap}{K:AV->Option β}(e:∀ b,blkOf v=some b->shapeB (blkD h b)=shapeB (blkD h2 b)):goFieldAddr P ty v f h K=goFieldAddr P ty v f h2 K:=by
 unfold goFieldAddr
 rcases P.underlying ty with _ | d
 ·rfl
 ·cases d<;>try rfl
  cases v<;>try rfl
  rename_i fs p
  simp only
  rcases fs[f]? with _ | fd
  ·rfl
  ·have e:=e p.b rfl
   have e3:isRec (getSeg h p.b p.s)=isRec (getSeg h2 p.b p.s):=by unfold isRec;rw [(q070 e p.s).2]
   simp only [(q070 e p.s).1,e3,q072 e]
theorem q076 (ty:TypeId)(v i:AV)(h:Heap):Uni fun _ K=>goIndexAddr P ty v i h K:=by
 unfold goIndexAddr
 cases i<;>try exact .no
 simp only
 rcases P.underlying ty with _ | d
 ·exact .no
 ·cases d<;>try exact .no
  all_goals cases v<;>try exact .no
  all_goals exact .br ((q073 _ _ _ _).map _)
theorem q077 {β : Type} {ty : TypeId} {v i : AV} {h2 : Heap} {K : AV -> Option β} (e : ∀ b, blkOf v = some b -> shapeB (blkD h b) = shapeB (blkD h2 b)) : goIndexAddr P ty v i h K = goIndexAddr P ty v i h2 K := by
  unfold goIndexAddr
  cases i <;> try rfl
  simp only
  rcases P.underlying ty with _ | d
  · rfl
  · cases d <;> try rfl
    all_goals cases v <;> try rfl
    all_goals first
      | (rename_i p _ _ _ _
         have e := e (Place.b p) rfl
         have e3 : oneSeg (getSeg h (Place.b p) p.s) = oneSeg (getSeg h2 (Place.b p) p.s) := by unfold oneSeg; rw [(q070 e p.s).2]
         simp only [(q070 e p.s).1, e3, q072 e])
      | (rename_i p
         have e := e (Place.b p) rfl
         simp only [q072 e])
theorem q078 (p:Place)(h:Heap):Uni fun _ K=>loadCell p h K:=by
 unfold loadCell
 cases getSeg h p.b p.s<;>first | exact .no | exact .br (.one _) | skip
 refine .br ?_
 rename_i vs
 generalize vs.getD p.o .undef=v
 cases v<;>first | exact .no | exact .one _
theorem q079 (ty:TypeId)(p:Place)(h:Heap):Uni fun _ K=>loadAgg.loadVals P ty p h K:=by
 unfold loadAgg.loadVals
 cases getSeg h p.b p.s<;>first | exact .no | exact .br (.one _)
theorem q07a (ty:TypeId)(p:Place)(h:Heap):Uni fun _ K=>loadAgg P ty p h K:=by
 unfold loadAgg
 rcases homT P ty with _ | ⟨k,m⟩
 ·simp only
  have:Uni fun (β:Type) (K:AV->Option β)=>match p.o with
   | 0=>match takeSegs ((blkD h p.b).drop p.s) (P.cellsOf ty) with
    | some ss=>br (Nat.beq p.n (segLen (getSeg h p.b p.s))) (K (.agg ss)) none
    | none=>loadAgg.loadVals P ty p h K
   | _+1=>loadAgg.loadVals P ty p h K:=by
   cases p.o with
   | succ=>exact q079 _ _ _
   | zero=>
    simp only
    cases takeSegs ((blkD h p.b).drop p.s) (P.cellsOf ty) with
    | none=>exact q079 _ _ _
    | some ss=>exact .br (.one _)
  cases hs:getSeg h p.b p.s<;>rw [hs] at this<;>first | exact .br (.one _) | exact this
 ·simp only
  cases getSeg h p.b p.s<;>first | exact .no | exact .br (.one _)
theorem q07b (ty:TypeId)(p:Place)(h:Heap):Uni fun _ K=>loadAt P ty p h K:=by
 unfold loadAt
 rcases P.underlying ty with _ | d
 ·exact .no
 ·cases d<;>first | exact q07a _ _ _ | exact q078 _ _
theorem q07c (ty:TypeId)(p:Place)(c:Nat)(h:Heap):Uni fun _ K=>loadRec P ty p c h K:=by
 unfold loadRec
 rcases P.underlying ty with _ | d
 ·exact .no
 ·cases d<;>first | exact .no | (simp only;cases getSeg h p.b p.s<;>first | exact .no | exact .br (.one _))
theorem q07d {h2:Heap}{b:Key}(e:blkD h b=blkD h2 b)(s:Nat):getSeg h b s=getSeg h2 b s:=by unfold getSeg;rw [e]
theorem q07e {β:Type}{ty:TypeId}{p:Place}{h2:Heap}{K:AV->Option β}(e:blkD h p.b=blkD h2 p.b):loadAt P ty p h K=loadAt P ty p h2 K:=by
 unfold loadAt loadAgg loadCell loadAgg.loadVals
 rw [q07d e p.s,e]
theorem q07f {β:Type}{ty:TypeId}{p:Place}{c:Nat}{h2:Heap}{K:AV->Option β}(e:blkD h p.b=blkD h2 p.b):loadRec P ty p c h K=loadRec P ty p c h2 K:=by
 unfold loadRec
 rw [q07d e p.s]
theorem q07g {μ:LMap}{v:AV}{c:Value}{b:Key}(hv:VR h μ v c)(hb:blkOf v=some b):∃ ss,blk? h b=some ss:=by
 cases hv<;>simp only [blkOf,Option.some.injEq,reduceCtorEq] at hb
 case ptr h1 _ _=>subst hb;exact q03h h1
 case rptr h1 _ _=>subst hb;exact q03h h1
 case slice h1 _ _ _=>subst hb;exact q03h h1
def SameAt (h h2:Heap)(v:AV):Prop:=∀ b,blkOf v=some b->∀ ss,blk? h2 b=some ss->∃ ss0,blk? h b=some ss0∧shapeB ss0=shapeB ss
theorem SameAt.get {h2:Heap}{v:AV}(hs:SameAt h h2 v){μ:LMap}{c:Value}(hv:VR h2 μ v c):∀ b,blkOf v=some b->shapeB (blkD h2 b)=shapeB (blkD h b):=by
 intro b hb
 obtain ⟨ss,e1⟩:=q07g hv hb
 obtain ⟨ss0,e2,e3⟩:=hs b hb ss e1
 rw [q009 e1,q009 e2,e3]
theorem q07h {gv:Bool}{call:FuncId->Sum α}{op:Op}(hq:isQ op=true){K:AV->Heap->Option α}(he:opK P gv ro call op t h K=some r):
  ∃ v,K v h=some r∧∀ (ro':Nat) (h2:Heap),(∀ x,x∈op.operands->SameAt h h2 (evalO t x))->OpSem P ro' op t h2 v h2:=by
 cases op<;>simp only [isQ,Bool.false_eq_true] at hq
 case nilCheck x=>
  simp only [opK] at he
  split at he
  ·rename_i p hx
   exact ⟨_,he,fun _ _ _=>q044 hx⟩
  ·rename_i f caps hx
   exact ⟨_,he,fun _ _ _=>q045 hx⟩
  ·cases he
 case fieldAddr ty x f=>
  simp only [opK] at he
  obtain ⟨v,hk,hu⟩:=(q074 (P:=P) ty (evalO t x) f h).get (K:=fun v=>K v h) he
  refine ⟨v,hk,fun ro' h2 hs o a w μ next Q ho hop H hn=>?_⟩
  have hm:x∈(Op.fieldAddr ty x f).operands:=by simp [Op.operands]
  have e:=q075 (P:=P) (β:=AV) (ty:=ty) (f:=f) (K:=some) ((hs x hm).get (hop x hm))
  rw [hu] at e
  obtain ⟨v',hk',hsem⟩:=q04f (ro:=ro') e
  cases hk'
  exact hsem o a w μ next Q ho hop H hn
 case indexAddr ty x i=>
  simp only [opK] at he
  obtain ⟨v,hk,hu⟩:=(q076 (P:=P) ty (evalO t x) (evalO t i) h).get (K:=fun v=>K v h) he
  refine ⟨v,hk,fun ro' h2 hs o a w μ next Q ho hop H hn=>?_⟩
  have hm:x∈(Op.indexAddr ty x i).operands:=by simp [Op.operands]
  have e:=q077 (P:=P) (β:=AV) (ty:=ty) (i:=evalO t i) (K:=some) ((hs x hm).get (hop x hm))
  rw [hu] at e
  obtain ⟨v',hk',hsem⟩:=q04g (ro:=ro') e
  cases hk'
  exact hsem o a w μ next Q ho hop H hn
def SameBlk (h h2:Heap)(v:AV):Prop:=∀ b,blkOf v=some b->∀ ss,blk? h2 b=some ss->blk? h b=some ss
theorem SameBlk.get {h2:Heap}{v:AV}(hs:SameBlk h h2 v){μ:LMap}{c:Value}(hv:VR h2 μ v c):∀ b,blkOf v=some b->blkD h2 b=blkD h b:=by
 intro b hb
 obtain ⟨ss,e1⟩:=q07g hv hb
 rw [q009 e1,q009 (hs b hb ss e1)]
theorem q07i {gv:Bool}{call:FuncId->Sum α}{op:Op}(hq:isL op=true){K:AV->Heap->Option α}(he:opK P gv ro call op t h K=some r):
  ∃ v,K v h=some r∧∀ (ro':Nat) (h2:Heap),(∀ x,x∈op.operands->SameBlk h h2 (evalO t x))->OpSem P ro' op t h2 v h2:=by
 cases op<;>simp only [isL,Bool.false_eq_true] at hq
 case load ty x=>
  simp only [opK] at he
  have hm:x∈(Op.load ty x).operands:=by simp [Op.operands]
  split at he
  ·rename_i p hx
   obtain ⟨v,hk,hu⟩:=(q07b (P:=P) ty p h).get (K:=fun v=>K v h) he
   refine ⟨v,hk,fun ro' h2 hs o a w μ next Q ho hop H hn=>?_⟩
   have hv:=hop x hm
   have hs:=hs x hm
   rw [hx] at hv hs
   have e:=q07e (P:=P) (β:=AV) (ty:=ty) (K:=some) (hs.get hv p.b rfl)
   rw [hu] at e
   obtain ⟨v',hk',hl⟩:=q03w e
   cases hk'
   exact q03x (ro:=ro') hx hl o a w μ next Q ho hop H hn
  ·rename_i p c hx
   obtain ⟨v,hk,hu⟩:=(q07c (P:=P) ty p c h).get (K:=fun v=>K v h) he
   refine ⟨v,hk,fun ro' h2 hs o a w μ next Q ho hop H hn=>?_⟩
   have hv:=hop x hm
   have hs:=hs x hm
   rw [hx] at hv hs
   have e:=q07f (P:=P) (β:=AV) (ty:=ty) (c:=c) (K:=some) (hs.get hv p.b rfl)
   rw [hu] at e
   obtain ⟨v',hk',hl⟩:=q01e e
   cases hk'
   exact q03z (ro:=ro') hx hl o a w μ next Q ho hop H hn
  ·cases he
theorem q07j {gv:Bool}{call:FuncId->Sum α}{op:Op}(hq:isA op=true){K:AV->Heap->Option α}(he:opK P gv ro call op t h K=some r):
  ∃ v bs,K v (h++bs)=some r∧∀ (ro':Nat) (h2:Heap),h2.length=h.length->OpSem P ro' op t h2 v (h2++bs):=by
 cases op<;>simp only [isA,Bool.false_eq_true] at hq
 case alloc e=>
  simp only [opK] at he
  split at he
  ·rename_i ss hz
   obtain ⟨hb,hk⟩:=q008 he
   refine ⟨_,_,hk,fun ro' h2 hl=>?_⟩
   simp only [Bool.and_eq_true,Bool.not_eq_true'] at hb
   have:=q03t (P:=P) (ro:=ro') (t:=t) (h:=h2) hz hb.1 hb.2
   rw [show newPlace h ss=newPlace h2 ss from by unfold newPlace;rw [hl]]
   exact this
  ·cases he
 case buildSlice ty n ps=>
  split at hq
  ·rename_i hps
   simp only [opK,hps,List.map_nil] at he
   have key:∀ {β:Type} (h2:Heap) (K2:AV->Heap->Option β),goBuildSlice P ty n [] h2 K2=match P.underlying ty with
    | some (.slice e)=>match tableOf P e [] with
     | some k=>br (Nat.ble n 65536) (K2 (.slice ⟨topK (h2.length+1),0,0,n⟩ n n 1 true) (h2++[[.pool k (List.replicate n [])],[.hdr h2.length ((List.range n).map fun i=>(i,0))]])) none
     | none=>match zeroRow P true e n with
      | some z=>br (Nat.ble (n*elemSize P e) 65536&&Nat.blt 0 (elemSize P e)) (br (!isPool z) (K2 (.slice (newPlace h2 z) n n (elemSize P e) true) (h2++[z])) none) none
      | none=>none
    | _=>none:=fun h2 K2=>rfl
   have fin:∀ (v:AV) (bs:List Blk),K v (h++bs)=some r->(∀ (h2:Heap),h2.length=h.length->goBuildSlice P ty n [] h2 (fun v h=>some (v,h))=some (v,h2++bs)) ->
     ∃ v bs,K v (h++bs)=some r∧∀ (ro':Nat) (h2:Heap),h2.length=h.length->OpSem P ro' (.buildSlice ty n ps) t h2 v (h2++bs):=by
    intro v bs hk hall
    refine ⟨v,bs,hk,fun ro' h2 hl=>?_⟩
    have e3:goBuildSlice P ty n (ps.toList.map fun (i,x)=>(i,evalO t x)) h2 (fun v h=>some (v,h))=some (v,h2++bs):=by rw [hps];exact hall h2 hl
    obtain ⟨v',h',hk',hs⟩:=q05a (ro:=ro') (t:=t) e3
    cases hk'
    exact hs
   rw [key] at he
   split at he
   ·rename_i e hu
    split at he
    ·rename_i k hk
     obtain ⟨hb,hk2⟩:=q008 he
     refine fin _ _ hk2 fun h2 hl=>?_
     rw [key]
     simp only [hu,hk,hb,br,hl]
    ·rename_i hno
     split at he
     ·rename_i z hz
      obtain ⟨hb,he2⟩:=q008 he
      obtain ⟨hb2,hk⟩:=q008 he2
      refine fin _ _ hk fun h2 hl=>?_
      rw [key]
      simp only [hu,hno,hz,hb,hb2,br]
      rw [show newPlace h z=newPlace h2 z from by unfold newPlace;rw [hl]]
     ·cases he
   ·cases he
  ·cases hq
def PutSem (P:Program)(ro:Nat)(op:Op)(t:List AV)(h:Heap)(b:Key)(h':Heap):Prop:=
 ∀ (o:Oper) (a:Act) (w:World) (μ:LMap) (next:Act->World->Prop) (Q:Exit->Act->World->Prop),o.op=op->(∀ x,x∈op.operands->VR h μ (evalO t x) (a.eval x))->HR ro h μ w ->
  μ b≠.absent∧((∀ w' c,VR h' μ .undef c->HR ro h' μ w'->Ext ro h μ w h' μ w'->next (a.put o.dst c) w')->o.wp P a w next Q)
theorem q07k {call:FuncId->Sum α}{ty:TypeId}{x y:Operand}{K:AV->Heap->Option α}(he:opK P false ro call (.store ty x y) t h K=some r):
  ∃ b old new,K .undef (setB h b new)=some r∧blkOf (evalO t x)=some b∧blk? h b=some old∧fitB b old new∧shapeB new=shapeB old∧PutSem P ro (.store ty x y) t h b (setB h b new):=by
 have key:∀ (p:Place) (h':Heap) (V:AV),evalO t x=V->blkOf V=some p.b->(∀ μ c,VR h μ V c->VR h μ (.ptr p) c)->K .undef h'=some r->P.cellsOf ty=cellsIn (evalO t y)->0<P.cellsOf ty->Puts ro p (evalO t y) h h' ->
   ∃ b old new,K .undef (setB h b new)=some r∧blkOf (evalO t x)=some b∧blk? h b=some old∧fitB b old new∧shapeB new=shapeB old∧PutSem P ro (.store ty x y) t h b (setB h b new):=by
  intro p h' V hx hV hptr hk hsz h0 hp
  have hsem:=q02g (P:=P) hsz h0 hp
  obtain ⟨hro,hn,h1,old,new,q⟩:=hp
  have heq:=q.eq
  subst heq
  have hfits:=q.fits
  refine ⟨p.b,old,new,hk,by rw [hx];exact hV,q.at_,hfits,q.shape,fun o a w μ next Q ho hop H=>?_⟩
  have hv:=hop x (by simp [Op.operands])
  have hy:=hop y (by simp [Op.operands])
  rw [hx] at hv
  have hv:=hptr _ _ hv
  obtain ⟨ad,hc⟩:=hv.ptr_c
  rw [hc] at hv
  obtain ⟨L,k,base,room,_,g2,_⟩:=q00w hv hn
  refine ⟨by rw [g2];simp,fun hnx=>?_⟩
  obtain ⟨w',e1,e2,e3⟩:=hsem μ w ad _ hv hy H
  have hr:(execOp a.eval o).run P w=.ok .skip w':=by simp [execOp,ho,Instr.storeAt,Instr.sureAddr,hc,e1]
  unfold Oper.wp
  rw [hr]
  exact hnx w' _ (.undef _) e2 e3
 simp only [opK] at he
 split at he
 ·rename_i p hx
  obtain ⟨hb,hk⟩:=q008 he
  simp only [Bool.and_eq_true,Nat.blt_eq] at hb
  have hk:storeAt ro p (evalO t y) h (fun h'=>K .undef h')=some r:=hk
  obtain ⟨h',hk,hp⟩:=q02f (by rw [<- Nat.eq_of_beq_eq_true hb.1];exact hb.2) hk
  exact key p h' _ hx rfl (fun _ _ hv=>hv) hk (Nat.eq_of_beq_eq_true hb.1) hb.2 hp
 ·rename_i p c hx
  obtain ⟨hb,hk⟩:=q008 he
  have hb:=Nat.eq_of_beq_eq_true hb
  obtain ⟨h',hk,hci,hp⟩:=q02i hk
  exact key { p with o:=p.o+c } h' _ hx rfl (fun _ _ hv=>hv.rptr_ptr) hk (by omega) (by omega) hp
 ·cases he
end
end Go.AM
namespace Go.AM
section
variable {α:Type} {P:Program} {r:α} {ro:Nat}
theorem q07l {β γ:Type}(l:List β)(k:List β->γ):forceL l k=k l:=by
 induction l generalizing k with
 | nil=>rfl
 | cons x xs ih=>simp only [forceL,ih]
mutual
theorem q07m {γ:Type}:∀ (v:AV) (k:AV->γ),forceV v k=k v
 | .vals vs,k=>by rw [forceV,q07n vs]
 | .agg vs,k=>by rw [forceV,q07n vs]
 | .tuple vs,k=>by rw [forceV,q07n vs]
 | .func f vs,k=>by rw [forceV,q07n vs]
 | .undef,k=>by rw [forceV]
 | .bool b,k=>by rw [forceV]
 | .int i n,k=>by rw [forceV]
 | .str s,k=>by rw [forceV]
 | .ptr p,k=>by rw [forceV]
 | .slice p l c es ex,k=>by rw [forceV]
 | .nils,k=>by rw [forceV]
 | .ints i n f,k=>by rw [forceV]
 | .vec i xs,k=>by rw [forceV]
 | .recs ks xs,k=>by rw [forceV]
 | .rptr p c,k=>by rw [forceV]
 | .pool i rows,k=>by rw [forceV]
 | .hdr b ids,k=>by rw [forceV]
 | .strs xs,k=>by rw [forceV]
 | .bools n f,k=>by rw [forceV]
theorem q07n {γ:Type}:∀ (vs:List AV) (k:List AV->γ),forceVs vs k=k vs
 | [],k=>by rw [forceVs]
 | v::vs,k=>by rw [forceVs,q07m v,q07n vs]
end
theorem q07o {γ:Type}(h:Heap)(k:Heap->γ):forceH h k=k h:=by
 induction h generalizing k with
 | nil=>rfl
 | cons b bs ih=>simp only [forceH,q07n,ih]
theorem q07p (h:Heap)(μ:LMap)(c:Value)(hc:∀ a l k,c≠.slice a l k)(hf:∀ f x y,c≠.func f x y):VR h μ (ofValue c) c:=by
 cases c<;>simp only [ofValue]<;>try exact .undef _
 ·exact .bool _
 ·rename_i k n
  cases hq:fits k n with
  | true=>rw [cond_true];exact .int _ _ hq
  | false=>rw [cond_false];exact .undef _
 ·exact .str _
 ·rename_i a l k;exact absurd rfl (hc _ _ _)
 ·rename_i f x y;exact absurd rfl (hf _ _ _)
theorem q07q (h:Heap)(μ:LMap)(t:List AV)(c:Value):VR h μ (evalO t (.const c)) c:=by
 simp only [evalO]
 split
 ·exact .nils
 ·exact .undef _
 ·exact .undef _
 ·rename_i h1 h2 h3
  exact q07p h μ c (fun a l k e=>h2 a l k e) (fun f x y e=>h3 f x y e)
theorem TR.eval {h:Heap}{μ:LMap}{t:List AV}{a:Act}(ht:TR h μ t a.tmps)(x:Operand):VR h μ (evalO t x) (a.eval x):=by
 cases x with
 | tmp i=>exact ht.2 i
 | const c=>exact q07q h μ t c
 | global g=>exact .undef _
 | func f=>exact .func f [] #[] rfl fun i=>by simpa using VR.undef _
theorem VR.void (h:Heap)(μ:LMap):VR h μ (.tuple []) Go.undef:=.tuple [] #[] rfl fun i=>by simpa using VR.undef _
inductive GuardVal (all:List Oper) (t:List AV) (o:Oper):Bool->Prop where
 | free:o.guard=none->GuardVal all t o true
 | told (j:Nat) (want:Bool) (d:Nat) (b:Bool):o.guard=some (j,want)->(all[j]?).bind (·.dst)=some d->t.getD d .undef=.bool b->GuardVal all t o (b==want)
 | void (j:Nat) (want:Bool) (d:Nat):o.guard=some (j,want)->(all[j]?).bind (·.dst)=some d->t.getD d .undef=.tuple []->GuardVal all t o false
def isF (op:Op):Bool:=!(isP op||isQ op||isL op||isA op||isS op)
theorem SameAt.refl (h:Heap)(v:AV):SameAt h h v:=fun _ _ ss e=>⟨ss,e,rfl⟩
theorem SameBlk.refl (h:Heap)(v:AV):SameBlk h h v:=fun _ _ _ e=>e
inductive StepOk (P:Program) (draw:Bool) (ro:Nat) (all:List Oper) (o:Oper) (s s':St):Prop where
 | skip:GuardVal all s.t o false->s'=⟨putO s.t o.dst (.tuple []),s.h⟩->StepOk P draw ro all o s s'
 | pure (v:AV):GuardVal all s.t o true->isP o.op=true->s'=⟨putO s.t o.dst v,s.h⟩->(∀ (ro':Nat) (h2:Heap),OpSem P ro' o.op s.t h2 v h2)->StepOk P draw ro all o s s'
 | look (v:AV):GuardVal all s.t o true->isQ o.op=true->s'=⟨putO s.t o.dst v,s.h⟩->(∀ (ro':Nat) (h2:Heap),(∀ x,x∈o.op.operands->SameAt s.h h2 (evalO s.t x))->OpSem P ro' o.op s.t h2 v h2)->StepOk P draw ro all o s s'
 | load (v:AV):GuardVal all s.t o true->isL o.op=true->s'=⟨putO s.t o.dst v,s.h⟩->(∀ (ro':Nat) (h2:Heap),(∀ x,x∈o.op.operands->SameBlk s.h h2 (evalO s.t x))->OpSem P ro' o.op s.t h2 v h2)->StepOk P draw ro all o s s'
 | new (v:AV) (bs:List Blk):GuardVal all s.t o true->isA o.op=true->s'=⟨putO s.t o.dst v,s.h++bs⟩->(∀ (ro':Nat) (h2:Heap),h2.length=s.h.length->OpSem P ro' o.op s.t h2 v (h2++bs))->StepOk P draw ro all o s s'
 | store (ty:TypeId) (x y:Operand) (b:Key) (old new:Blk):GuardVal all s.t o true->o.op=.store ty x y->s'=⟨putO s.t o.dst .undef,setB s.h b new⟩->blkOf (evalO s.t x)=some b->blk? s.h b=some old->fitB b old new->shapeB new=shapeB old ->
   PutSem P ro o.op s.t s.h b (setB s.h b new)->StepOk P draw ro all o s s'
 | run (v:AV) (h':Heap):GuardVal all s.t o true->(isF o.op=true∨draw=false)->s'=⟨putO s.t o.dst v,h'⟩->OpSem P (cond (draw&&!isW o.op) s.h.length ro) o.op s.t s.h v h'->StepOk P draw ro all o s s'
theorem PutSem.sem {op:Op}{t:List AV}{h h':Heap}{b:Key}(hp:PutSem P ro op t h b h'):OpSem P ro op t h .undef h':=
 fun o a w μ next Q ho hop H hn=>(hp o a w μ next Q ho hop H).2 fun w' c v1 v2 v3=>hn μ w' c v1 v2 v3
theorem StepOk.sem {draw:Bool}{all:List Oper}{o:Oper}{s s':St}(hs:StepOk P draw ro all o s s'):
  (GuardVal all s.t o false∧s'=⟨putO s.t o.dst (.tuple []),s.h⟩)∨∃ v,GuardVal all s.t o true∧s'=⟨putO s.t o.dst v,s'.h⟩∧OpSem P (cond (draw&&!isW o.op) s.h.length ro) o.op s.t s.h v s'.h:=by
 cases hs with
 | skip hg e=>exact .inl ⟨hg,e⟩
 | pure v hg _ e hop=>subst e;exact .inr ⟨v,hg,rfl,hop _ _⟩
 | look v hg _ e hop=>subst e;exact .inr ⟨v,hg,rfl,hop _ _ fun _ _=>.refl _ _⟩
 | load v hg _ e hop=>subst e;exact .inr ⟨v,hg,rfl,hop _ _ fun _ _=>.refl _ _⟩
 | new v ss hg _ e hop=>subst e;exact .inr ⟨v,hg,rfl,hop _ _ rfl⟩
 | store ty x y b old new hg ho e _ _ _ _ hop=>
  subst e
  refine .inr ⟨.undef,hg,rfl,?_⟩
  rw [show isW o.op=true from by rw [ho];rfl,Bool.not_true,Bool.and_false,cond_false]
  exact hop.sem
 | run v h' hg _ e hop=>subst e;exact .inr ⟨v,hg,rfl,hop⟩
theorem q07r {t:List AV}{d:Nat}{b:Bool}(h:t.getD d .undef=.bool b):t.set d (.bool b)=t:=by
 apply List.ext_getElem?
 intro i
 rw [List.getElem?_set]
 split
 ·rename_i e
  subst e
  split
  ·rename_i hlt
   rw [List.getD_eq_getElem?_getD,List.getElem?_eq_getElem hlt] at h
   rw [List.getElem?_eq_getElem hlt]
   simpa using h.symm
  ·rename_i hlt
   rw [List.getElem?_eq_none (by omega)]
 ·rfl
def LdOk (draw:Bool)(all:List Oper)(k:Nat)(o:Oper)(s s':St):Prop:=
 draw=true->isLd o.op=true->s'.h=s.h∨(lateL all (ancFrom [] all) k o.op s.t s.h=true∧∀ b,b<s.h.length->b ∉ wroteOf o.op s.t s.h->s'.h[b]?=s.h[b]?)
theorem q07s {op:Op}(h:isLd op=true):isW op=true:=by
 rcases q06w h with ⟨f,args,ats,rfl,hl⟩ | ⟨args,ats,rfl⟩
 ·exact hl
 ·rfl
theorem q07t {op:Op}(h:isLd op=true):isP op=false∧isQ op=false∧isL op=false∧isA op=false∧isS op=false∧isC op=false:=by
 rcases q06w h with ⟨f,args,ats,rfl,hl⟩ | ⟨args,ats,rfl⟩<;>simp [isP,isQ,isL,isA,isS,isC]
theorem q07u {call:FuncId->Sum α}(hcall:CallsT P call){draw:Bool}{all:List Oper}:∀ (rest:List Oper) (st:St) (K:St->Option α),rest.length<=all.length->opsK P draw ro call all rest st K=some r ->
  ∃ S:Nat->St,S 0=st∧K (S rest.length)=some r∧∀ i o,rest[i]?=some o->StepOk P draw ro all o (S i) (S (i+1))∧LdOk draw all (all.length-rest.length+i) o (S i) (S (i+1)):=by
 intro rest
 induction rest with
 | nil=>exact fun st K _ he=>⟨fun _=>st,rfl,he,fun i o hi=>by simp at hi⟩
 | cons o rest ih=>
  intro st K hle he
  rw [List.length_cons] at hle
  have key:∀ st1,StepOk P draw ro all o st st1->LdOk draw all (all.length-(rest.length+1)) o st st1->opsK P draw ro call all rest st1 K=some r->∃ S:Nat->St,S 0=st∧K (S (o::rest).length)=some r∧∀ i o',(o::rest)[i]?=some o'->StepOk P draw ro all o' (S i) (S (i+1))∧LdOk draw all (all.length-(o::rest).length+i) o' (S i) (S (i+1)):=by
   intro st1 hs hld hk
   obtain ⟨S,e1,e2,e3⟩:=ih st1 K (by omega) hk
   refine ⟨fun i=>match i with | 0=>st | i+1=>S i,rfl,e2,fun i o' hi=>?_⟩
   cases i with
   | zero=>
    simp only [List.getElem?_cons_zero,Option.some.injEq] at hi
    subst hi
    simp only [e1]
    exact ⟨hs,by simpa using hld⟩
   | succ i=>
    obtain ⟨g1,g2⟩:=e3 i o' (by simpa using hi)
    refine ⟨g1,?_⟩
    rw [show all.length-(o::rest).length+(i+1)=all.length-rest.length+i by rw [List.length_cons];omega]
    exact g2
  have hrun:GuardVal all st.t o true->br (!(draw&&isLd o.op)||lateL all (ancFrom [] all) (all.length-(rest.length+1)) o.op st.t st.h) (opK P (!draw) (cond (draw&&!isW o.op) st.h.length ro) call o.op st.t st.h (fun v h=>forceV v fun v=>forceL (putO st.t o.dst v) fun t=>forceH h fun h=>opsK P draw ro call all rest ⟨t,h⟩ K)) none=some r ->
    ∃ S:Nat->St,S 0=st∧K (S (o::rest).length)=some r∧∀ i o',(o::rest)[i]?=some o'->StepOk P draw ro all o' (S i) (S (i+1))∧LdOk draw all (all.length-(o::rest).length+i) o' (S i) (S (i+1)):=by
   intro hg hr
   obtain ⟨hb,hr⟩:=q008 hr
   by_cases hLd:draw=true∧isLd o.op=true
   ·obtain ⟨hd,hld⟩:=hLd
    have hw:=q07s hld
    obtain ⟨f1,f2,f3,f4,f5,f6⟩:=q07t hld
    have hr2:=hr
    rw [hw,Bool.not_true,Bool.and_false,cond_false] at hr2
    obtain ⟨v,h',hk,hs,ht⟩:=q06y hcall hld hr2
    simp only [q07m,q07l,q07o] at hk
    refine key _ (.run v h' hg (.inl (by simp [isF,f1,f2,f3,f4,f5])) rfl (by rw [hw,Bool.not_true,Bool.and_false,cond_false];exact hs)) (fun _ _=>.inr ⟨by simpa [hd,hld] using hb,ht⟩) hk
   have hnl:∀ st1,LdOk draw all (all.length-(rest.length+1)) o st st1:=fun st1 h1 h2=>absurd ⟨h1,h2⟩ hLd
   by_cases hC:isC o.op=true∧draw=false
   ·obtain ⟨v,h',hk,hs⟩:=q06x hcall.ok hr
    simp only [q07m,q07l,q07o] at hk
    exact key _ (.run v h' hg (.inr hC.2) rfl hs) (hnl _) hk
   by_cases hp:isP o.op=true
   ·obtain ⟨v,hk,hs⟩:=q06q hp (fun e=>by cases draw with | false=>exact absurd ⟨e,rfl⟩ hC | true=>rfl) hr
    simp only [q07m,q07l,q07o] at hk
    exact key _ (.pure v hg hp rfl hs) (hnl _) hk
   by_cases hq:isQ o.op=true
   ·obtain ⟨v,hk,hs⟩:=q07h hq hr
    simp only [q07m,q07l,q07o] at hk
    exact key _ (.look v hg hq rfl hs) (hnl _) hk
   by_cases hl:isL o.op=true
   ·obtain ⟨v,hk,hs⟩:=q07i hl hr
    simp only [q07m,q07l,q07o] at hk
    exact key _ (.load v hg hl rfl hs) (hnl _) hk
   by_cases ha:isA o.op=true
   ·obtain ⟨v,ss,hk,hs⟩:=q07j ha hr
    simp only [q07m,q07l,q07o] at hk
    exact key _ (.new v ss hg ha rfl hs) (hnl _) hk
   cases draw with
   | false=>
    obtain ⟨v,h',hk,hs⟩:=q06x hcall.ok hr
    simp only [q07m,q07l,q07o] at hk
    exact key _ (.run v h' hg (.inr rfl) rfl hs) (hnl _) hk
   | true=>
    by_cases hst:isS o.op=true
    ·have hw:isW o.op=true:=by revert hst;cases o.op<;>simp [isS,isW]
     rw [hw,Bool.not_true,Bool.and_false,cond_false] at hr
     have:∃ ty x y,o.op=.store ty x y:=by
      revert hst;cases o.op<;>simp [isS]
     obtain ⟨ty,x,y,ho⟩:=this
     rw [ho] at hr
     obtain ⟨b,old,new,hk,h1,h2,h3,h4,h5⟩:=q07k hr
     simp only [q07m,q07l,q07o] at hk
     exact key _ (.store ty x y b old new hg ho rfl h1 h2 h3 h4 (by rw [ho];exact h5)) (hnl _) hk
    ·obtain ⟨v,h',hk,hs⟩:=q06x hcall.ok hr
     simp only [q07m,q07l,q07o] at hk
     exact key _ (.run v h' hg (.inl (by simp [isF,hp,hq,hl,ha,hst])) rfl hs) (hnl _) hk
  have hskip:GuardVal all st.t o false->(forceL (putO st.t o.dst (.tuple [])) fun t=>opsK P draw ro call all rest ⟨t,st.h⟩ K)=some r ->
    ∃ S:Nat->St,S 0=st∧K (S (o::rest).length)=some r∧∀ i o',(o::rest)[i]?=some o'->StepOk P draw ro all o' (S i) (S (i+1))∧LdOk draw all (all.length-(o::rest).length+i) o' (S i) (S (i+1)):=by
   intro hg hr
   simp only [q07l] at hr
   exact key _ (.skip hg rfl) (fun _ _=>.inl rfl) hr
  simp only [opsK] at he
  split at he
  ·rename_i hg
   exact hrun (.free hg) he
  ·rename_i j want hg
   split at he
   ·rename_i d hd
    split at he
    ·rename_i b hb
     rcases q007 he with ⟨rfl,hk⟩ | ⟨rfl,hk⟩
     ·rw [q07r hb] at hk
      cases want with
      | true=>exact hrun (.told j true d true hg hd hb) hk
      | false=>exact hskip (.told j false d true hg hd hb) hk
     ·rw [q07r hb] at hk
      cases want with
      | true=>exact hskip (.told j true d false hg hd hb) hk
      | false=>exact hrun (.told j false d false hg hd hb) hk
    ·rename_i vs hb
     split at he
     ·exact hskip (.void j want d hg hd hb) he
     ·cases he
    ·cases he
   ·cases he
def RegSem (ro:Nat)(st st':St)(W:(Exit->Act->World->Prop)->Act->World->Prop):Prop:=
 ∀ (a:Act) (w:World) (μ:LMap) (Q:Exit->Act->World->Prop),TR st.h μ st.t a.tmps->HR ro st.h μ w ->
  (∀ a' w' μ',TR st'.h μ' st'.t a'.tmps->a'.defers=a.defers->HR ro st'.h μ' w'->Ext ro st.h μ w st'.h μ' w'->Q .normal a' w')->W Q a w
theorem q07v (a:Act)(d:Option Tmp)(v:Value):(a.put d v).defers=a.defers:=by cases d<;>rfl
theorem GuardVal.wanted {ops:Array Oper}{t:List AV}{o:Oper}{b:Bool}(hg:GuardVal ops.toList t o b){h:Heap}{μ:LMap}{a:Act}(ht:∀ j want d,o.guard=some (j,want)->(ops.toList[j]?).bind (·.dst)=some d->VR h μ (t.getD d .undef) (a.tmps.getD d Go.undef)):
  Region.wanted o (yielded ops a.tmps)=b:=by
 unfold Region.wanted
 cases hg with
 | free hn=>rw [hn]
 | told j want d b hn hd hb=>
  rw [hn]
  have h1:=ht j want d hn hd
  rw [hb] at h1
  have h2:a.tmps[d]?=some (.bool b):=by
   rw [Array.getD_eq_getD_getElem?] at h1
   generalize a.tmps[d]?=q at *
   cases q with
   | none=>
    simp only [Option.getD_none] at h1
    generalize hu:Go.undef=u at h1
    cases h1
    cases hu
   | some c=>cases h1;rfl
  have h3:((ops[j]?).bind (·.dst))=some d:=by simpa using hd
  simp only [yielded,h3,Option.bind_some,h2]
  cases b<;>cases want<;>rfl
 | void j want d hn hd hb=>
  rw [hn]
  have h1:=ht j want d hn hd
  rw [hb] at h1
  have h3:((ops[j]?).bind (·.dst))=some d:=by simpa using hd
  have h4:yielded ops a.tmps j=none:=by
   simp only [yielded,h3,Option.bind_some]
   rw [Array.getD_eq_getD_getElem?] at h1
   generalize a.tmps[d]?=q at *
   cases q with
   | none=>rfl
   | some c=>cases h1;rfl
  simp only [h4]
  rfl
theorem q07w {call:FuncId->Sum α}(hcall:CallsT P call){ops:Array Oper}{st:St}{K:St->Option α}{id:Nat}(he:opsK P false ro call ops.toList ops.toList st K=some r):
  ∃ st',K st'=some r∧RegSem ro st st' ((Code.region id ops false).wp P):=by
 obtain ⟨S,e1,e2,e3⟩:=q07u hcall _ _ _ (Nat.le_refl _) he
 refine ⟨_,e2,fun a w μ Q ht H hq=>wp_region ?_⟩
 have key:∀ m k,k+m=ops.size->∀ (a:Act) (w:World) (μ:LMap),TR (S k).h μ (S k).t a.tmps->HR ro (S k).h μ w ->
   (∀ a' w' μ',TR (S ops.size).h μ' (S ops.size).t a'.tmps->a'.defers=a.defers->HR ro (S ops.size).h μ' w'->Ext ro (S k).h μ w (S ops.size).h μ' w'->Q .normal a' w')->wpOps P ops Q (List.range' k m) a w:=by
  intro m
  induction m with
  | zero=>
   intro k hk a w μ ht H hq
   have:k=ops.size:=by omega
   subst this
   exact hq a w μ ht rfl H (.refl _ _ _ _)
  | succ m ih=>
   intro k hk a w μ ht H hq
   have hlt:k<ops.size:=by omega
   have ho:ops[k]?=some ops[k]:=by simp [hlt]
   simp only [List.range'_succ,wpOps,ho]
   have hstep:=(e3 k ops[k] (by simp [hlt])).1
   have hw:∀ b,GuardVal ops.toList (S k).t ops[k] b->Region.wanted ops[k] (yielded ops a.tmps)=b:=fun b hg=>hg.wanted (h:=(S k).h) (μ:=μ) fun _ _ d _ _=>ht.2 d
   rcases hstep.sem with ⟨hg,hs⟩ | ⟨v,hg,hs,hop⟩
   ·rw [hw _ hg,if_neg (by simp)]
    refine ih (k+1) (by omega) (a.put ops[k].dst Go.undef) w μ ?_ ?_ fun a' w' μ' q1 q2 q3 q4=>?_
    ·rw [hs];exact ht.put _ (VR.void _ _)
    ·rw [hs];exact H
    ·rw [hs] at q4;exact hq a' w' μ' q1 (by rw [q2,q07v]) q3 q4
   ·rw [hw _ hg,if_pos rfl]
    simp only [Bool.false_and,cond_false] at hop
    refine .inl (hop _ a w μ _ Q rfl (fun x _=>ht.eval x) H fun μ' w' c v1 v2 v3=>?_)
    refine ih (k+1) (by omega) (a.put ops[k].dst c) w' μ' ?_ v2 fun a' w'' μ'' q1 q2 q3 q4=>?_
    ·have e:(S (k+1)).t=putO (S k).t ops[k].dst v:=by rw [hs]
     rw [e]
     exact TR.put (ht.mono v3.le) _ v1
    ·exact hq a' w'' μ'' q1 (by rw [q2,q07v]) q3 (v3.trans q4)
 have:=key ops.size 0 (by omega) a w μ (by rw [e1];exact ht) (by rw [e1];exact H) (fun a' w' μ' q1 q2 q3 q4=>by
  rw [e1] at q4
  exact hq a' w' μ' (by simpa using q1) q2 (by simpa using q3) (by simpa using q4))
 rw [List.range_eq_range']
 exact this
end
end Go.AM
namespace Go.AM
section
theorem q07x {n:Nat}:∀ {l:List Nat},elemB n l=true->n∈l:=by
 intro l
 induction l with
 | nil=>intro h;simp [elemB] at h
 | cons m ms ih=>
  intro h
  simp only [elemB] at h
  cases hq:Nat.beq n m with
  | true=>rw [Nat.eq_of_beq_eq_true hq];simp
  | false=>rw [hq] at h;simp only [cond_false] at h;simp [ih h]
theorem q07y {n:Nat}:∀ {l:List Nat},n∈l->elemB n l=true:=by
 intro l
 induction l with
 | nil=>intro h;simp at h
 | cons m ms ih=>
  intro h
  simp only [elemB]
  cases hq:Nat.beq n m with
  | true=>rfl
  | false=>
   rcases List.mem_cons.1 h with rfl | h
   ·simp at hq
   ·simp [ih h]
theorem q07z {n:Nat}{xs ys:List Nat}(h1:n∈xs)(h2:n∈ys):meetB xs ys=true:=List.any_eq_true.2 ⟨n,h1,q07y h2⟩
theorem q080 {a:Nat}:∀ (l s:List Nat),a∈ancAdd s l->a∈s∨a∈l:=by
 intro l
 induction l with
 | nil=>exact fun s h=>.inl h
 | cons b l ih=>
  intro s h
  rw [ancAdd] at h
  cases hb:elemB b s with
  | true=>
   rw [hb] at h
   exact (ih s h).imp id fun h=>List.mem_cons_of_mem _ h
  | false=>
   rw [hb] at h
   rcases ih (b::s) h with h1 | h1
   ·rcases List.mem_cons.1 h1 with rfl | h2
    ·exact .inr (by simp)
    ·exact .inl h2
   ·exact .inr (List.mem_cons_of_mem _ h1)
theorem q081:∀ (rest:List Oper) (acc:List (List Nat)),(∃ l,ancFrom acc rest=acc++l) ∧
  ∀ i o a,rest[i]?=some o->a∈(ancFrom acc rest).getD (acc.length+i) []->∃ e,e∈o.after∧Region.binds .any e=true∧(a=e.on∨a∈(ancFrom acc rest).getD e.on []):=by
 intro rest
 induction rest with
 | nil=>exact fun acc=>⟨⟨[],by simp [ancFrom]⟩,fun i o a hi=>by simp at hi⟩
 | cons o rest ih=>
  intro acc
  obtain ⟨⟨l,hl⟩,h2⟩:=ih (acc++[ancAdd [] (o.after.toList.flatMap fun e=>cond (Region.binds .any e) (e.on::acc.getD e.on []) [])])
  refine ⟨⟨_,by rw [ancFrom,hl,List.append_assoc]⟩,fun i o' a hi ha=>?_⟩
  cases i with
  | zero=>
   simp only [List.getElem?_cons_zero,Option.some.injEq] at hi
   subst hi
   rw [ancFrom,hl] at ha
   have e0:(acc++[ancAdd [] (o.after.toList.flatMap fun e=>cond (Region.binds .any e) (e.on::acc.getD e.on []) [])]++l).getD (acc.length+0) []=ancAdd [] (o.after.toList.flatMap fun e=>cond (Region.binds .any e) (e.on::acc.getD e.on []) []):=by
    simp [List.getD_eq_getElem?_getD]
   rw [e0] at ha
   have ha:=(q080 _ _ ha).resolve_left (by simp)
   obtain ⟨e,he,hb⟩:=List.mem_flatMap.1 ha
   cases hbd:Region.binds .any e with
   | false=>rw [hbd] at hb;simp at hb
   | true=>
    rw [hbd] at hb
    simp only [cond_true,List.mem_cons] at hb
    refine ⟨e,by simpa using he,hbd,hb.imp id fun hb=>?_⟩
    rw [ancFrom,hl]
    by_cases hlt:e.on<acc.length
    ·rw [List.append_assoc,List.getD_eq_getElem?_getD,List.getElem?_append_left hlt,<- List.getD_eq_getElem?_getD];exact hb
    ·rw [List.getD_eq_getElem?_getD,List.getElem?_eq_none (by omega)] at hb
     simp at hb
  | succ i=>
   rw [ancFrom] at ha ⊢
   exact h2 i o' a (by simpa using hi) (by simpa [Nat.add_assoc,Nat.add_comm 1 i] using ha)
theorem q082:∀ (rest:List Oper) (j:Nat),backB j rest=true->∀ i o e,rest[i]?=some o->e∈o.after->Region.binds .any e=true->e.on<j+i:=by
 intro rest
 induction rest with
 | nil=>exact fun j _ i o e hi=>by simp at hi
 | cons o rest ih=>
  intro j hb i o' e hi he hbd
  simp only [backB,Bool.and_eq_true] at hb
  cases i with
  | zero=>
   simp only [List.getElem?_cons_zero,Option.some.injEq] at hi
   subst hi
   have:=q024 hb.1 e (by simpa using he)
   simpa [hbd] using this
  | succ i=>
   have:=ih (j+1) hb.2 i o' e (by simpa using hi) he hbd
   omega
theorem q083 {all:List Oper}{anc:List (List Nat)}:∀ (rest:List Oper) (j:Nat),pairsB all anc j rest=true->∀ k o,rest[k]?=some o->∀ i,i<j+k->pairB all (all.getD i default) o=true->i∈anc.getD (j+k) []:=by
 intro rest
 induction rest with
 | nil=>exact fun j _ k o hk=>by simp at hk
 | cons o rest ih=>
  intro j hb k o' hk i hi hp
  simp only [pairsB,Bool.and_eq_true] at hb
  cases k with
  | zero=>
   simp only [List.getElem?_cons_zero,Option.some.injEq] at hk
   subst hk
   have:=q024 hb.1 i (by simpa using hi)
   rw [hp] at this
   exact q07x (by simpa using this)
  | succ k=>
   have:=ih (j+1) hb.2 k o' (by simpa using hk) i (by omega) hp
   simpa [Nat.add_assoc,Nat.add_comm 1 k] using this
structure Ordered (ops:Array Oper) (anc:Nat->Nat->Prop):Prop where
 back:∀ i o e,ops[i]?=some o->e∈o.after->Region.binds .any e=true->e.on<i
 step:∀ i o a,ops[i]?=some o->anc i a->∃ e,e∈o.after∧Region.binds .any e=true∧(a=e.on∨anc e.on a)
 pair:∀ i j oi oj,i<j->ops[i]?=some oi->ops[j]?=some oj->pairB ops.toList oi oj=true->anc j i
theorem q084 {ops:Array Oper}(h:drawOk ops.toList=true):Ordered ops fun j i=>i∈(ancFrom [] ops.toList).getD j []:=by
 simp only [drawOk,Bool.and_eq_true] at h
 refine ⟨fun i o e hi he hb=>?_,fun i o a hi ha=>?_,fun i j oi oj hij hi hj hp=>?_⟩
 ·have:=q082 _ _ h.1 i o e (by simpa using hi) he hb
  omega
 ·have:=(q081 ops.toList []).2 i o a (by simpa using hi) (by simpa using ha)
  exact this
 ·have:=q083 _ _ h.2 j oj (by simpa using hj) i (by omega) (by
   have:ops.toList.getD i default=oi:=by simp [List.getD_eq_getElem?_getD,hi]
   rw [this];exact hp)
  simpa using this
theorem q085 {ops:Array Oper}{anc:Nat->Nat->Prop}(hO:Ordered ops anc){L:Nat->Bool}(hc:∀ i o,ops[i]?=some o->L i=true->∀ e,e∈o.after->Region.binds .any e=true->L e.on=true):
  ∀ j o,ops[j]?=some o->(∀ e,e∈o.after->Region.binds .any e=true->L e.on=true)->∀ a,anc j a->L a=true:=by
 intro j
 induction j using Nat.strongRecOn with
 | _ j ih=>
  intro o ho hd a ha
  obtain ⟨e,he,hb,h⟩:=hO.step j o a ho ha
  have hlt:=hO.back j o e ho he hb
  rcases h with rfl | h
  ·exact hd e he hb
  ·have hj:j<ops.size:=(Array.getElem?_eq_some_iff.1 ho).1
   have ho':ops[e.on]?=some ops[e.on]:=by simp [show e.on<ops.size by omega]
   exact ih e.on hlt _ ho' (hc _ _ ho' (hd e he hb)) a h
variable {P:Program} {ro:Nat}
theorem Oper.wp_exists {o:Oper}{a:Act}{w:World}{next:Act->World->Prop}(h:o.wp P a w next fun _ _ _=>False):∃ a' w',next a' w':=by
 unfold Oper.wp at h
 generalize (execOp a.eval o).run P w=res at h
 cases res with
 | ok n w'=>
  cases n<;>simp only [Oper.upon] at h
  case value v=>exact ⟨_,_,h⟩
  case skip=>exact ⟨_,_,h⟩
  case defer d=>exact ⟨_,_,h⟩
  case enter f args=>
   obtain ⟨e,w'',fr,hR,_⟩:=h []
   cases e with
   | returned v=>exact ⟨_,_,hR⟩
   | panicked c=>exact hR.elim
   | outgrown=>obtain ⟨_,_,hf⟩:=hR;exact hf.elim
  case row row args=>
   obtain ⟨v,w'',hR,_⟩:=h default []
   exact ⟨_,_,hR⟩
 | halt x w'=>
  cases x<;>simp only [Oper.upon] at h
theorem HR.quiet {h:Heap}{μ:LMap}{w:World}(H:HR ro h μ w):HR h.length h μ w:=
 ⟨H.nil_,H.at_,fun b b' k base room base' room' h1 h2=>by have:=q00j h2;omega,H.scope,Nat.le_refl _⟩
theorem q086 {h h':Heap}{b:Key}(hb:h'[b.b]?=h[b.b]?):has h' b↔has h b:=by unfold has;rw [q00k rfl hb]
theorem HR.unquiet {h h':Heap}{μ μ':LMap}{w w':World}(H:HR ro h μ w)(H':HR h.length h' μ' w')(E:Ext h.length h μ w h' μ' w'):HR ro h' μ' w':=by
 have hold:∀ {b:Key},b.b<h.length->(has h' b↔has h b)∧μ' b=μ b:=fun {b} hb=>⟨q086 (E.rob b.b hb hb).1,(E.rob b.b hb hb).2 b.r⟩
 refine ⟨H'.nil_,H'.at_,fun b b' k base room base' room' h1 h2 h3 h4 h5=>?_,H'.scope,Nat.le_trans H.rol E.len⟩
 by_cases hb:b.b<h.length
 ·by_cases hb':b'.b<h.length
  ·rw [(hold hb).2] at h5
   rw [(hold hb').2]
   exact H.inj b b' k base room base' room' h1 ((hold hb).1.1 h2) ((hold hb').1.1 h3) h4 h5
  ·intro h6
   exact H'.inj b' b k base' room' base room (by omega) h3 h2 (Ne.symm h4) h6 h5
 ·exact H'.inj b b' k base room base' room' (by omega) h2 h3 h4 h5
theorem Ext.unquiet {h h':Heap}{μ μ':LMap}{w w':World}(hro:ro<=h.length)(E:Ext h.length h μ w h' μ' w'):Ext ro h μ w h' μ' w':=
 ⟨E.le,E.os,E.tape,E.output,E.size,E.len,fun k hk _=>E.frame k hk fun b base room h1 h2=>by have:=q00j h2;omega,fun b h1 h2=>E.rob b h2 h2,fun b k base room h1 h2=>by
  rcases E.moved b k base room h1 h2 with ⟨b2,base2,room2,q1,q2,q3⟩ | q
  ·refine .inl ⟨b2,base2,room2,q1,q2,q3.imp (fun e=>?_) id⟩
   have:=q00j q1
   omega
  ·exact .inr q,E.froz⟩
theorem Ext.grows {h h':Heap}{μ μ':LMap}{w w':World}(E:Ext h.length h μ w h' μ' w'):h <+: h':=by
 rw [List.prefix_iff_getElem?]
 intro i hi
 rw [(E.rob i hi hi).1,List.getElem?_eq_getElem hi]
theorem q087 {h h':Heap}(hp:h <+: h'){b:Nat}(hb:b<h.length):h'[b]?=h[b]?:=by
 obtain ⟨l,rfl⟩:=hp
 rw [List.getElem?_append_left hb]
theorem q088 {h h':Heap}(hp:h <+: h'):h.length<=h'.length:=hp.length_le
theorem q089 {h h':Heap}(hp:h <+: h'){b:Key}(hb:b.b<h.length):blk? h' b=blk? h b:=q00k rfl (q087 hp hb)
theorem q08a {h h':Heap}(hp:h <+: h'){b:Key}(hb:has h b):has h' b:=by
 have:=q00j hb
 obtain ⟨ss,hb⟩:=hb
 exact ⟨ss,by rw [q089 hp this];exact hb⟩
theorem q08b {h h':Heap}(hp:h <+: h'){b:Key}{s L:Nat}(hl:segLenAt h b s=some L):segLenAt h' b s=some L:=by
 unfold segLenAt at *
 rw [q089 hp (q03i hl)]
 exact hl
theorem q08c {h h':Heap}(hp:h <+: h'){b:Key}{s L:Nat}(hl:segLenAt h b s=some L):segOff h' b s=segOff h b s:=by
 unfold segOff
 rw [q00a (q03h hl) (q089 hp (q03i hl))]
theorem VR.restrict {h h':Heap}(hp:h <+: h'){μ:LMap}{v:AV}{c:Value}(hv:VR h' μ v c)(hs:Scoped h v):VR h μ v c:=by
 induction hv with
 | undef c=>exact .undef c
 | bool b=>exact .bool b
 | int k n h=>exact .int k n h
 | str s=>exact .str s
 | nils=>exact .nils
 | ptr p a L hl hn hf=>
  cases hs with | ptr _ L' g1 g2=>
  have:=q08b hp g1
  rw [hl] at this
  cases this
  exact .ptr p a L g1 g2 fun e=>by rw [<- q08c hp g1];exact hf e
 | rptr p c a L hl hn hf=>
  cases hs with | rptr _ _ L' g1 g2=>
  have:=q08b hp g1
  rw [hl] at this
  cases this
  exact .rptr p c a L g1 g2 fun e=>by rw [<- q08c hp g1];exact hf e
 | slice p len cap es ex a cap' L hl hn hlc hf=>
  cases hs with | slice _ _ _ _ _ L' g1 g2=>
  have:=q08b hp g1
  rw [hl] at this
  cases this
  exact .slice p len cap es ex a cap' L g1 g2 hlc fun e=>by rw [<- q08c hp g1];exact hf e
 | func f caps cs h1 _ ih=>cases hs with | func _ _ q=>exact .func f caps cs h1 fun i=>ih i (q i)
 | agg ss cs h1 _ ih=>cases hs with | agg _ q=>exact .agg ss cs h1 fun i=>ih i (q i)
 | tuple vs cs h1 _ ih=>cases hs with | tuple _ q=>exact .tuple vs cs h1 fun i=>ih i (q i)
theorem HR.restrict {h h':Heap}(hp:h <+: h')(hs:ScopedH h){μ:LMap}{w:World}(H:HR ro h' μ w)(hro:ro<=h.length):HR ro h μ w:=by
 have hget:∀ {b:Key} {ss:Blk},blk? h b=some ss->blk? h' b=some ss:=fun hb=>by rw [q089 hp (q00j ⟨_,hb⟩)];exact hb
 refine ⟨fun b ss hb hm=>H.nil_ b ss (hget hb) hm,fun b ss k base room hb hm=>?_,fun b b' k base room base' room' h1 h2 h3=>H.inj b b' k base room base' room' h1 (q08a hp h2) (q08a hp h3),hs,hro⟩
 obtain ⟨q1,q2,q3,q4⟩:=H.at_ b ss k base room (hget hb) hm
 refine ⟨q1,q2,q3,fun i v hv=>?_⟩
 obtain ⟨c,e1,e2,e3⟩:=q4 i v hv
 exact ⟨c,e1,e2,e3.restrict hp (hs b ss hb i v hv)⟩
def cutMap (n:Nat)(μ μ':LMap):LMap:=fun b=>if b.b<n then μ b else μ' b
theorem q08d {n:Nat}{b:Key}{μ μ':LMap}(h:b.b<n):cutMap n μ μ' b=μ b:=if_pos h
theorem q08e {n:Nat}{b:Key}{μ μ':LMap}(h:n<=b.b):cutMap n μ μ' b=μ' b:=if_neg (by omega)
theorem Le.grows {h h':Heap}(hp:h <+: h'){μ μ':LMap}(hm:∀ b:Key,b.b<h.length->μ b≠.absent->μ' b=μ b):Le h μ h' μ':=
 ⟨fun b _ L hl=>⟨L,q08b hp hl,Nat.le_refl _,fun _=>⟨q08c hp hl,hm b (q03i hl)⟩⟩⟩
theorem HR.extend {h h':Heap}(hp:h <+: h')(hs:ScopedH h'){μ:LMap}{w:World}(H:HR ro h μ w):
  HR ro h' (cutMap h.length μ fun _=>.absent) w∧Ext ro h μ w h' (cutMap h.length μ fun _=>.absent) w:=by
 have hle:Le h μ h' (cutMap h.length μ fun _=>.absent):=.grows hp fun b hb _=>q08d hb
 have hcase:∀ {b:Key},cutMap h.length μ (fun _=>.absent) b≠.absent->b.b<h.length∧cutMap h.length μ (fun _=>.absent) b=μ b:=by
  intro b hb
  by_cases hlt:b.b<h.length
  ·exact ⟨hlt,q08d hlt⟩
  ·rw [q08e (by omega)] at hb;exact absurd rfl hb
 have hh:∀ {b:Key},b.b<h.length->has h' b->has h b:=fun hlt ⟨ss,hb⟩=>⟨ss,by rw [<- q089 hp hlt];exact hb⟩
 refine ⟨⟨fun b ss hb hm=>?_,fun b ss k base room hb hm=>?_,fun b b' k base room base' room' h1 h2 h3 h4 h5 h6=>?_,hs,Nat.le_trans H.rol (q088 hp)⟩,hle,rfl,rfl,rfl,Nat.le_refl _,q088 hp,fun _ _ _=>rfl,fun b h1 h2=>⟨q087 hp h2,fun r=>q08d h2⟩,fun b k base room h1 h2=>?_,fun _=>rfl⟩
 ·obtain ⟨hlt,e⟩:=hcase (b:=b) (by rw [hm];simp)
  rw [e] at hm
  exact H.nil_ b ss (by rw [<- q089 hp hlt];exact hb) hm
 ·obtain ⟨hlt,e⟩:=hcase (b:=b) (by rw [hm];simp)
  rw [e] at hm
  obtain ⟨q1,q2,q3,q4⟩:=H.at_ b ss k base room (by rw [<- q089 hp hlt];exact hb) hm
  refine ⟨q1,q2,q3,fun i v hv=>?_⟩
  obtain ⟨c,e1,e2,e3⟩:=q4 i v hv
  exact ⟨c,e1,e2,e3.mono hle⟩
 ·obtain ⟨g1,e1⟩:=hcase (b:=b) (by rw [h5];simp)
  obtain ⟨g2,e2⟩:=hcase (b:=b') (by rw [h6];simp)
  rw [e1] at h5
  rw [e2] at h6
  exact H.inj b b' k base room base' room' h1 (hh g1 h2) (hh g2 h3) h4 h5 h6
 ·obtain ⟨g1,e1⟩:=hcase (b:=b) (by rw [h2];simp)
  rw [e1] at h2
  exact .inl ⟨b,base,room,hh g1 h1,h2,.inr rfl⟩
theorem q08f {h h1 E:Heap}(hp:h <+: h1)(hp1:h1 <+: E){μ μ':LMap}{w w':World}(H:HR ro E μ w)(hro:ro<=h.length)(habs:∀ b:Key,h.length<=b.b->b.b<h1.length->μ b=.absent)
  (H':HR h.length h1 μ' w') (X:Ext h.length h μ w h1 μ' w'):
  HR ro E (cutMap h1.length μ' μ) w'∧Ext ro E μ w E (cutMap h1.length μ' μ) w'∧Le h1 μ' E (cutMap h1.length μ' μ):=by
 have hl1:Le h1 μ' E (cutMap h1.length μ' μ):=.grows hp1 fun b hb _=>q08d hb
 have hold:∀ b:Key,b.b<h.length->cutMap h1.length μ' μ b=μ b:=fun b hb=>by
  rw [q08d (Nat.lt_of_lt_of_le hb (q088 hp))];exact (X.rob b.b hb hb).2 b.r
 have hcase:∀ b:Key,cutMap h1.length μ' μ b=μ b∨(h.length<=b.b∧b.b<h1.length∧cutMap h1.length μ' μ b=μ' b):=by
  intro b
  by_cases g1:b.b<h.length
  ·exact .inl (hold b g1)
  ·by_cases g2:b.b<h1.length
   ·exact .inr ⟨by omega,g2,q08d g2⟩
   ·exact .inl (q08e (by omega))
 have hl2:Le E μ E (cutMap h1.length μ' μ):=⟨fun b _ L hl=>⟨L,hl,Nat.le_refl _,fun _=>⟨rfl,fun hn=>by
  rcases hcase b with e | ⟨g1,g2,_⟩
  ·exact e
  ·exact absurd (habs b g1 g2) hn⟩⟩⟩
 have hfr:∀ k,k<w.heap.size->w'.heap[k]?=w.heap[k]?:=fun k hk=>X.frame k hk fun b _ _ g1 g2=>by have:=q00j g2;omega
 have hin:∀ {b:Key},b.b<h1.length->has E b->has h1 b:=fun hlt ⟨ss,hb⟩=>⟨ss,by rw [<- q089 hp1 hlt];exact hb⟩
 have hnew:∀ b k base room,has E b->h.length<=b.b->b.b<h1.length->μ' b=.at k base room->w.heap.size<=k:=fun b k base room hb g1 g2 hm=>by
  rcases X.moved b k base room (hin g2 hb) hm with ⟨b2,_,_,g3,_,g4⟩ | g3
  ·have:=q00j g3
   rcases g4 with g4 | rfl<;>omega
  ·exact g3
 have hat:∀ b k base room,has E b->μ b=.at k base room->k<w.heap.size:=fun b k base room ⟨ss,hb⟩ hm=>(H.at_ b ss k base room hb hm).1
 refine ⟨⟨fun b ss hb hm=>?_,fun b ss k base room hb hm=>?_,fun b b' k base room base' room' g1 g2 g3 g4 g5 g6=>?_,H.scope,H.rol⟩,⟨hl2,X.os,X.tape,X.output,X.size,Nat.le_refl _,fun k hk _=>hfr k hk,fun b g1 g2=>⟨rfl,fun r=>?_⟩,fun b k base room g1 g2=>?_,X.froz⟩,hl1⟩
 ·rcases hcase b with e | ⟨g1,g2,e⟩
  ·rw [e] at hm;exact H.nil_ b ss hb hm
  ·rw [e] at hm;exact H'.nil_ b ss (by rw [<- q089 hp1 g2];exact hb) hm
 ·rcases hcase b with e | ⟨g1,g2,e⟩
  ·rw [e] at hm
   obtain ⟨q1,q2,q3,q4⟩:=H.at_ b ss k base room hb hm
   have hh:=hfr k q1
   refine ⟨Nat.lt_of_lt_of_le q1 X.size,q2,fun i hi=>?_,fun i v hv=>?_⟩
   ·rw [q01r (a:=⟨k,base+i,none⟩) hh,q01s (a:=⟨k,base+i,none⟩) hh];exact q3 i hi
   ·obtain ⟨c,e1,e2,e3⟩:=q4 i v hv
    exact ⟨c,by rw [q01r (a:=⟨k,base+i,none⟩) hh];exact e1,e2,e3.mono hl2⟩
  ·rw [e] at hm
   obtain ⟨q1,q2,q3,q4⟩:=H'.at_ b ss k base room (by rw [<- q089 hp1 g2];exact hb) hm
   refine ⟨q1,q2,q3,fun i v hv=>?_⟩
   obtain ⟨c,e1,e2,e3⟩:=q4 i v hv
   exact ⟨c,e1,e2,e3.mono hl1⟩
 ·rcases hcase b with e | ⟨q1,q2,e⟩
  ·rw [e] at g5
   rcases hcase b' with e' | ⟨q3,q4,e'⟩
   ·rw [e'] at g6;exact H.inj b b' k base room base' room' g1 g2 g3 g4 g5 g6
   ·rw [e'] at g6
    have:=hat b k base room g2 g5
    have:=hnew b' k base' room' g3 q3 q4 g6
    omega
  ·rw [e] at g5
   rcases hcase b' with e' | ⟨q3,q4,e'⟩
   ·rw [e'] at g6
    have:=hat b' k base' room' g3 g6
    have:=hnew b k base room g2 q1 q2 g5
    omega
   ·rw [e'] at g6;exact H'.inj b b' k base room base' room' q1 (hin q2 g2) (hin q4 g3) g4 g5 g6
 ·exact hold ⟨b,r⟩ (by simp only;omega)
 ·rcases hcase b with e | ⟨q1,q2,e⟩
  ·rw [e] at g2;exact .inl ⟨b,base,room,g1,g2,.inr rfl⟩
  ·rw [e] at g2;exact .inr (hnew b k base room g1 q1 q2 g2)
end
end Go.AM
namespace Go.AM
section
variable {P:Program} {ro:Nat} {ops:Array Oper} {S:Nat->St}
theorem q08g (t:List AV)(dst:Option Nat)(v:AV)(s:Nat):(putO t dst v).getD s .undef=if dst=some s∧s<t.length then v else t.getD s .undef:=by
 cases dst with
 | none=>simp [putO]
 | some d=>
  simp only [putO,q005,Option.some.injEq]
  by_cases h:d=s
  ·subst h;rfl
  ·rw [if_neg (by omega),if_neg (by omega)]
theorem StepOk.slots {draw:Bool}{all:List Oper}{o:Oper}{s s':St}(h:StepOk P draw ro all o s s'):∃ v,s'.t=putO s.t o.dst v:=by
 rcases h.sem with ⟨_,e⟩ | ⟨v,_,e,_⟩
 ·exact ⟨_,by rw [e]⟩
 ·exact ⟨v,by rw [e]⟩
def Reach (ro:Nat)(s:St):Prop:=∃ (a:Act) (w:World) (μ:LMap),TR s.h μ s.t a.tmps∧HR ro s.h μ w
theorem Reach.step {o:Oper}{all:List Oper}{s s':St}(hr:Reach ro s)(hs:StepOk P true ro all o s s'):Reach ro s'∧s.h.length<=s'.h.length∧(isW o.op=false->s.h <+: s'.h):=by
 obtain ⟨a,w,μ,ht,H⟩:=hr
 rcases hs.sem with ⟨_,e⟩ | ⟨v,_,e,hop⟩
 ·subst e
  exact ⟨⟨a.put o.dst Go.undef,w,μ,ht.put _ (VR.void _ _),H⟩,Nat.le_refl _,fun _=>List.prefix_rfl⟩
 ·have et:s'.t=putO s.t o.dst v:=by rw [e]
  cases hw:isW o.op with
  | true=>
   simp only [hw,Bool.not_true,Bool.and_false,cond_false] at hop
   obtain ⟨a',w',μ',c,rfl,v1,v2,v3⟩:=Oper.wp_exists (hop o a w μ (fun a' w'=>∃ μ' c,a'=a.put o.dst c∧VR s'.h μ' v c∧HR ro s'.h μ' w'∧Ext ro s.h μ w s'.h μ' w') _ rfl (fun x _=>ht.eval x) H fun μ' w' c v1 v2 v3=>⟨μ',c,rfl,v1,v2,v3⟩)
   exact ⟨⟨_,w',μ',by rw [et];exact TR.put (ht.mono v3.le) _ v1,v2⟩,v3.len,fun e=>by cases e⟩
  | false=>
   simp only [hw,Bool.not_false,Bool.and_true,cond_true] at hop
   obtain ⟨a',w',μ',c,rfl,v1,v2,v3⟩:=Oper.wp_exists (hop o a w μ (fun a' w'=>∃ μ' c,a'=a.put o.dst c∧VR s'.h μ' v c∧HR s.h.length s'.h μ' w'∧Ext s.h.length s.h μ w s'.h μ' w') _ rfl (fun x _=>ht.eval x) H.quiet fun μ' w' c v1 v2 v3=>⟨μ',c,rfl,v1,v2,v3⟩)
   exact ⟨⟨_,w',μ',by rw [et];exact TR.put (ht.mono v3.le) _ v1,H.unquiet v2 v3⟩,v3.len,fun _=>v3.grows⟩
theorem Reach.inScope {s:St}(hr:Reach ro s):ScopedH s.h∧(∀ k,Scoped s.h (s.t.getD k .undef))∧ro<=s.h.length:=by
 obtain ⟨a,w,μ,ht,H⟩:=hr
 exact ⟨H.scope,fun k=>(ht.2 k).inScope,H.rol⟩
structure Text (P:Program) (ro:Nat) (ops:Array Oper) (S:Nat->St):Prop where
 steps:∀ i o,ops[i]?=some o->StepOk P true ro ops.toList o (S i) (S (i+1))
 reach:∀ i,i<=ops.size->Reach ro (S i)
theorem Text.len {i j:Nat}(T:Text P ro ops S)(hij:i<=j)(hj:j<=ops.size):(S i).h.length<=(S j).h.length:=by
 obtain ⟨d,rfl⟩:=Nat.exists_eq_add_of_le hij
 clear hij
 induction d with
 | zero=>exact Nat.le_refl _
 | succ d ih=>
  have ho:ops[i+d]?=some ops[i+d]:=by simp [show i+d<ops.size by omega]
  exact Nat.le_trans (ih (by omega)) ((T.reach (i+d) (by omega)).step (T.steps _ _ ho)).2.1
theorem Text.pre {i j:Nat}(T:Text P ro ops S)(hij:i<=j)(hj:j<=ops.size)(hw:∀ k o,i<=k->k<j->ops[k]?=some o->isW o.op=false):(S i).h <+: (S j).h:=by
 obtain ⟨d,rfl⟩:=Nat.exists_eq_add_of_le hij
 clear hij
 induction d with
 | zero=>exact List.prefix_rfl
 | succ d ih=>
  have ho:ops[i+d]?=some ops[i+d]:=by simp [show i+d<ops.size by omega]
  exact (ih (by omega) fun k o h1 h2=>hw k o h1 (by omega)).trans (((T.reach (i+d) (by omega)).step (T.steps _ _ ho)).2.2 (hw _ _ (by omega) (by omega) ho))
def slotAt (ops:Array Oper)(S:Nat->St)(L:Nat->Bool)(s:Nat):Nat->AV
 | 0=>(S 0).t.getD s .undef
 | k+1=>if L k=true∧(ops[k]?).bind (·.dst)=some s then (S (k+1)).t.getD s .undef else slotAt ops S L s k
theorem Text.other {k s:Nat}(T:Text P ro ops S)(hk:k<ops.size)(hd:(ops[k]?).bind (·.dst)≠some s):(S (k+1)).t.getD s .undef=(S k).t.getD s .undef:=by
 have ho:ops[k]?=some ops[k]:=by simp [hk]
 obtain ⟨v,hv⟩:=(T.steps _ _ ho).slots
 rw [hv,q08g,if_neg]
 rintro ⟨e,_⟩
 exact hd (by rw [ho];exact e)
theorem q08h (T:Text P ro ops S){L:Nat->Bool}{s j:Nat}(hj:j<=ops.size)(h1:∀ i,i<j->(ops[i]?).bind (·.dst)=some s->L i=true)(h2:∀ i,j<=i->i<ops.size->(ops[i]?).bind (·.dst)=some s->L i=false):
  slotAt ops S L s ops.size=(S j).t.getD s .undef:=by
 have low:∀ k,k<=j->slotAt ops S L s k=(S k).t.getD s .undef:=by
  intro k
  induction k with
  | zero=>exact fun _=>rfl
  | succ k ih=>
   intro hk
   simp only [slotAt]
   split
   ·rfl
   ·rename_i hn
    rw [ih (by omega),T.other (by omega)]
    intro e
    exact hn ⟨h1 k (by omega) e,e⟩
 have high:∀ d,j+d<=ops.size->slotAt ops S L s (j+d)=(S j).t.getD s .undef:=by
  intro d
  induction d with
  | zero=>exact fun _=>low j (Nat.le_refl _)
  | succ d ih=>
   intro hd
   rw [show j+(d+1)=(j+d)+1 by omega]
   simp only [slotAt]
   rw [if_neg,ih (by omega)]
   rintro ⟨e1,e2⟩
   rw [h2 (j+d) (by omega) (by omega) e2] at e1
   cases e1
 have:=high (ops.size-j) (by omega)
 rwa [show j+(ops.size-j)=ops.size by omega] at this
theorem q08i {L L':Nat->Bool}{s:Nat}:∀ (k:Nat),(∀ i,i<k->(ops[i]?).bind (·.dst)=some s->L i=L' i)->slotAt ops S L s k=slotAt ops S L' s k:=by
 intro k
 induction k with
 | zero=>exact fun _=>rfl
 | succ k ih=>
  intro h
  simp only [slotAt]
  rw [ih fun i hi=>h i (by omega)]
  by_cases hd:(ops[k]?).bind (·.dst)=some s
  ·rw [h k (by omega) hd]
  ·rw [if_neg (fun h=>hd h.2),if_neg (fun h=>hd h.2)]
theorem q08j {L:Nat->Bool}{s j:Nat}(hL:L j=true)(hd:(ops[j]?).bind (·.dst)=some s)(h2:∀ i,j<i->i<ops.size->(ops[i]?).bind (·.dst)=some s->L i=false)(hj:j<ops.size):
  slotAt ops S L s ops.size=(S (j+1)).t.getD s .undef:=by
 have high:∀ d,j+1+d<=ops.size->slotAt ops S L s (j+1+d)=(S (j+1)).t.getD s .undef:=by
  intro d
  induction d with
  | zero=>
   intro _
   simp only [slotAt]
   rw [if_pos ⟨hL,hd⟩]
  | succ d ih=>
   intro hd'
   rw [show j+1+(d+1)=(j+1+d)+1 by omega]
   simp only [slotAt]
   rw [if_neg,ih (by omega)]
   rintro ⟨e1,e2⟩
   rw [h2 (j+1+d) (by omega) (by omega) e2] at e1
   cases e1
 have:=high (ops.size-(j+1)) (by omega)
 rwa [show j+1+(ops.size-(j+1))=ops.size by omega] at this
def listedB (l:Array Bool)(i:Nat):Bool:=l.getD i false
theorem q08k {l:Array Bool}{j:Nat}(hj:j<l.size)(i:Nat):listedB (l.setIfInBounds j true) i=if i=j then true else listedB l i:=by
 unfold listedB
 rw [q006]
 by_cases h:j=i
 ·subst h;rw [if_pos ⟨rfl,hj⟩,if_pos rfl]
 ·rw [if_neg (fun e=>h e.1),if_neg (Ne.symm h)]
structure Inv (ops:Array Oper) (S:Nat->St) (ro:Nat) (a0:Act) (w0:World) (μ0:LMap) (l:Array Bool) (a:Act) (w:World) (m:Nat) (μ:LMap):Prop where
 size:l.size=ops.size
 closed:∀ i o,ops[i]?=some o->listedB l i=true->∀ e,e∈o.after->Region.binds .any e=true->listedB l e.on=true
 mle:m<=ops.size
 done:∀ i o,i<m->ops[i]?=some o->isW o.op=true->listedB l i=true
 next:∀ o,ops[m]?=some o->isW o.op=true∧listedB l m=false
 late:∀ i o,m<=i->ops[i]?=some o->listedB l i=true->isP o.op=true∨isQ o.op=true
 len:(S 0).t.length=a.tmps.size
 slots:∀ s,VR (S m).h μ (slotAt ops S (listedB l) s ops.size) (a.tmps.getD s Go.undef)
 defers:a.defers=a0.defers
 heap:HR ro (S m).h μ w
 ext:Ext ro (S 0).h μ0 w0 (S m).h μ w
 abs:∀ i,i<m->listedB l i=false->∀ b:Key,(S i).h.length<=b.b->b.b<(S (i+1)).h.length->μ b=.absent
 keep:∀ i,i<m->listedB l i=false->∀ b,(S i).h.length<=b->b<(S (i+1)).h.length->(S m).h[b]?=(S (i+1)).h[b]?
theorem q08l {op:Op}(h:isP op=true):isW op=false:=by cases op<;>simp_all [isP,isW]
theorem q08m {op:Op}(h:isQ op=true):isW op=false:=by cases op<;>simp_all [isQ,isW]
theorem q08n {op:Op}(h:isL op=true):isW op=false:=by cases op<;>simp_all [isL,isW]
theorem q08o {op:Op}(h:isA op=true):isW op=false:=by cases op<;>simp_all [isA,isW]
theorem isS_W {op:Op}(h:isS op=true):isW op=true:=by cases op<;>simp_all [isS,isW]
theorem q08p {op:Op}(h:isQ op=true):isP op=false:=by cases op<;>simp_all [isP,isQ]
theorem q08q {op:Op}(h:isL op=true):isP op=false∧isQ op=false:=by cases op<;>simp_all [isP,isQ,isL]
theorem q08r {op:Op}(h:isA op=true):isP op=false∧isQ op=false:=by cases op<;>simp_all [isP,isQ,isA]
theorem q08s {op:Op}(h:isF op=true):isP op=false∧isQ op=false∧isL op=false∧isA op=false∧isS op=false:=by simpa [isF,and_assoc] using h
theorem q08t {all:List Oper}{o:Oper}{s:Nat}(h:.tmp s∈o.op.operands):s∈readsOf all o:=
 List.mem_append_left _ (List.mem_flatMap.2 ⟨.tmp s,by simpa using h,by simp [tmpOf]⟩)
theorem q08u {all:List Oper}{o:Oper}{j d:Nat}{want:Bool}(hg:o.guard=some (j,want))(hd:(all[j]?).bind (·.dst)=some d):d∈readsOf all o:=
 List.mem_append_right _ (by rw [hg];simp [hd])
theorem q08v (ops:Array Oper):∀ k,k<=ops.size->∃ m,k<=m∧m<=ops.size∧(∀ i o,k<=i->i<m->ops[i]?=some o->isW o.op=false)∧∀ o,ops[m]?=some o->isW o.op=true:=by
 intro k hk
 generalize hd:ops.size-k=d
 induction d generalizing k with
 | zero=>exact ⟨k,Nat.le_refl _,hk,fun i o h1 h2=>by omega,fun o ho=>by have:=(Array.getElem?_eq_some_iff.1 ho).1;omega⟩
 | succ d ih=>
  have ho:ops[k]?=some ops[k]:=by simp [show k<ops.size by omega]
  cases hw:isW ops[k].op with
  | true=>exact ⟨k,Nat.le_refl _,hk,fun i o h1 h2=>by omega,fun o ho'=>by rw [ho] at ho';cases ho';exact hw⟩
  | false=>
   obtain ⟨m,h1,h2,h3,h4⟩:=ih (k+1) (by omega) (by omega)
   refine ⟨m,by omega,h2,fun i o g1 g2 g3=>?_,h4⟩
   by_cases e:i=k
   ·subst e;rw [ho] at g3;cases g3;exact hw
   ·exact h3 i o (by omega) g2 g3
section step
variable {anc:Nat->Nat->Prop} {a0 a:Act} {w0 w:World} {μ0 μ:LMap} {l:Array Bool} {m j:Nat} {o:Oper}
theorem Inv.read (T:Text P ro ops S)(hO:Ordered ops anc)(I:Inv ops S ro a0 w0 μ0 l a w m μ)(hj:ops[j]?=some o)(hl:listedB l j=false)(hd:∀ e,e∈o.after->Region.binds .any e=true->listedB l e.on=true)
  {s:Nat} (hs:s∈readsOf ops.toList o):VR (S m).h μ ((S j).t.getD s .undef) (a.tmps.getD s Go.undef):=by
 have hjlt:j<ops.size:=(Array.getElem?_eq_some_iff.1 hj).1
 have hanc:=q085 hO I.closed j o hj hd
 rw [<- q08h T (L:=listedB l) (s:=s) (j:=j) (by omega)]
 ·exact I.slots s
 ·intro i hi hdst
  have ho:ops[i]?=some ops[i]:=by simp [show i<ops.size by omega]
  refine hanc i (hO.pair i j _ _ hi ho hj ?_)
  simp only [pairB,Bool.or_eq_true]
  exact .inl (.inl (.inl (q07z (n:=s) (by rw [ho] at hdst;simpa using hdst) hs)))
 ·intro i hi hlt hdst
  have ho:ops[i]?=some ops[i]:=by simp [hlt]
  rcases Nat.lt_or_eq_of_le hi with hi | rfl
  ·cases hq:listedB l i with
   | false=>rfl
   | true=>
    have:anc i j:=hO.pair j i _ _ hi hj ho (by
     simp only [pairB,Bool.or_eq_true]
     exact .inl (.inl (.inr (q07z (n:=s) (by rw [ho] at hdst;simpa using hdst) hs))))
    have:=q085 hO I.closed i _ ho (I.closed i _ ho hq) j this
    rw [hl] at this
    cases this
  ·exact hl
theorem Inv.wrote (T:Text P ro ops S)(hO:Ordered ops anc)(I:Inv ops S ro a0 w0 μ0 l a w m μ)(hj:ops[j]?=some o)(hl:listedB l j=false)
  {h':Heap} {μ':LMap} (hle:Le (S m).h μ h' μ') {v:AV} {c:Value} (hv:VR h' μ' v c) (hst:(S (j+1)).t=putO (S j).t o.dst v) (s:Nat):
  VR h' μ' (slotAt ops S (listedB (l.setIfInBounds j true)) s ops.size) ((a.put o.dst c).tmps.getD s Go.undef):=by
 have hjlt:j<ops.size:=(Array.getElem?_eq_some_iff.1 hj).1
 have hset:=q08k (l:=l) (j:=j) (by rw [I.size];exact hjlt)
 by_cases hdst:o.dst=some s
 ·rw [q08j (j:=j) (by rw [hset,if_pos rfl]) (by rw [hj];exact hdst) (fun i hi hlt hd=>?_) hjlt,hst,hdst,q08g]
  ·by_cases hlen:s<(S j).t.length
   ·rw [if_pos ⟨rfl,hlen⟩]
    have hsz:s<a.tmps.size:=by
     have:∀ k,k<=j->(S k).t.length=(S 0).t.length:=by
      intro k
      induction k with
      | zero=>exact fun _=>rfl
      | succ k ih=>
       intro hk
       have ho:ops[k]?=some ops[k]:=by simp [show k<ops.size by omega]
       obtain ⟨v,hv⟩:=(T.steps _ _ ho).slots
       rw [hv,<- ih (by omega)]
       cases ops[k].dst<;>simp [putO]
     rw [this j (Nat.le_refl _),I.len] at hlen
     exact hlen
    have:(a.put (some s) c).tmps.getD s Go.undef=c:=by
     simp only [Act.put]
     rw [q006,if_pos ⟨rfl,hsz⟩]
    rw [this]
    exact hv
   ·rw [if_neg (fun e=>hlen e.2),List.getD_eq_getElem?_getD,List.getElem?_eq_none (by omega)]
    exact .undef _
  ·rw [hset,if_neg (by omega)]
   have ho:ops[i]?=some ops[i]:=by simp [hlt]
   cases hq:listedB l i with
   | false=>rfl
   | true=>
    have:anc i j:=hO.pair j i _ _ hi hj ho (by
     simp only [pairB,Bool.or_eq_true]
     exact .inl (.inr (q07z (n:=s) (by simpa using hdst) (by rw [ho] at hd;simpa using hd))))
    have:=q085 hO I.closed i _ ho (I.closed i _ ho hq) j this
    rw [hl] at this
    cases this
 ·rw [q08i (L':=listedB l) ops.size fun i hi hd=>?_]
  ·have e:(a.put o.dst c).tmps.getD s Go.undef=a.tmps.getD s Go.undef:=by
    cases hq:o.dst with
    | none=>rfl
    | some d=>
     simp only [Act.put]
     rw [q006,if_neg]
     rintro ⟨e,_⟩
     exact hdst (by rw [hq,e])
   rw [e]
   exact (I.slots s).mono hle
  ·rw [hset,if_neg]
   rintro rfl
   rw [hj] at hd
   exact hdst hd
theorem Inv.closed' (I:Inv ops S ro a0 w0 μ0 l a w m μ)(hj:ops[j]?=some o)(hd:∀ e,e∈o.after->Region.binds .any e=true->listedB l e.on=true):
  ∀ i o',ops[i]?=some o'->listedB (l.setIfInBounds j true) i=true->∀ e,e∈o'.after->Region.binds .any e=true->listedB (l.setIfInBounds j true) e.on=true:=by
 have hjlt:j<ops.size:=(Array.getElem?_eq_some_iff.1 hj).1
 have hset:=q08k (l:=l) (j:=j) (by rw [I.size];exact hjlt)
 intro i o' hi hli e he hb
 rw [hset] at hli ⊢
 split
 ·rfl
 ·by_cases hij:i=j
  ·subst hij
   rw [hj] at hi
   cases hi
   exact hd e he hb
  ·rw [if_neg hij] at hli
   exact I.closed i o' hi hli e he hb
end step
end
end Go.AM
namespace Go.AM
theorem q08w {op:Op}(h:isQ op=true):isL op=false:=by cases op<;>simp_all [isL,isQ]
theorem q08x {op:Op}(h:isQ op=false):isFA op=false:=by cases op<;>simp_all [isFA,isQ]
theorem q08y {op:Op}(h:isA op=true):isFA op=false:=by cases op<;>simp_all [isFA,isA]
theorem q08z {op:Op}(h:isA op=true):isL op=false:=by cases op<;>simp_all [isL,isA]
section
variable {α:Type} {r:α} {P:Program} {ro:Nat} {ops:Array Oper} {S:Nat->St} {anc:Nat->Nat->Prop} {a0 a:Act} {w0 w:World} {μ0 μ:LMap} {l:Array Bool} {m j:Nat} {o:Oper}
theorem q090 {h:Heap}{t:List AV}{a:Act}{all:List Oper}{o:Oper}(hr:∀ s,s∈readsOf all o->VR h μ (t.getD s .undef) (a.tmps.getD s Go.undef)):
  ∀ x,x∈o.op.operands->VR h μ (evalO t x) (a.eval x):=by
 intro x hx
 cases x with
 | tmp s=>exact hr s (q08t hx)
 | const c=>exact q07q h μ t c
 | global g=>exact .undef _
 | func f=>exact .func f [] #[] rfl fun i=>by simpa using VR.undef _
def ShapeLe (h h':Heap):Prop:=∀ (b:Key) (ss:Blk),blk? h b=some ss->∃ ss',blk? h' b=some ss'∧shapeB ss'=shapeB ss
theorem ShapeLe.refl (h:Heap):ShapeLe h h:=fun _ ss e=>⟨ss,e,rfl⟩
theorem ShapeLe.trans {h h1 h2:Heap}(a:ShapeLe h h1)(b:ShapeLe h1 h2):ShapeLe h h2:=fun x ss e=>by
 obtain ⟨s1,e1,f1⟩:=a x ss e
 obtain ⟨s2,e2,f2⟩:=b x s1 e1
 exact ⟨s2,e2,f2.trans f1⟩
theorem ShapeLe.of_prefix {h h':Heap}(hp:h <+: h'):ShapeLe h h':=fun b ss e=>⟨ss,by rw [q089 hp (q00j ⟨_,e⟩)];exact e,rfl⟩
theorem ShapeLe.of_set {h:Heap}{b:Key}{old new:Blk}(hb:blk? h b=some old)(hf:fitB b old new)(hs:shapeB new=shapeB old):ShapeLe h (setB h b new):=fun x ss e=>by
 rw [q01i hb hf]
 by_cases hx:x=b
 ·subst hx
  rw [hb] at e
  cases e
  rw [if_pos rfl]
  exact ⟨new,rfl,hs⟩
 ·rw [if_neg hx]
  exact ⟨ss,e,rfl⟩
theorem StepOk.isStore {all : List Oper} {o : Oper} {s s' : St} (h : StepOk P true ro all o s s') (hS : isS o.op = true) : s'.h = s.h ∨ ∃ ty x y b old new, o.op = .store ty x y ∧ s'.h = setB s.h b new ∧ blkOf (evalO s.t x) = some b ∧ blk? s.h b = some old ∧ fitB b old new ∧ shapeB new = shapeB old := by
  cases h with
  | skip _ e => exact .inl (by rw [e])
  | pure v _ hp _ _ => have := q08l hp; rw [isS_W hS] at this; cases this
  | look v _ hp _ _ => have := q08m hp; rw [isS_W hS] at this; cases this
  | load v _ hp _ _ => have := q08n hp; rw [isS_W hS] at this; cases this
  | new v ss _ hp _ _ => have := q08o hp; rw [isS_W hS] at this; cases this
  | store ty x y b old new _ ho e h1 h2 h3 h4 _ => exact .inr ⟨ty, x, y, b, old, new, ho, by rw [e], h1, h2, h3, h4⟩
  | run v h' _ hf _ _ => rcases hf with hf | hf; · rw [(q08s hf).2.2.2.2] at hS; cases hS
                         cases hf
theorem Text.shape {i j:Nat}(T:Text P ro ops S)(hij:i<=j)(hj:j<=ops.size)(hw:∀ k o,i<=k->k<j->ops[k]?=some o->isW o.op=true->isS o.op=true):ShapeLe (S i).h (S j).h:=by
 obtain ⟨d,rfl⟩:=Nat.exists_eq_add_of_le hij
 clear hij
 induction d with
 | zero=>exact .refl _
 | succ d ih=>
  have ho:ops[i+d]?=some ops[i+d]:=by simp [show i+d<ops.size by omega]
  have hs:=T.steps _ _ ho
  refine (ih (by omega) fun k o h1 h2=>hw k o h1 (by omega)).trans ?_
  cases hq:isW ops[i+d].op with
  | false=>exact .of_prefix (((T.reach (i+d) (by omega)).step hs).2.2 hq)
  | true=>
   rcases hs.isStore (hw _ _ (by omega) (by omega) ho hq) with e | ⟨ty,x,y,b,old,new,_,e,_,h2,hf,h3⟩
   ·rw [show i+(d+1)=i+d+1 by omega,e];exact .refl _
   ·rw [show i+(d+1)=i+d+1 by omega,e];exact .of_set h2 hf h3
theorem Text.shapeAt {i j:Nat}{b:Key}(T:Text P ro ops S)(hij:i<=j)(hj:j<=ops.size)(hw:∀ k o,i<=k->k<j->ops[k]?=some o->isW o.op=true->isS o.op=true∨(S (k+1)).h[b.b]?=(S k).h[b.b]?):
  ∀ ss,blk? (S i).h b=some ss->∃ ss',blk? (S j).h b=some ss'∧shapeB ss'=shapeB ss:=by
 obtain ⟨d,rfl⟩:=Nat.exists_eq_add_of_le hij
 clear hij
 induction d with
 | zero=>exact fun ss h=>⟨ss,h,rfl⟩
 | succ d ih=>
  intro ss hss
  have ho:ops[i+d]?=some ops[i+d]:=by simp [show i+d<ops.size by omega]
  have hs:=T.steps _ _ ho
  obtain ⟨s1,h1,h2⟩:=ih (by omega) (fun k o h1 h2=>hw k o h1 (by omega)) ss hss
  have one:ShapeLe (S (i+d)).h (S (i+d+1)).h∨(S (i+d+1)).h[b.b]?=(S (i+d)).h[b.b]?:=by
   cases hq:isW ops[i+d].op with
   | false=>exact .inl (.of_prefix (((T.reach (i+d) (by omega)).step hs).2.2 hq))
   | true=>
    rcases hw _ _ (by omega) (by omega) ho hq with h | h
    ·rcases hs.isStore h with e | ⟨ty,x,y,b',old,new,_,e,_,h2,hf,h3⟩
     ·exact .inl (by rw [e];exact .refl _)
     ·exact .inl (by rw [e];exact .of_set h2 hf h3)
    ·exact .inr h
  rcases one with h | h
  ·obtain ⟨s2,h3,h4⟩:=h b s1 h1
   exact ⟨s2,h3,h4.trans h2⟩
  ·refine ⟨s1,?_,h2⟩
   rw [show i+(d+1)=i+d+1 by omega,<- h1]
   exact q00k rfl h
def Apart (ops:Array Oper)(S:Nat->St)(anc:Nat->Nat->Prop):Prop:=
 ∀ i k oi ok,i<k->ops[i]?=some oi->ops[k]?=some ok->∀ ti x tk y z,oi.op=.load ti x->ok.op=.store tk y z->anc k i∨∃ b b',blkOf (evalO (S i).t x)=some b∧blkOf (evalO (S k).t y)=some b'∧b.b≠b'.b
def ApartL (ops:Array Oper)(S:Nat->St)(anc:Nat->Nat->Prop):Prop:=
 ∀ i k oi ok,i<k->ops[i]?=some oi->ops[k]?=some ok->∀ x,x∈addrsOf oi.op->isLd ok.op=true->anc k i∨∀ b,blkOf (evalO (S i).t x)=some b->has (S i).h b->(S (k+1)).h[b.b]?=(S k).h[b.b]?
theorem Text.sameBlk {i j:Nat}{b:Key}(T:Text P ro ops S)(hij:i<=j)(hj:j<=ops.size)(hb:b.b<(S i).h.length)
  (hw:∀ k o,i<=k->k<j->ops[k]?=some o->isW o.op=true->(isS o.op=true∧∀ tk y z,o.op=.store tk y z->∃ b',blkOf (evalO (S k).t y)=some b'∧b.b≠b'.b)∨(S (k+1)).h[b.b]?=(S k).h[b.b]?):blk? (S j).h b=blk? (S i).h b:=by
 obtain ⟨d,rfl⟩:=Nat.exists_eq_add_of_le hij
 clear hij
 induction d with
 | zero=>rfl
 | succ d ih=>
  have ho:ops[i+d]?=some ops[i+d]:=by simp [show i+d<ops.size by omega]
  have hs:=T.steps _ _ ho
  rw [<- ih (by omega) fun k o h1 h2=>hw k o h1 (by omega)]
  have hlen:=T.len (show i<=i+d by omega) (by omega)
  cases hq:isW ops[i+d].op with
  | false=>exact q089 (((T.reach (i+d) (by omega)).step hs).2.2 hq) (by omega)
  | true=>
   rcases hw _ _ (by omega) (by omega) ho hq with ⟨h1,h2⟩ | h1
   rotate_left
   ·rw [show i+(d+1)=i+d+1 by omega]
    exact q00k rfl h1
   rcases hs.isStore h1 with e | ⟨ty,x,y,b0,old,new,eo,e,h3,h4,h5,h6⟩
   ·rw [show i+(d+1)=i+d+1 by omega,e]
   ·obtain ⟨b',g1,g2⟩:=h2 _ _ _ eo
    rw [h3] at g1
    cases g1
    rw [show i+(d+1)=i+d+1 by omega,e,q01i h4 h5,if_neg (fun e=>g2 (by rw [e]))]
theorem q091 {E:Heap}{bs:List Blk}{n:Nat}{μ μ':LMap}{w w':World}(H:HR ro E μ w)(hE:∀ b,n<=b->b<n+bs.length->E[b]?=bs[b-n]?)(hlE:n+bs.length<=E.length)(hro:ro<=n)(habs:∀ b:Key,n<=b.b->b.b<n+bs.length->μ b=.absent)
  (H':HR n (List.replicate n []++bs) μ' w') (X:Ext n (List.replicate n []) (fun _=>.absent) w (List.replicate n []++bs) μ' w'):
  HR ro E (fun b=>if n<=b.b∧b.b<n+bs.length then μ' b else μ b) w'∧Ext ro E μ w E (fun b=>if n<=b.b∧b.b<n+bs.length then μ' b else μ b) w'∧Le (List.replicate n []++bs) μ' E (fun b=>if n<=b.b∧b.b<n+bs.length then μ' b else μ b):=by
 have hnew:∀ b,n<=b->b<n+bs.length->(List.replicate n ([]:Blk)++bs)[b]?=E[b]?:=fun b h1 h2=>by rw [List.getElem?_append_right (by simpa using h1),hE b h1 h2];simp
 have hblk:∀ b:Key,n<=b.b->b.b<n+bs.length->blk? (List.replicate n ([]:Blk)++bs) b=blk? E b:=fun b h1 h2=>q00k rfl (hnew b.b h1 h2)
 have hl1:Le (List.replicate n []++bs) μ' E (fun b=>if n<=b.b∧b.b<n+bs.length then μ' b else μ b):=⟨fun b s L hl=>by
  have hlt:=q03i hl
  simp only [List.length_append,List.length_replicate] at hlt
  by_cases hb:n<=b.b
  ·have hin:n<=b.b∧b.b<n+bs.length:=⟨hb,hlt⟩
   refine ⟨L,by unfold segLenAt at hl ⊢;rw [<- hblk b hb hlt];exact hl,Nat.le_refl _,fun _=>⟨?_,fun _=>if_pos hin⟩⟩
   unfold segOff
   rw [q00a (q03h hl) (hblk b hb hlt).symm]
  ·exfalso
   obtain ⟨ss,hbb,hs,_⟩:=q00m hl
   rcases q00i hbb with ⟨_,h1,_⟩ | ⟨_,_,_,_,_,h1,_,_⟩
   ·rw [List.getElem?_append_left (by simp;omega),List.getElem?_replicate,if_pos (by omega)] at h1
    cases h1
    cases hs
   ·rw [List.getElem?_append_left (by simp;omega),List.getElem?_replicate,if_pos (by omega)] at h1
    cases h1⟩
 have hl2:Le E μ E (fun b=>if n<=b.b∧b.b<n+bs.length then μ' b else μ b):=⟨fun b _ L hl=>⟨L,hl,Nat.le_refl _,fun _=>⟨rfl,fun hne=>by
  by_cases e:n<=b.b∧b.b<n+bs.length
  ·exact absurd (habs b e.1 e.2) hne
  ·exact if_neg e⟩⟩⟩
 have hfr:∀ k,k<w.heap.size->w'.heap[k]?=w.heap[k]?:=fun k hk=>X.frame k hk fun b _ _ g1 g2=>by
  have:=q00j g2
  simp at this
  omega
 have hin:∀ {b:Key},n<=b.b∧b.b<n+bs.length->has E b->has (List.replicate n ([]:Blk)++bs) b:=fun e ⟨ss,hb⟩=>⟨ss,by rw [hblk _ e.1 e.2];exact hb⟩
 have hmv:∀ b k base room,n<=b.b∧b.b<n+bs.length->has E b->μ' b=.at k base room->w.heap.size<=k:=fun b k base room e hb hm=>by
  rcases X.moved b k base room (hin e hb) hm with ⟨b2,_,_,g3,g4,_⟩ | g3
  ·cases g4
  ·exact g3
 have hat:∀ b k base room,has E b->μ b=.at k base room->k<w.heap.size:=fun b k base room ⟨ss,hb⟩ hm=>(H.at_ b ss k base room hb hm).1
 refine ⟨⟨fun b sb hb hm=>?_,fun b sb k base room hb hm=>?_,fun b b' k base room base' room' g1 g2 g3 g4 g5 g6=>?_,H.scope,H.rol⟩,⟨hl2,X.os,X.tape,X.output,X.size,Nat.le_refl _,fun k hk _=>hfr k hk,fun b g1 g2=>⟨rfl,fun r=>if_neg (by simp only;omega)⟩,fun b k base room g1 g2=>?_,X.froz⟩,hl1⟩
 ·by_cases e:n<=b.b∧b.b<n+bs.length
  ·simp only [if_pos e] at hm
   exact H'.nil_ b sb (by rw [hblk b e.1 e.2];exact hb) hm
  ·simp only [if_neg e] at hm
   exact H.nil_ b sb hb hm
 ·by_cases e:n<=b.b∧b.b<n+bs.length
  ·simp only [if_pos e] at hm
   obtain ⟨q1,q2,q3,q4⟩:=H'.at_ b sb k base room (by rw [hblk b e.1 e.2];exact hb) hm
   refine ⟨q1,q2,q3,fun i v hv=>?_⟩
   obtain ⟨c,e1,e2,e3⟩:=q4 i v hv
   exact ⟨c,e1,e2,e3.mono hl1⟩
  ·simp only [if_neg e] at hm
   obtain ⟨q1,q2,q3,q4⟩:=H.at_ b sb k base room hb hm
   have hh:=hfr k q1
   refine ⟨Nat.lt_of_lt_of_le q1 X.size,q2,fun i hi=>?_,fun i v hv=>?_⟩
   ·rw [q01r (a:=⟨k,base+i,none⟩) hh,q01s (a:=⟨k,base+i,none⟩) hh];exact q3 i hi
   ·obtain ⟨c,e1,e2,e3⟩:=q4 i v hv
    exact ⟨c,by rw [q01r (a:=⟨k,base+i,none⟩) hh];exact e1,e2,e3.mono hl2⟩
 ·by_cases e:n<=b.b∧b.b<n+bs.length
  ·simp only [if_pos e] at g5
   have:=hmv b k base room e g2 g5
   by_cases e':n<=b'.b∧b'.b<n+bs.length
   ·simp only [if_pos e'] at g6
    exact H'.inj b b' k base room base' room' e.1 (hin e g2) (hin e' g3) g4 g5 g6
   ·simp only [if_neg e'] at g6
    have:=hat b' k base' room' g3 g6
    omega
  ·simp only [if_neg e] at g5
   have:=hat b k base room g2 g5
   by_cases e':n<=b'.b∧b'.b<n+bs.length
   ·simp only [if_pos e'] at g6
    have:=hmv b' k base' room' e' g3 g6
    omega
   ·simp only [if_neg e'] at g6
    exact H.inj b b' k base room base' room' g1 g2 g3 g4 g5 g6
 ·by_cases e:n<=b.b∧b.b<n+bs.length
  ·simp only [if_pos e] at g2
   exact .inr (hmv b k base room e g1 g2)
  ·simp only [if_neg e] at g2
   exact .inl ⟨b,base,room,g1,g2,.inr rfl⟩
theorem q092 (c:Value):blkOf (ofValue c)=none:=by
 unfold ofValue
 split
 ·rfl
 ·rename_i k n;cases fits k n<;>rfl
 ·rfl
 ·rfl
 ·rfl
 ·rfl
theorem q093 {t:List AV}{x:Operand}{b:Key}(hb:blkOf (evalO t x)=some b):∃ s,x=.tmp s:=by
 cases x with
 | tmp s=>exact ⟨s,rfl⟩
 | const c=>
  exfalso
  simp only [evalO] at hb
  split at hb
  ·simp [blkOf] at hb
  ·simp [blkOf] at hb
  ·simp [blkOf] at hb
  ·rw [q092] at hb;cases hb
 | global g=>simp [evalO,blkOf] at hb
 | func f=>simp [evalO,blkOf] at hb
theorem q094 {h:Heap}{v:AV}{b:Key}(hs:Scoped h v)(hb:blkOf v=some b):has h b:=by
 cases hs<;>simp only [blkOf,Option.some.injEq,reduceCtorEq] at hb
 case ptr h1 _=>subst hb;exact q03h h1
 case rptr h1 _=>subst hb;exact q03h h1
 case slice h1 _=>subst hb;exact q03h h1
theorem Inv.same (T:Text P ro ops S)(hO:Ordered ops anc)(I:Inv ops S ro a0 w0 μ0 l a w m μ)(hj:ops[j]?=some o)(hl:listedB l j=false)(hd:∀ e,e∈o.after->Region.binds .any e=true->listedB l e.on=true)
  (hw:isW o.op=false) (hp:m<=j->isP o.op=true∨isQ o.op=true) {w':World} {μ':LMap} {v:AV} {c:Value} (hst:(S (j+1)).t=putO (S j).t o.dst v) (hv:VR (S m).h μ' v c) (H:HR ro (S m).h μ' w')
  (X:Ext ro (S m).h μ w (S m).h μ' w') (habs:∀ i,i<m->i≠j->listedB l i=false->∀ b:Key,(S i).h.length<=b.b->b.b<(S (i+1)).h.length->μ' b=.absent):
  Inv ops S ro a0 w0 μ0 (l.setIfInBounds j true) (a.put o.dst c) w' m μ':=by
 have hjlt:j<ops.size:=(Array.getElem?_eq_some_iff.1 hj).1
 have hset:=q08k (l:=l) (j:=j) (by rw [I.size];exact hjlt)
 refine ⟨by simp [I.size],I.closed' hj hd,I.mle,fun i o' hi ho hwi=>?_,fun o' ho=>?_,fun i o' hi ho hli=>?_,?_,I.wrote T hO hj hl X.le hv hst,by rw [q07v];exact I.defers,H,I.ext.trans X,fun i hi hli b h1 h2=>?_,fun i hi hli b h1 h2=>?_⟩
 ·rw [hset]
  split
  ·rfl
  ·exact I.done i o' hi ho hwi
 ·obtain ⟨h1,h2⟩:=I.next o' ho
  refine ⟨h1,?_⟩
  rw [hset,if_neg]
  ·exact h2
  ·rintro rfl
   rw [hj] at ho
   cases ho
   rw [hw] at h1
   cases h1
 ·rw [hset] at hli
  by_cases hij:i=j
  ·subst hij
   rw [hj] at ho
   cases ho
   exact hp hi
  ·rw [if_neg hij] at hli
   exact I.late i o' hi ho hli
 ·rw [I.len]
  cases o.dst<;>simp [Act.put]
 ·rw [hset] at hli
  by_cases hij:i=j
  ·rw [if_pos hij] at hli;cases hli
  ·rw [if_neg hij] at hli
   exact habs i hi hij hli b h1 h2
 ·rw [hset] at hli
  by_cases hij:i=j
  ·rw [if_pos hij] at hli;cases hli
  ·rw [if_neg hij] at hli
   exact I.keep i hi hli b h1 h2
theorem Inv.turn (T:Text P ro ops S)(hO:Ordered ops anc)(I:Inv ops S ro a0 w0 μ0 l a w j μ)(hj:ops[j]?=some o)(hl:listedB l j=false)(hd:∀ e,e∈o.after->Region.binds .any e=true->listedB l e.on=true)
  (hw:isW o.op=true) {w':World} {μ':LMap} {v:AV} {c:Value} (hst:(S (j+1)).t=putO (S j).t o.dst v) (hv:VR (S (j+1)).h μ' v c) (H:HR ro (S (j+1)).h μ' w')
  (X:Ext ro (S j).h μ w (S (j+1)).h μ' w') (hab:∀ i,i<j->listedB l i=false->(∀ b:Key,(S i).h.length<=b.b->b.b<(S (i+1)).h.length->μ' b=.absent)∧∀ b,(S i).h.length<=b->b<(S (i+1)).h.length->(S (j+1)).h[b]?=(S j).h[b]?):
  ∃ m' μ'',Inv ops S ro a0 w0 μ0 (l.setIfInBounds j true) (a.put o.dst c) w' m' μ'':=by
 have hjlt:j<ops.size:=(Array.getElem?_eq_some_iff.1 hj).1
 have hset:=q08k (l:=l) (j:=j) (by rw [I.size];exact hjlt)
 obtain ⟨m',g1,g2,g3,g4⟩:=q08v ops (j+1) (by omega)
 have hpre:=T.pre g1 g2 g3
 obtain ⟨H2,X2⟩:=H.extend hpre (T.reach m' g2).inScope.1
 have hX:=X.trans X2
 refine ⟨m',_,⟨by simp [I.size],I.closed' hj hd,g2,fun i o' hi ho hwi=>?_,fun o' ho=>⟨g4 o' ho,?_⟩,fun i o' hi ho hli=>?_,?_,I.wrote T hO hj hl hX.le (hv.mono X2.le) hst,by rw [q07v];exact I.defers,H2,I.ext.trans hX,fun i hi hli b h1 h2=>?_,fun i hi hli b h1 h2=>?_⟩⟩
 ·rw [hset]
  split
  ·rfl
  ·by_cases hij:i<j
   ·exact I.done i o' hij ho hwi
   ·have:=g3 i o' (by omega) hi ho
    rw [hwi] at this
    cases this
 ·rw [hset,if_neg (by omega)]
  cases hq:listedB l m' with
  | false=>rfl
  | true=>
   have h2:=g4 o' ho
   rcases I.late m' o' (by omega) ho hq with h1 | h1
   ·rw [q08l h1] at h2
    cases h2
   ·rw [q08m h1] at h2
    cases h2
 ·rw [hset,if_neg (by omega)] at hli
  exact I.late i o' (by omega) ho hli
 ·rw [I.len]
  cases o.dst<;>simp [Act.put]
 ·rw [hset] at hli
  by_cases hij:i=j
  ·rw [if_pos hij] at hli;cases hli
  ·rw [if_neg hij] at hli
   by_cases hlt:i<j
   ·rw [q08d]
    ·exact (hab i hlt hli).1 b h1 h2
    ·exact Nat.lt_of_lt_of_le h2 (T.len (by omega) (by omega))
   ·rw [q08e]
    exact Nat.le_trans (T.len (show j+1<=i by omega) (by omega)) h1
 ·rw [hset] at hli
  by_cases hij:i=j
  ·rw [if_pos hij] at hli;cases hli
  ·rw [if_neg hij] at hli
   by_cases hlt:i<j
   ·rw [q087 hpre (Nat.lt_of_lt_of_le h2 (T.len (by omega) (by omega))),(hab i hlt hli).2 b h1 h2]
    exact I.keep i hlt hli b h1 h2
   ·exact q087 (T.pre (show i+1<=m' by omega) g2 fun k o' q1 q2 q3=>g3 k o' (by omega) q2 q3) h2
theorem q095 {oi oj:Op}(h:isW oj=true)(hi:isP oi=false)(hn:(isS oj&&(isQ oi||isL oi||isA oi))=false)(hm:(isLd oj&&(isL oi||isFA oi))=false):memB oi oj=true:=by
 simp only [memB,h,hi,hn,hm,Bool.or_self,Bool.not_false,Bool.and_self,Bool.true_or]
theorem q096 {oi oj:Op}(h:isW oi=true)(hj:isP oj=false)(hn:(isS oi&&isQ oj)=false):memB oi oj=true:=by
 simp only [memB,h,hj,hn,Bool.or_self,Bool.not_false,Bool.and_self,Bool.or_true]
theorem q097 {all:List Oper}{oi oj:Oper}(h:memB oi.op oj.op=true):pairB all oi oj=true:=by
 simp only [pairB,h,Bool.or_true]
theorem Inv.step (T:Text P ro ops S)(hA:Apart ops S anc)(hAL:ApartL ops S anc)(hO:Ordered ops anc)(I:Inv ops S ro a0 w0 μ0 l a w m μ)(hj:ops[j]?=some o)(hl:listedB l j=false)(hd:∀ e,e∈o.after->Region.binds .any e=true->listedB l e.on=true)
  {Q:Exit->Act->World->Prop} {K:Act->World->Prop} (hK:∀ a' w' m' μ',Inv ops S ro a0 w0 μ0 (l.setIfInBounds j true) a' w' m' μ'->K a' w'):wpOp P ops Q j K a w:=by
 have hjlt:j<ops.size:=(Array.getElem?_eq_some_iff.1 hj).1
 have hread:=fun s hs=>I.read T hO hj hl hd (s:=s) hs
 have hops:=q090 hread
 have hanc:=q085 hO I.closed j o hj hd
 have hwant:∀ b,GuardVal ops.toList (S j).t o b->Region.wanted o (yielded ops a.tmps)=b:=fun b hg=>hg.wanted (h:=(S m).h) (μ:=μ) fun _ _ d h1 h2=>hread d (q08u h1 h2)
 have hsc:=(T.reach j (by omega)).inScope
 have hWm:isW o.op=true->m=j:=by
  intro hw
  rcases Nat.lt_trichotomy m j with h | h | h
  ·exfalso
   have ho:ops[m]?=some ops[m]:=by simp [show m<ops.size by omega]
   obtain ⟨h1,h2⟩:=I.next _ ho
   have hp:isP o.op=false:=by
    cases hp:isP o.op with
    | false=>rfl
    | true=>rw [q08l hp] at hw;cases hw
   have hq:isQ o.op=false:=by
    cases hq:isQ o.op with
    | false=>rfl
    | true=>rw [q08m hq] at hw;cases hw
   have:anc j m:=hO.pair m j _ _ h ho hj (q097 (q096 h1 hp (by rw [hq,Bool.and_false])))
   have:=hanc m this
   rw [h2] at this
   cases this
  ·exact h
  ·exfalso
   have:=I.done j o h hj hw
   rw [hl] at this
   cases this
 have hMm:isP o.op=false->isQ o.op=false->isW o.op=false->j<m:=by
  intro hp hq hw
  rcases Nat.lt_or_ge j m with h | h
  ·exact h
  ·exfalso
   have ho:ops[m]?=some ops[m]:=by simp [show m<ops.size by omega]
   obtain ⟨h1,h2⟩:=I.next _ ho
   have hne:m≠j:=by
    rintro rfl
    rw [hj] at ho
    cases ho
    rw [hw] at h1
    cases h1
   have:anc j m:=hO.pair m j _ _ (by omega) ho hj (q097 (q096 h1 hp (by rw [hq,Bool.and_false])))
   have:=hanc m this
   rw [h2] at this
   cases this
 have hbetw:∀ i o',j<i->i<m->ops[i]?=some o'->isW o'.op=true->¬ anc i j:=by
  intro i o' h1 h2 ho hwi ha
  have hli:=I.done i o' h2 ho hwi
  have:=q085 hO I.closed i _ ho (I.closed i _ ho hli) j ha
  rw [hl] at this
  cases this
 have hpreM:isF o.op=true->isW o.op=false->∀ k,j<=k->k<=m->(S k).h <+: (S m).h:=by
  intro hf hw k hk hkm
  refine T.pre hkm I.mle fun i o' h1 h2 ho=>?_
  cases hwi:isW o'.op with
  | false=>rfl
  | true=>
   exfalso
   have hij:j<i:=by
    rcases Nat.lt_or_eq_of_le (Nat.le_trans hk h1) with h | rfl
    ·exact h
    ·rw [hj] at ho;cases ho;rw [hw] at hwi;cases hwi
   obtain ⟨f1,f2,f3,f4,f5⟩:=q08s hf
   exact hbetw i o' hij h2 ho hwi (hO.pair j i _ _ hij hj ho (q097 (q095 hwi f1 (by rw [f2,f3,f4,Bool.or_self,Bool.or_self,Bool.and_false]) (by rw [f3,q08x f2,Bool.or_self,Bool.and_false]))))
 have hstores0:isP o.op=false->isW o.op=false->∀ i o',j<=i->i<m->ops[i]?=some o'->isW o'.op=true->isS o'.op=true∨(isLd o'.op=true∧(isL o.op=true∨isFA o.op=true)):=by
  intro hp hw i o' h1 h2 ho hwi
  have hij:j<i:=by
   rcases Nat.lt_or_eq_of_le h1 with h | rfl
   ·exact h
   ·rw [hj] at ho;cases ho;rw [hw] at hwi;cases hwi
  cases hs:isS o'.op with
  | true=>exact .inl rfl
  | false=>
   cases hll:(isLd o'.op&&(isL o.op||isFA o.op)) with
   | true=>simp only [Bool.and_eq_true,Bool.or_eq_true] at hll;exact .inr hll
   | false=>exact absurd (hO.pair j i _ _ hij hj ho (q097 (q095 hwi hp (by rw [hs,Bool.false_and]) hll))) (hbetw i o' hij h2 ho hwi)
 unfold wpOp
 simp only [hj]
 have hskip:∀ {v:AV} {c:Value} {h':Heap},S (j+1)=⟨putO (S j).t o.dst v,h'⟩->h'=(S j).h->(∀ h μ,VR h μ v c)->K (a.put o.dst c) w:=by
  intro v c h' e eh hv
  subst eh
  cases hw:isW o.op with
  | true=>
   have:=hWm hw
   subst this
   have eh:(S (m+1)).h=(S m).h:=by rw [e]
   obtain ⟨m',μ',I'⟩:=I.turn T hO hj hl hd hw (w':=w) (μ':=μ) (v:=v) (c:=c) (by rw [e]) (hv _ _) (by rw [eh];exact I.heap) (by rw [eh];exact .refl _ _ _ _) (fun i hi hli=>⟨I.abs i hi hli,fun b h1 h2=>by rw [eh]⟩)
   exact hK _ _ _ _ I'
  | false=>
   refine hK _ _ _ _ (I.same T hO hj hl hd hw (fun hmj=>?_) (v:=v) (c:=c) (by rw [e]) (hv _ _) I.heap (.refl _ _ _ _) fun i hi _ hli=>I.abs i hi hli)
   cases hp:isP o.op with
   | true=>exact .inl rfl
   | false=>
    cases hq:isQ o.op with
    | true=>exact .inr rfl
    | false=>have:=hMm hp hq hw;omega
 have hquiet:∀ {v:AV},GuardVal ops.toList (S j).t o true->S (j+1)=⟨putO (S j).t o.dst v,(S j).h⟩->isW o.op=false->(m<=j->isP o.op=true∨isQ o.op=true)->OpSem P (S m).h.length o.op (S j).t (S m).h v (S m).h->wpOp P ops Q j K a w:=by
  intro v hg e hw hmp hop
  unfold wpOp
  simp only [hj]
  rw [hwant _ hg,if_pos rfl]
  refine .inl (hop o a w μ _ Q rfl hops I.heap.quiet fun μ' w' c v1 v2 v3=>?_)
  exact hK _ _ _ _ (I.same T hO hj hl hd hw hmp (by rw [e]) v1 (I.heap.unquiet v2 v3) (v3.unquiet I.heap.rol) fun i hi _ hli b h1 h2=>by
   have hb:b.b<(S m).h.length:=Nat.lt_of_lt_of_le h2 (T.len (by omega) I.mle)
   rw [show μ' b=μ b from (v3.rob b.b hb hb).2 b.r]
   exact I.abs i hi hli b h1 h2)
 unfold wpOp at hquiet
 simp only [hj] at hquiet
 have hs:=T.steps j o hj
 cases hs with
 | skip hg e=>
  rw [hwant _ hg,if_neg (by simp)]
  exact hskip e rfl fun h μ=>VR.void h μ
 | pure v hg hp e hop=>exact hquiet hg e (q08l hp) (fun _=>.inl hp) (hop _ _)
 | look v hg hq e hop=>
  have hw:=q08m hq
  refine hquiet hg e hw (fun _=>.inr hq) (hop _ _ fun x hx b hb ss hss=>?_)
  obtain ⟨s,rfl⟩:=q093 hb
  have hbl:=q094 (hsc.2.1 s) hb
  obtain ⟨sj,hb0⟩:=hbl
  rcases Nat.lt_or_ge j m with hjm | hjm
  ·obtain ⟨ss',e1,e2⟩:=T.shapeAt (b:=b) (Nat.le_of_lt hjm) I.mle (fun k o' h1 h2 ho hwk=>by
    have hjk:j<k:=by
     rcases Nat.lt_or_eq_of_le h1 with h | rfl
     ·exact h
     ·rw [hj] at ho;cases ho;rw [hw] at hwk;cases hwk
    rcases hstores0 (q08p hq) hw k o' h1 h2 ho hwk with h | ⟨hlk,hfa⟩
    ·exact .inl h
    ·have hfa:isFA o.op=true:=hfa.elim (fun h=>by rw [q08w hq] at h;cases h) id
     have hax:(.tmp s)∈addrsOf o.op:=by
      revert hfa hx
      cases o.op<;>simp [isFA,Op.operands,addrsOf]
     rcases hAL j k o o' hjk hj ho (.tmp s) hax hlk with ha | ha
     ·exact absurd ha (hbetw k o' hjk h2 ho hwk)
     ·exact .inr (ha b hb (q094 (hsc.2.1 s) hb))) _ hb0
   rw [hss] at e1
   cases e1
   exact ⟨_,hb0,e2.symm⟩
  ·obtain ⟨ss',e1,e2⟩:=T.shape hjm (by omega) (fun k o' h1 h2 ho hwk=>by
    cases hsk:isS o'.op with
    | true=>rfl
    | false=>
     exfalso
     have:anc j k:=hO.pair k j _ _ h2 ho hj (q097 (q096 hwk (q08p hq) (by rw [hsk,Bool.false_and])))
     have hlk:=hanc k this
     rcases I.late k o' h1 ho hlk with h3 | h3
     ·rw [q08l h3] at hwk;cases hwk
     ·rw [q08m h3] at hwk;cases hwk) b ss hss
   exact ⟨_,e1,e2⟩
 | load v hg hq e hop=>
  have hw:=q08n hq
  have hn:=q08q hq
  have hjm:=hMm hn.1 hn.2 hw
  refine hquiet hg e hw (fun hmj=>by omega) (hop _ _ fun x hx b hb ss hss=>?_)
  obtain ⟨s,rfl⟩:=q093 hb
  have hbl:=q00j (q094 (hsc.2.1 s) hb)
  rw [<- hss]
  refine (T.sameBlk (Nat.le_of_lt hjm) I.mle hbl fun k o' h1 h2 ho hwk=>?_).symm
  have hjk:j<k:=by
   rcases Nat.lt_or_eq_of_le h1 with h | rfl
   ·exact h
   ·rw [hj] at ho;cases ho;rw [hw] at hwk;cases hwk
  have hol:∃ ti,o.op=.load ti (.tmp s):=by
   revert hq hx
   cases o.op<;>simp [isL,Op.operands]
   rintro rfl
   rfl
  obtain ⟨ti,hol⟩:=hol
  rcases hstores0 hn.1 hw k o' h1 h2 ho hwk with hsk | ⟨hlk,_⟩
  rotate_left
  ·rcases hAL j k o o' hjk hj ho (.tmp s) (by rw [hol];simp [addrsOf]) hlk with ha | ha
   ·exact absurd ha (hbetw k o' hjk h2 ho hwk)
   ·exact .inr (ha b hb (q094 (hsc.2.1 s) hb))
  refine .inl ⟨hsk,fun tk y z hok=>?_⟩
  rcases hA j k o o' hjk hj ho ti (.tmp s) tk y z hol hok with ha | ⟨b1,b2,q1,q2,q3⟩
  ·exact absurd ha (hbetw k o' hjk h2 ho hwk)
  ·rw [hb] at q1
   cases q1
   exact ⟨b2,q2,q3⟩
 | new v bs hg hq e hop=>
  have hw:=q08o hq
  have hn:=q08r hq
  have hjm:=hMm hn.1 hn.2 hw
  have eh:(S (j+1)).h=(S j).h++bs:=by rw [e]
  have hlen:(S (j+1)).h.length=(S j).h.length+bs.length:=by rw [eh];simp
  have hE:∀ b,(S j).h.length<=b->b<(S j).h.length+bs.length->(S m).h[b]?=bs[b-(S j).h.length]?:=fun b h1 h2=>by
   rw [I.keep j hjm hl b h1 (by omega),eh,List.getElem?_append_right h1]
  have hlE:(S j).h.length+bs.length<=(S m).h.length:=by rw [<- hlen];exact T.len (by omega) I.mle
  have hab:∀ b:Key,(S j).h.length<=b.b->b.b<(S j).h.length+bs.length->μ b=.absent:=fun b h1 h2=>I.abs j hjm hl b h1 (by omega)
  have hempty:HR (S j).h.length (List.replicate (S j).h.length []) (fun _=>.absent) w:=by
   refine ⟨fun _ _ _ hm=>by simp at hm,fun _ _ _ _ _ _ hm=>by simp at hm,fun b b' k base room base' room' _ h2 h3 h4 hm=>by simp at hm,fun b sb hb i v hv=>?_,by simp⟩
   rcases q00i hb with ⟨_,h1,_⟩ | ⟨_,_,_,_,_,h1,_,_⟩
   ·rw [List.getElem?_replicate] at h1
    split at h1
    ·cases h1;simp [flat] at hv
    ·cases h1
   ·rw [List.getElem?_replicate] at h1
    split at h1
    ·cases h1
    ·cases h1
  have hnop:∀ x,x∈o.op.operands->VR (List.replicate (S j).h.length []) (fun _=>.absent) (evalO (S j).t x) (a.eval x):=by
   intro x hx
   exfalso
   revert hq hx
   cases o.op<;>simp [isA,Op.operands]
   rename_i ty n ps
   cases hps:ps.toList with
   | nil=>
    have:ps=#[]:=by simpa using hps
    subst this
    simp
   | cons=>simp
  rw [hwant _ hg,if_pos rfl]
  refine .inl (hop (S j).h.length _ (by simp) o a w _ _ Q rfl hnop hempty fun μ' w' c v1 v2 v3=>?_)
  obtain ⟨q1,q2,q3⟩:=q091 I.heap hE hlE hsc.2.2 hab v2 v3
  refine hK _ _ _ _ (I.same T hO hj hl hd hw (fun hmj=>by omega) (by rw [e]) (v1.mono q3) q1 q2 fun i hi hij hli b h1 h2=>?_)
  have hne:¬ ((S j).h.length<=b.b∧b.b<(S j).h.length+bs.length):=by
   intro hb
   rcases Nat.lt_or_ge i j with h | h
   ·have:=T.len (show i+1<=j by omega) (by omega)
    omega
   ·have:=T.len (show j+1<=i by omega) (by have:=I.mle;omega)
    omega
  rw [if_neg hne]
  exact I.abs i hi hli b h1 h2
 | store ty x y b old new hg ho e hbk hold hfits hshape hop=>
  have hw:isW o.op=true:=by rw [ho];rfl
  have:=hWm hw
  subst this
  have eh:(S (m+1)).h=setB (S m).h b new:=by rw [e]
  rw [hwant _ hg,if_pos rfl]
  obtain ⟨hnb,hwp⟩:=hop o a w μ (fun a' w'=>K a' w') Q rfl hops I.heap
  refine .inl (hwp fun w' c v1 v2 v3=>?_)
  obtain ⟨m',μ'',I'⟩:=I.turn T hO hj hl hd hw (w':=w') (μ':=μ) (v:=.undef) (c:=c) (by rw [e]) (.undef _) (by rw [eh];exact v2) (by rw [eh];exact v3) fun i hi hli=>by
   refine ⟨I.abs i hi hli,fun b' h1 h2=>?_⟩
   rw [eh]
   refine q01h ?_
   rintro rfl
   exact hnb (I.abs i hi hli b h1 h2)
  exact hK _ _ _ _ I'
 | run v h' hg hf e hop=>
  rw [hwant _ hg,if_pos rfl]
  have eh:(S (j+1)).h=h':=by rw [e]
  have hf:isF o.op=true:=hf.elim id fun e=>by cases e
  obtain ⟨f1,f2,f3,f4,f5⟩:=q08s hf
  cases hw:isW o.op with
  | true=>
   have:=hWm hw
   subst this
   simp only [hw,Bool.not_true,Bool.and_false,cond_false] at hop
   refine .inl (hop o a w μ _ Q rfl hops I.heap fun μ' w' c v1 v2 v3=>?_)
   obtain ⟨m',μ'',I'⟩:=I.turn T hO hj hl hd hw (w':=w') (μ':=μ') (v:=v) (c:=c) (by rw [e]) (by rw [eh];exact v1) (by rw [eh];exact v2) (by rw [eh];exact v3) fun i hi hli=>by
    have hno:(S (i+1)).h.length<=(S i).h.length->(∀ b:Key,(S i).h.length<=b.b->b.b<(S (i+1)).h.length->μ' b=.absent)∧∀ b,(S i).h.length<=b->b<(S (i+1)).h.length->(S (m+1)).h[b]?=(S m).h[b]?:=fun hle=>⟨fun b h1 h2=>by omega,fun b h1 h2=>by omega⟩
    refine hno ?_
    have ho:ops[i]?=some ops[i]:=by simp [show i<ops.size by omega]
    cases hll:(isL ops[i].op||isFA ops[i].op) with
    | true=>
     have hs:=T.steps i _ ho
     have:(S (i+1)).h=(S i).h:=by
      cases hs with
      | skip _ e=>rw [e]
      | pure v _ hq e _=>rw [e]
      | look v _ hq e _=>rw [e]
      | load v _ hq e _=>rw [e]
      | new v ss _ hq _ _=>rw [q08z hq,q08y hq] at hll;cases hll
      | store ty x y b old new _ ho' _ _ _ _ _ _=>rw [ho'] at hll;cases hll
      | run v h' _ hq _ _=>have hh:=q08s (hq.elim id fun e=>by cases e);rw [hh.2.2.1,q08x hh.2.1] at hll;cases hll
     rw [this]
     exact Nat.le_refl _
    | false=>
    cases hp:isP ops[i].op with
    | false=>
     have:anc m i:=hO.pair i m _ _ hi ho hj (q097 (q095 hw hp (by rw [f5,Bool.false_and]) (by rw [hll,Bool.and_false])))
     have:=q085 hO I.closed m o hj hd i this
     rw [hli] at this
     cases this
    | true=>
     have hs:=T.steps i _ ho
     have:(S (i+1)).h=(S i).h:=by
      cases hs with
      | skip _ e=>rw [e]
      | pure v _ _ e _=>rw [e]
      | look v _ hq _ _=>rw [q08p hq] at hp;cases hp
      | load v _ hq _ _=>rw [(q08q hq).1] at hp;cases hp
      | new v ss _ hq _ _=>rw [(q08r hq).1] at hp;cases hp
      | store ty x y b old new _ ho' _ _ _ _ _ _=>rw [ho'] at hp;cases hp
      | run v h' _ hq _ _=>rw [(q08s (hq.elim id fun e=>by cases e)).1] at hp;cases hp
     rw [this]
     exact Nat.le_refl _
   exact hK _ _ _ _ I'
  | false=>
   simp only [hw,Bool.not_false,Bool.and_true,cond_true] at hop
   have hjm:=hMm f1 f2 hw
   have hp0:=hpreM hf hw j (Nat.le_refl _) (by omega)
   have hp1:=hpreM hf hw (j+1) (by omega) hjm
   rw [eh] at hp1
   have hops':∀ x,x∈o.op.operands->VR (S j).h μ (evalO (S j).t x) (a.eval x):=q090 (all:=ops.toList) fun s hs=>(hread s hs).restrict hp0 (hsc.2.1 s)
   refine .inl (hop o a w μ _ Q rfl hops' ((I.heap.restrict hp0 hsc.1 hsc.2.2).quiet) fun μ' w' c v1 v2 v3=>?_)
   obtain ⟨q1,q2,q3⟩:=q08f v3.grows hp1 I.heap hsc.2.2 (fun b h1 h2=>I.abs j hjm hl b h1 (by rw [eh];exact h2)) v2 v3
   refine hK _ _ _ _ (I.same T hO hj hl hd hw (fun hmj=>by omega) (by rw [e]) (v1.mono q3) q1 q2 fun i hi hij hli b h1 h2=>?_)
   by_cases hlt:i<j
   ·have hb:b.b<(S j).h.length:=Nat.lt_of_lt_of_le h2 (T.len (by omega) (by omega))
    rw [q08d (Nat.lt_of_lt_of_le hb v3.len),show μ' b=μ b from (v3.rob b.b hb hb).2 b.r]
    exact I.abs i hi hli b h1 h2
   ·have hb:h'.length<=b.b:=by rw [<- eh];exact Nat.le_trans (T.len (show j+1<=i by omega) (by have:=I.mle;omega)) h1
    rw [q08e hb]
    exact I.abs i hi hli b h1 h2
theorem q098 {p p':Nat->Bool}{j:Nat}:∀ {l:List Nat},(∀ x,p' x=true->p x=true)->j∈l->p j=true->p' j=false->l.countP p'<l.countP p:=by
 intro l hpp hj h1 h2
 induction l with
 | nil=>simp at hj
 | cons x xs ih=>
  have hle:xs.countP p'<=xs.countP p:=List.countP_mono_left fun x _=>hpp x
  rw [List.countP_cons,List.countP_cons]
  rcases List.mem_cons.1 hj with rfl | hj
  ·rw [h1,h2];simp;omega
  ·have:=ih hj
   cases hx:p' x with
   | true=>rw [hpp x hx];simp;omega
   | false=>cases p x<;>simp<;>omega
theorem q099 {s:Nat}{rest:List Oper}(h:keepsB s rest=true){o:Oper}(ho:o∈rest):o.dst≠some s:=by
 have:=q024 h o ho
 intro e
 rw [e] at this
 simp at this
theorem Text.keeps {i s:Nat}(T:Text P ro ops S)(hi:i<=ops.size)(h:keepsB s (ops.toList.drop i)=true):(S ops.size).t.getD s .undef=(S i).t.getD s .undef:=by
 obtain ⟨d,hd⟩:=Nat.exists_eq_add_of_le hi
 have key:∀ d,i+d<=ops.size->(S (i+d)).t.getD s .undef=(S i).t.getD s .undef:=by
  intro d
  induction d with
  | zero=>exact fun _=>rfl
  | succ d ih=>
   intro hd
   rw [show i+(d+1)=i+d+1 by omega,T.other (by omega),ih (by omega)]
   have ho:ops[i+d]?=some ops[i+d]:=by simp [show i+d<ops.size by omega]
   rw [ho]
   refine q099 h (o:=ops[i+d]) ?_
   rw [List.mem_iff_getElem?]
   exact ⟨d,by rw [List.getElem?_drop];simp [show i+d<ops.size by omega]⟩
 rw [hd]
 exact key d (by omega)
theorem q09a {all:List Oper}{t:List AV}{anc:List (List Nat)}:∀ (rest:List Oper) (j:Nat),lateB all t anc j rest=true->∀ k o,rest[k]?=some o->∀ tk y z,o.op=.store tk y z ->
  ∀ i ti x,i<j+k->(all.getD i default).op=.load ti x->i∈anc.getD (j+k) []∨apartO all t i (j+k) x y=true:=by
 intro rest
 induction rest with
 | nil=>exact fun j _ k o hk=>by simp at hk
 | cons o rest ih=>
  intro j hb k o' hk tk y z ho i ti x hi hl
  simp only [lateB,Bool.and_eq_true] at hb
  cases k with
  | zero=>
   simp only [List.getElem?_cons_zero,Option.some.injEq] at hk
   subst hk
   have h1:=hb.1
   rw [ho] at h1
   have h2:=q024 h1 i (by simpa using hi)
   rw [hl] at h2
   simp only [Bool.or_eq_true] at h2
   exact h2.imp q07x id
  | succ k=>
   have:=ih (j+1) hb.2 k o' (by simpa using hk) tk y z ho i ti x (by omega) hl
   simpa [Nat.add_assoc,Nat.add_comm 1 k] using this
theorem Text.apart (T:Text P ro ops S)(h:lateB ops.toList (S ops.size).t (ancFrom [] ops.toList) 0 ops.toList=true):Apart ops S fun j i=>i∈(ancFrom [] ops.toList).getD j []:=by
 intro i k oi ok hik hi hk ti x tk y z hx hy
 have hksz:k<ops.size:=(Array.getElem?_eq_some_iff.1 hk).1
 rcases q09a _ _ h k ok (by simpa using hk) tk y z hy i ti x (by omega) (by
  have:ops.toList.getD i default=oi:=by simp [List.getD_eq_getElem?_getD,hi]
  rw [this];exact hx) with h1 | h1
 ·exact .inl (by simpa using h1)
 ·rw [Nat.zero_add] at h1
  unfold apartO at h1
  split at h1
  ·rename_i s s'
   simp only [Bool.and_eq_true] at h1
   obtain ⟨h2,h3,h4⟩:=h1
   rw [T.keeps (by omega) h2,T.keeps (by omega) h3] at h4
   split at h4
   ·rename_i b b' e1 e2
    exact .inr ⟨b,b',e1,e2,fun e=>by rw [e] at h4;simp at h4⟩
   ·cases h4
  ·cases h1
theorem q09b {all:List Oper}{anc:List (List Nat)}{k:Nat}{op:Op}{t:List AV}{h:Heap}(hb:lateL all anc k op t h=true){i x}(hi:i<k)(hl:x∈addrsOf (all.getD i default).op):
  i∈anc.getD k []∨(∃ s,x=.tmp s∧keepsB s (all.drop i)=true∧keepsB s (all.drop k)=true∧∀ b,blkOf (t.getD s .undef)=some b->b.b ∉ wroteOf op t h)∨∀ s,x≠.tmp s:=by
 unfold lateL at hb
 have h2:=q024 hb i (by simpa using hi)
 split at h2
 ·rename_i e
  rw [e] at hl
  cases hl
 ·rename_i y ys e
  rw [e] at hl
  simp only [Bool.or_eq_true] at h2
  rcases h2 with h2 | h2
  ·exact .inl (q07x h2)
  ·have h3:=q024 h2 x hl
   cases x with
   | tmp s=>
    simp only [Bool.and_eq_true] at h3
    obtain ⟨h3,h4,h5⟩:=h3
    refine .inr (.inl ⟨s,rfl,h3,h4,fun b hbk hm=>?_⟩)
    rw [hbk] at h5
    simp only [q07y hm,Bool.not_true,Bool.false_eq_true] at h5
   | _=>exact .inr (.inr fun s e=>by cases e)
theorem Text.apartL (T:Text P ro ops S)(h:∀ k o,ops[k]?=some o->LdOk true ops.toList k o (S k) (S (k+1))):ApartL ops S fun j i=>i∈(ancFrom [] ops.toList).getD j []:=by
 intro i k oi ok hik hi hk x hx hy
 have hksz:k<ops.size:=(Array.getElem?_eq_some_iff.1 hk).1
 rcases h k ok hk rfl hy with e | ⟨h1,h2⟩
 ·exact .inr fun b _ _=>by rw [e]
 ·rcases q09b h1 hik (x:=x) (by
   have:ops.toList.getD i default=oi:=by simp [List.getD_eq_getElem?_getD,hi]
   rw [this];exact hx) with h3 | ⟨s,rfl,h4,h5,h7⟩ | h8
  ·exact .inl h3
  ·refine .inr fun b' hb' hs=>?_
   have e:(S i).t.getD s .undef=(S k).t.getD s .undef:=(T.keeps (by omega) h4).symm.trans (T.keeps (by omega) h5)
   have h8:blkOf ((S i).t.getD s .undef)=some b':=hb'
   rw [e] at h8
   exact h2 b'.b (Nat.lt_of_lt_of_le (q00j hs) (T.len (by omega) (by omega))) (h7 b' h8)
  ·refine .inr fun b' hb' _=>?_
   obtain ⟨s,rfl⟩:=q093 hb'
   exact absurd rfl (h8 s)
theorem q09c {call:FuncId->Sum α}(hcall:CallsT P call)(hm:P.follows .mixedOrders=true){ops:Array Oper}(hok:drawOk ops.toList=true){st:St}{K:St->Option α}{id:Nat}(he:opsK P true ro call ops.toList ops.toList st (fun st'=>br (lateB ops.toList st'.t (ancFrom [] ops.toList) 0 ops.toList) (K st') none)=some r):
  ∃ st',K st'=some r∧RegSem ro st st' ((Code.region id ops true).wp P):=by
 obtain ⟨S,e1,e2,e3'⟩:=q07u hcall _ _ _ (Nat.le_refl _) he
 have e3:=fun i o h=>(e3' i o h).1
 obtain ⟨hlate,e2⟩:=q008 e2
 refine ⟨_,e2,fun a0 w0 μ0 Q ht H hq=>wp_region_any hm ?_⟩
 have hO:=q084 hok
 have H':HR ro st.h μ0 { w0 with drawn:=w0.drawn+1 }:=⟨H.nil_,H.at_,H.inj,H.scope,H.rol⟩
 have hsteps:∀ i o,ops[i]?=some o->StepOk P true ro ops.toList o (S i) (S (i+1)):=fun i o ho=>e3 i o (by simpa using ho)
 have T:Text P ro ops S:=⟨hsteps,fun i=>by
  induction i with
  | zero=>exact fun _=>⟨a0,_,μ0,by rw [e1];exact ht,by rw [e1];exact H'⟩
  | succ i ih=>
   intro hi
   have ho:ops[i]?=some ops[i]:=by simp [show i<ops.size by omega]
   exact ((ih (by omega)).step (hsteps i _ ho)).1⟩
 have hlast:S ops.toList.length=S ops.size:=by simp
 rw [hlast] at hlate
 have hA:=T.apart hlate
 have hAL:=T.apartL fun i o ho=>by
  have:=(e3' i o (by simpa using ho)).2
  rw [Nat.sub_self,Nat.zero_add] at this
  exact this
 have key:∀ (fuel:Nat) (l:Array Bool) (a:Act) (w:World) (m:Nat) (μ:LMap),(List.range ops.size).countP (fun i=>!listedB l i)<=fuel->Inv ops S ro a0 { w0 with drawn:=w0.drawn+1 } μ0 l a w m μ->wpAny P .any ops Q fuel l a w:=by
  intro fuel
  have hend:∀ (l:Array Bool) (a:Act) (w:World) (m:Nat) (μ:LMap),Inv ops S ro a0 { w0 with drawn:=w0.drawn+1 } μ0 l a w m μ->(∀ i,i<ops.size->listedB l i=true)->Q .normal a w:=by
   intro l a w m μ I hall
   have hmn:m=ops.size:=by
    rcases Nat.lt_or_eq_of_le I.mle with h | h
    ·have ho:ops[m]?=some ops[m]:=by simp [h]
     have:=(I.next _ ho).2
     rw [hall m h] at this
     cases this
    ·exact h
   subst hmn
   refine hq a w μ ⟨?_,fun s=>?_⟩ I.defers (by rw [hlast];exact I.heap) ?_
   ·rw [hlast,<- I.len]
    have:∀ k,k<=ops.size->(S k).t.length=(S 0).t.length:=by
     intro k
     induction k with
     | zero=>exact fun _=>rfl
     | succ k ih=>
      intro hk
      have ho:ops[k]?=some ops[k]:=by simp [show k<ops.size by omega]
      obtain ⟨v,hv⟩:=(hsteps _ _ ho).slots
      rw [hv,<- ih (by omega)]
      cases ops[k].dst<;>simp [putO]
    exact this _ (Nat.le_refl _)
   ·rw [hlast]
    have:=I.slots s
    rw [q08h T (j:=ops.size) (Nat.le_refl _) (fun i hi _=>hall i hi) (fun i h1 h2=>by omega)] at this
    exact this
   ·rw [hlast]
    have:=I.ext
    rw [e1] at this
    exact ⟨this.le,this.os,this.tape,this.output,this.size,this.len,this.frame,this.rob,this.moved,this.froz⟩
  have hready:∀ (l:Array Bool) (a:Act) (w:World) (m:Nat) (μ:LMap),Inv ops S ro a0 { w0 with drawn:=w0.drawn+1 } μ0 l a w m μ->Region.ready .any ops l=[]->∀ i,i<ops.size->listedB l i=true:=by
   intro l a w m μ I hr i
   induction i using Nat.strongRecOn with
   | _ i ih=>
    intro hi
    cases hq:listedB l i with
    | true=>rfl
    | false=>
     exfalso
     have ho:ops[i]?=some ops[i]:=by simp [hi]
     have:i∈Region.ready .any ops l:=mem_ready.2 ⟨by
      unfold listedB at hq
      have hsz:i<l.size:=by rw [I.size];exact hi
      simpa [Array.getD,hsz] using hq,ops[i],ho,fun e he' hb=>ih e.on (hO.back i _ e ho he' hb) (by have:=hO.back i _ e ho he' hb;omega)⟩
     rw [hr] at this
     simp at this
  induction fuel with
  | zero=>
   intro l a w m μ hc I
   have hall:∀ i,i<ops.size->listedB l i=true:=fun i hi=>by
    have h0:(List.range ops.size).countP (fun i=>!listedB l i)=0:=by omega
    rw [List.countP_eq_zero] at h0
    have:=h0 i (by simpa using hi)
    simpa using this
   refine ⟨?_,hend l a w m μ I hall⟩
   apply List.eq_nil_iff_forall_not_mem.2
   intro i hi
   obtain ⟨h1,o,ho,_⟩:=mem_ready.1 hi
   have hlt:i<ops.size:=(Array.getElem?_eq_some_iff.1 ho).1
   have h2:=hall i hlt
   unfold listedB at h2
   have hsz:i<l.size:=by rw [I.size];exact hlt
   simp [Array.getD,hsz] at h1 h2
   rw [h1] at h2
   cases h2
  | succ fuel ih=>
   intro l a w m μ hc I
   refine ⟨fun hr=>hend l a w m μ I (hready l a w m μ I hr),fun i hi=>?_⟩
   obtain ⟨h1,o,ho,hd⟩:=mem_ready.1 hi
   have hlt:i<ops.size:=(Array.getElem?_eq_some_iff.1 ho).1
   have hsz:i<l.size:=by rw [I.size];exact hlt
   have hl:listedB l i=false:=by
    unfold listedB
    simpa [Array.getD,hsz] using h1
   refine I.step T hA hAL hO ho hl hd fun a' w' m' μ' I'=>ih _ a' w' m' μ' ?_ I'
   have hset:=q08k (l:=l) (j:=i) hsz
   have:=q098 (p:=fun k=>!listedB l k) (p':=fun k=>!listedB (l.setIfInBounds i true) k) (j:=i) (l:=List.range ops.size) (fun x hx=>by
    simp only [hset] at hx
    by_cases hxi:x=i
    ·rw [if_pos hxi] at hx;simp at hx
    ·rw [if_neg hxi] at hx;exact hx) (by simpa using hlt) (by simp [hl]) (by simp [hset])
   omega
 obtain ⟨m,g1,g2,g3,g4⟩:=q08v ops 0 (Nat.zero_le _)
 have hpre:=T.pre (Nat.zero_le m) g2 fun k o h1 h2=>g3 k o h1 h2
 have hL:∀ i,listedB (Array.replicate ops.size false) i=false:=fun i=>by
  unfold listedB
  rw [Array.getD_eq_getD_getElem?,Array.getElem?_replicate]
  split<;>rfl
 obtain ⟨H2,X2⟩:=(show HR ro (S 0).h μ0 _ by rw [e1];exact H').extend hpre (T.reach m g2).inScope.1
 refine key ops.size _ a0 _ m (cutMap (S 0).h.length μ0 fun _=>.absent) ?_ ⟨by simp,fun i o _ hli=>(by rw [hL] at hli;cases hli),g2,fun i o hi ho hw=>?_,fun o ho=>⟨g4 o ho,hL m⟩,fun i o _ _ hli=>(by rw [hL] at hli;cases hli),?_,fun s=>?_,rfl,H2,X2,fun i hi _ b h1 h2=>?_,fun i hi _ b h1 h2=>?_⟩
 ·exact Nat.le_trans (List.countP_le_length) (by simp)
 ·have:=g3 i o (Nat.zero_le _) hi ho
  rw [hw] at this
  cases this
 ·rw [e1];exact ht.1
 ·have hs:slotAt ops S (listedB (Array.replicate ops.size false)) s ops.size=(S 0).t.getD s .undef:=by
   have:∀ k,slotAt ops S (listedB (Array.replicate ops.size false)) s k=(S 0).t.getD s .undef:=by
    intro k
    induction k with
    | zero=>rfl
    | succ k ih=>
     simp only [slotAt]
     rw [if_neg (fun h=>by rw [hL] at h;cases h.1),ih]
   exact this _
  rw [hs]
  refine VR.mono X2.le ?_
  rw [e1]
  exact ht.2 s
 ·rw [q08e]
  exact Nat.le_trans (T.len (Nat.zero_le i) (by omega)) h1
 ·exact q087 (T.pre (show i+1<=m by omega) g2 fun k o' q1 q2 q3=>g3 k o' (by omega) q2 q3) h2
end
end Go.AM
