/- A part of a proof about the given program: an abstract machine, what the given functions come to, and plain laws. -/
import Derived.Test.YtoginabccpjeoaaMachC
import Derived.Laws.BytesString
import Derived.Laws.Cells
import Derived.Test.YtoginabccpjeoaaMachB
set_option linter.unusedVariables false
set_option linter.unusedSimpArgs false
namespace Go.AM
section
variable {α:Type} {P:Program} {r:α} {ro:Nat} {op:Op} {t:List AV} {h:Heap}
def apCells:Ap->List AV
 | .nums k xs=>xs.map (.int k)
 | .cells vs=>vs
 | .recs ks xs=>recVals ks xs
 | .hdrs b ids=>ids.map (idCell b)
 | .strs xs=>xs.map .str
theorem q05e (ks:List (Option IntKind))(xs:List Int):(recVals ks xs).length=xs.length:=by simp [recVals]
theorem q05f {ks:List (Option IntKind)}{xs ys:List Int}(h:xs.length%ks.length=0):recVals ks (xs++ys)=recVals ks xs++recVals ks ys:=by
 refine List.ext_getElem? fun i=>?_
 by_cases h1:i<xs.length
 ·rw [List.getElem?_append_left (by rw [q05e];exact h1),q018 (by simp;omega),q018 h1]
  congr 2
  rw [List.getD_eq_getElem?_getD,List.getD_eq_getElem?_getD,List.getElem?_append_left h1]
 ·rw [List.getElem?_append_right (by rw [q05e];omega),q05e]
  by_cases h2:i<xs.length+ys.length
  ·rw [q018 (by simp;exact h2),q018 (by omega)]
   obtain ⟨j,rfl⟩:=Nat.exists_eq_add_of_le (show xs.length<=i by omega)
   rw [Nat.add_sub_cancel_left,Nat.add_mod,h,Nat.zero_add,Nat.mod_mod,List.getD_eq_getElem?_getD,List.getD_eq_getElem?_getD,List.getElem?_append_right (by omega),Nat.add_sub_cancel_left]
   rfl
  ·rw [List.getElem?_eq_none (by rw [q05e];simp;omega),List.getElem?_eq_none (by rw [q05e];omega)]
theorem q05g:∀ {a b:List (Option IntKind)},sameCols a b=true->a=b
 | [],[],_=>rfl
 | [],_::_,h=>by simp [sameCols] at h
 | _::_,[],h=>by simp [sameCols] at h
 | x::as,y::bs,h=>by
  simp only [sameCols] at h
  cases hc:sameCol x y with
  | false=>simp [hc] at h
  | true=>
   simp only [hc,cond_true] at h
   rw [q05g h]
   congr 1
   unfold sameCol at hc
   split at hc
   ·rw [q00z hc]
   ·rfl
   ·cases hc
theorem q05h {β:Type}(xs:List β)(o n:Nat):fromTo xs o n=(xs.drop o).take n:=by
 cases o with
 | zero=>
  simp only [fromTo,List.drop_zero]
  cases hq:Nat.beq n xs.length with
  | true=>rw [cond_true,Nat.eq_of_beq_eq_true hq,List.take_length]
  | false=>rw [cond_false]
 | succ o=>rfl
theorem q05i {p:Place}{n:Nat}{K:Ap->Option α}(he:readAp h p n K=some r):
  ∃ ap,K ap=some r∧p.n=segLen (getSeg h p.b p.s)∧(apCells ap).length=n∧∀ i,i<n->(apCells ap)[i]?=(segVals (getSeg h p.b p.s))[p.o+i]?:=by
 unfold readAp at he
 split at he
 ·rename_i k m f hs
  obtain ⟨hb,hk⟩:=q008 he
  simp only [Bool.and_eq_true,Nat.ble_eq] at hb
  refine ⟨_,hk,by rw [hs];exact Nat.eq_of_beq_eq_true hb.1,by simp [apCells],fun i hi=>?_⟩
  rw [hs,q00r (by omega)]
  simp [apCells,hi,q012]
 ·rename_i k xs hs
  obtain ⟨hb,hk⟩:=q008 he
  simp only [Bool.and_eq_true,Nat.ble_eq] at hb
  refine ⟨_,hk,by rw [hs];exact Nat.eq_of_beq_eq_true hb.1,by simp [apCells,q05h];omega,fun i hi=>?_⟩
  rw [hs]
  simp [apCells,q05h,segValsOf,hi]
 ·rename_i vs hs
  obtain ⟨hb,hk⟩:=q008 he
  simp only [Bool.and_eq_true,Nat.ble_eq] at hb
  refine ⟨_,hk,by rw [hs];exact Nat.eq_of_beq_eq_true hb.1,by simp [apCells,q05h];omega,fun i hi=>?_⟩
  rw [hs]
  simp [apCells,q05h,segValsOf,hi]
 ·rename_i ks xs hs
  obtain ⟨hb,hk⟩:=q008 he
  simp only [Bool.and_eq_true,Nat.ble_eq] at hb
  obtain ⟨b1,b2,b3⟩:=hb
  have b3:=Nat.eq_of_beq_eq_true b3
  refine ⟨_,hk,by rw [hs];exact Nat.eq_of_beq_eq_true b1,by simp [apCells,q05e,q05h];omega,fun i hi=>?_⟩
  rw [hs]
  show (recVals ks (fromTo xs p.o n))[i]?=(recVals ks xs)[p.o+i]?
  rw [q018 (by rw [q05h];simp;omega),q018 (by omega),Nat.add_mod,b3,Nat.zero_add,Nat.mod_mod]
  congr 2
  rw [q05h,List.getD_eq_getElem?_getD,List.getD_eq_getElem?_getD,List.getElem?_take,if_pos hi,List.getElem?_drop]
 ·rename_i pb ids hs
  obtain ⟨hb,hk⟩:=q008 he
  simp only [Bool.and_eq_true,Nat.ble_eq] at hb
  refine ⟨_,hk,by rw [hs];exact Nat.eq_of_beq_eq_true hb.1,by simp [apCells,q05h];omega,fun i hi=>?_⟩
  rw [hs]
  simp [apCells,q05h,segValsOf,hi]
 ·rename_i xs hs
  obtain ⟨hb,hk⟩:=q008 he
  simp only [Bool.and_eq_true,Nat.ble_eq] at hb
  refine ⟨_,hk,by rw [hs];exact Nat.eq_of_beq_eq_true hb.1,by simp [apCells,q05h];omega,fun i hi=>?_⟩
  rw [hs]
  simp [apCells,q05h,segValsOf,hi]
 ·cases he
theorem HR.readAp {μ:LMap}{w:World}(H:HR ro h μ w){p:Place}{L k base room n:Nat}{ap:Ap}(hL:segLenAt h p.b p.s=some L)(hm:μ p.b=.at k base room)(hlen:(apCells ap).length=n)
  (hget:∀ i,i<n->(apCells ap)[i]?=(segVals (getSeg h p.b p.s))[p.o+i]?):
  ∃ news:List Value,news.length=n∧(∀ j v,news[j]?=some v->w.cell? ((⟨k,base+segOff h p.b p.s+p.o,none⟩:Addr).add j)=some v) ∧
   ∀ i,i<n->∃ u c,(apCells ap)[i]?=some u∧news[i]?=some c∧c.oneCell'=true∧VR h μ u c:=by
 have hx:∀ i,i<n->∃ u c,(apCells ap)[i]?=some u∧w.cell? ⟨k,base+segOff h p.b p.s+p.o+i,none⟩=some c∧c.oneCell'=true∧VR h μ u c:=by
  intro i hi
  have e1:(apCells ap)[i]?=some (apCells ap)[i]:=List.getElem?_eq_getElem (by omega)
  have e2:=hget i hi
  rw [e1] at e2
  obtain ⟨c,q1,_,q3,q4⟩:=H.row hL hm (q00p hL e2.symm)
  exact ⟨_,c,e1,by rw [Nat.add_assoc _ p.o i];exact q1,q3,q4⟩
 let f:Nat->Value:=fun i=>(w.cell? ⟨k,base+segOff h p.b p.s+p.o+i,none⟩).getD Go.undef
 refine ⟨(List.range n).map f,by simp,fun j v hv=>?_,fun i hi=>?_⟩
 ·rw [q00q]
  by_cases hj:j<n
  ·obtain ⟨_,c,_,q,_⟩:=hx j hj
   simp [hj,f,q] at hv
   rw [q,hv]
  ·simp [hj] at hv
 ·obtain ⟨u,c,q1,q2,q3,q4⟩:=hx i hi
  exact ⟨u,c,q1,by simp [hi,f,q2],q3,q4⟩
theorem q05j (w:World)(ty t' e:TypeId)(i:TypeInfo)(ht:P.underlying t'=some (.slice e))(hi:P.info? e=some i)(k o sLen sCap:Nat)(a:Addr)(n c:Nat)(news:List Value)
  (hl:news.length=n*i.size) (hnews:∀ j u,news[j]?=some u->w.cell? (a.add j)=some u) (h1:∀ u∈news,u.oneCell'=true) (hroom:sLen+n<=sCap)
  (hc:∀ j,j<news.length->(w.cell? ⟨k,o+sLen*i.size+j,none⟩).isSome=true) (hf:∀ j,j<news.length->w.frozen? ⟨k,o+sLen*i.size+j,none⟩=false):
  (Builtin.append_ #[t',t'] ty #[.slice (some ⟨k,o,none⟩) sLen sCap,.slice (some a) n c]).run P w=.ok (.slice (some ⟨k,o,none⟩) (sLen+n) sCap) (w.setCells k (o+sLen*i.size) news):=by
 have hfc:=run_firstCells_some (P:=P) w i.size n a n c news hl hnews
 have hst:=run_storeCells_cells (P:=P) k (o+sLen*i.size) news 0 w (by simpa using hc) (by simpa using hf) h1
 simp only [Nat.add_zero] at hst
 simp [Builtin.append_,run_underlying ht,sizeOf,typeInfo,hi,Builtin.lenOf,hroom,hfc,q00q,hst]
theorem q05k (w:World)(ty t' e:TypeId)(i:TypeInfo)(ht:P.underlying t'=some (.slice e))(hi:P.info? e=some i)(base:Option Addr)(sLen sCap:Nat)(hroom:sLen<=sCap)(oa:Option Addr)(c:Nat):
  (Builtin.append_ #[t',t'] ty #[.slice base sLen sCap,.slice oa 0 c]).run P w=.ok (.slice base sLen sCap) w:=by
 have hfc:(Builtin.firstCells i.size 0 (.slice oa 0 c)).run P w=.ok #[] w:=by
  cases oa with
  | none=>simp [Builtin.firstCells]
  | some a=>simp [Builtin.firstCells,loadCells,loadCellsFrom]
 cases base with
 | none=>simp [Builtin.append_,run_underlying ht,sizeOf,typeInfo,hi,Builtin.lenOf,hroom,hfc]
 | some a=>simp [Builtin.append_,run_underlying ht,sizeOf,typeInfo,hi,Builtin.lenOf,hroom,hfc,storeCells]
theorem q05l {e:TypeId}(hz:zeroFits P e=true):∃ i z,P.info? e=some i∧i.zero=some z∧i.size=P.cellsOf e∧z.cells.size=P.cellsOf e∧i.bytes=P.bytesOf e:=by
 unfold zeroFits at hz
 cases hi:P.info? e with
 | none=>simp [hi] at hz
 | some i=>
  cases hzz:i.zero with
  | none=>simp [hi,hzz] at hz
  | some z=>
   simp only [hi,Option.bind_some,hzz] at hz
   exact ⟨i,z,rfl,hzz,by simp [Program.cellsOf,hi],Nat.eq_of_beq_eq_true hz,by simp [Program.bytesOf,hi]⟩
theorem q05m (w:World)(need old:Nat)(e:TypeId):need<=grownCap w need old e:=by
 unfold grownCap
 simp [Question.cut]
theorem q05n {μ:LMap}{l:List AV}{news rest:Array Value}(hlen:l.length=news.size)(hg:∀ i,i<l.length->∃ u c,l[i]?=some u∧news[i]?=some c∧c.oneCell'=true∧VR h μ u c):
  l.length<=(news++rest).size∧∀ (i:Nat) (u:AV),l[i]?=some u->∃ c,(news++rest)[i]?=some c∧c.oneCell'=true∧VR h μ u c:=by
 refine ⟨by simp;omega,fun i u hu=>?_⟩
 have hi:i<l.length:=by
  rcases Nat.lt_or_ge i l.length with h | h
  ·exact h
  ·rw [List.getElem?_eq_none h] at hu;cases hu
 obtain ⟨u',c,e1,e2,e3,e4⟩:=hg i hi
 rw [hu] at e1
 cases e1
 exact ⟨c,by rw [Array.getElem?_append_left (by omega)];exact e2,e3,e4⟩
def apBlk:Ap->Blk
 | .nums k xs=>[.vec k xs]
 | .cells vs=>[.vals vs]
 | .recs ks xs=>[.recs ks xs]
 | .hdrs b ids=>[.hdr b ids]
 | .strs xs=>[.strs xs]
theorem q05o (a:Ap):isPool (apBlk a)=false:=by cases a<;>rfl
theorem q05p (a:Ap):flat (apBlk a)=apCells a:=by cases a<;>simp [apBlk,flat,segValsOf,apCells]
theorem q05q {n sz:Nat}{ap:Ap}{K:AV->Heap->Option α}(he:newAp h n sz ap K=some r):
  K (.slice ⟨topK h.length,0,0,ap.len⟩ n n sz false) (h++[apBlk ap])=some r:=by
 unfold newAp at he
 split at he
 ·exact he
 ·exact (q008 he).2
 ·exact he
 ·exact he
 ·exact he
theorem VR.grownSlice {μ:LMap}{ap:Ap}{k room n sz cap':Nat}(hc:n<=cap')(hr:cap'*sz<=room):
  VR (h++[apBlk ap]) (addMap μ h.length (.at k 0 room)) (.slice ⟨topK h.length,0,0,ap.len⟩ n n sz false) (.slice (some ⟨k,0,none⟩) n cap'):=by
 refine .slice _ _ _ _ _ _ _ ap.len ?_ (Nat.le_refl _) ⟨Nat.le_refl _,fun _ e=>by cases e⟩ fun _=>⟨hc,fun e=>(by cases e),.inl ⟨k,0,room,by simp [addMap],?_,fun _=>?_⟩⟩
 ·simp only [segLenAt,q03e (h:=h) (q05o ap)]
  cases ap<;>simp [apBlk,segLen,Ap.len]
 ·simp [segOff,lenOf]
 ·simpa [segOff,lenOf] using hr
theorem q05r {p:Place}{ap:Ap}{K:Heap->Option α}(he:putAp ro h p ap K=some r):
  ∃ h',K h'=some r∧ro<=p.b.b∧p.n=segLen (getSeg h p.b p.s)∧(has h p.b->∃ old new,FlatPut h h' p (apCells ap) old new):=by
 unfold putAp at he
 obtain ⟨hro,he⟩:=q008 he
 have hro:=Nat.le_of_ble_eq_true hro
 split at he
 ·rename_i k m f k' ys hs _
  obtain ⟨hb,hk⟩:=q008 he
  simp only [Bool.and_eq_true,Nat.ble_eq] at hb
  have hn:=Nat.eq_of_beq_eq_true hb.1.2
  have hkk:=q00z hb.1.1
  subst hkk
  refine ⟨_,hk,hro,by rw [hs];exact hn,fun hx=>q021 (seg':=.ints k m (spliceF f p.o ys.length fun j=>ys.getD j 0)) (us:=ys.map (.int k)) hs (by simp) hx rfl (by simp;exact hb.2) fun i=>?_⟩
  rw [List.length_map]
  by_cases hi:i<m
  ·rw [q00r hi,q00r hi]
   by_cases e:p.o<=i∧i<p.o+ys.length
   ·rw [if_pos e]
    simp only [spliceF]
    rw [show (Nat.ble p.o i&&Nat.blt i (p.o+ys.length))=true from by simp only [Bool.and_eq_true,Nat.ble_eq,Nat.blt_eq];exact e,cond_true,List.getElem?_map,List.getElem?_eq_getElem (by omega:i-p.o<ys.length)]
    simp [List.getD_eq_getElem?_getD,(by omega:i-p.o<ys.length)]
   ·rw [if_neg e]
    simp only [spliceF]
    rw [show (Nat.ble p.o i&&Nat.blt i (p.o+ys.length))=false from by
     rw [<- Bool.not_eq_true];simp only [Bool.and_eq_true,Nat.ble_eq,Nat.blt_eq];exact e]
    rfl
  ·rw [if_neg (by omega),List.getElem?_eq_none (by simp [segValsOf];omega),List.getElem?_eq_none (by simp [segValsOf];omega)]
 ·rename_i k xs k' ys hs _
  obtain ⟨hb,hk⟩:=q008 he
  simp only [Bool.and_eq_true,Nat.ble_eq] at hb
  have hn:=Nat.eq_of_beq_eq_true hb.1.2
  have hkk:=q00z hb.1.1
  subst hkk
  refine ⟨_,hk,hro,by rw [hs];exact hn,fun hx=>q021 (us:=ys.map (.int k)) hs (by simp) hx (by simp [segLen];omega) (by simp;exact hb.2) fun i=>?_⟩
  simp only [segVals,segValsOf,List.map_append,List.map_take,List.map_drop,List.length_map]
  by_cases e1:i<p.o
  ·rw [if_neg (by omega),List.getElem?_append_left (by simp;omega),List.getElem?_take,if_pos e1]
  ·rw [List.getElem?_append_right (by simp;omega)]
   simp only [List.length_take,List.length_map,Nat.min_eq_left (by omega:p.o<=xs.length)]
   by_cases e2:i<p.o+ys.length
   ·rw [if_pos (by omega),List.getElem?_append_left (by simp;omega)]
   ·rw [if_neg (by omega),List.getElem?_append_right (by simp;omega),List.getElem?_drop,List.length_map]
    congr 1
    omega
 ·rename_i us vs hs _
  obtain ⟨hb,hk⟩:=q008 he
  simp only [Bool.and_eq_true,Nat.ble_eq] at hb
  have hn:=Nat.eq_of_beq_eq_true hb.1.2
  refine ⟨_,hk,hro,by rw [hs];exact hn,fun hx=>q021 (us:=vs) hs (by simp) hx (by simp [segLen];omega) (by exact hb.2) fun i=>?_⟩
  simp only [segVals,segValsOf]
  by_cases e1:i<p.o
  ·rw [if_neg (by omega),List.getElem?_append_left (by simp;omega),List.getElem?_take,if_pos e1]
  ·rw [List.getElem?_append_right (by simp;omega)]
   simp only [List.length_take,Nat.min_eq_left (by omega:p.o<=us.length)]
   by_cases e2:i<p.o+vs.length
   ·rw [if_pos (by omega),List.getElem?_append_left (by omega)]
   ·rw [if_neg (by omega),List.getElem?_append_right (by omega),List.getElem?_drop]
    congr 1
    omega
 ·rename_i ks xs ks' ys hs _
  obtain ⟨hb,hk⟩:=q008 he
  simp only [Bool.and_eq_true,Nat.ble_eq] at hb
  obtain ⟨⟨b1,b2⟩,b3,b4⟩:=hb
  have:=q05g b1
  subst this
  refine ⟨_,hk,hro,by rw [hs];exact Nat.eq_of_beq_eq_true b2,fun hx=>q021 (us:=recVals ks ys) hs (by simp) hx (by simp [segLen];omega) (by rw [q05e];exact b4) fun i=>?_⟩
  exact q02d (Nat.eq_of_beq_eq_true b3) b4 (q05e ks ys) (fun i hi=>q018 hi) i
 ·rename_i pb xs pb' ys hs _
  obtain ⟨hb,hk⟩:=q008 he
  simp only [Bool.and_eq_true,Nat.ble_eq] at hb
  have hn:=Nat.eq_of_beq_eq_true hb.1.2
  have hkk:=Nat.eq_of_beq_eq_true hb.1.1
  subst hkk
  refine ⟨_,hk,hro,by rw [hs];exact hn,fun hx=>q021 (us:=ys.map (idCell pb)) hs (by simp) hx (by simp [segLen];omega) (by simp;exact hb.2) fun i=>?_⟩
  simp only [segVals,segValsOf,List.map_append,List.map_take,List.map_drop,List.length_map]
  by_cases e1:i<p.o
  ·rw [if_neg (by omega),List.getElem?_append_left (by simp;omega),List.getElem?_take,if_pos e1]
  ·rw [List.getElem?_append_right (by simp;omega)]
   simp only [List.length_take,List.length_map,Nat.min_eq_left (by omega:p.o<=xs.length)]
   by_cases e2:i<p.o+ys.length
   ·rw [if_pos (by omega),List.getElem?_append_left (by simp;omega)]
   ·rw [if_neg (by omega),List.getElem?_append_right (by simp;omega),List.getElem?_drop,List.length_map]
    congr 1
    omega
 ·rename_i xs ys hs _
  obtain ⟨hb,hk⟩:=q008 he
  simp only [Bool.and_eq_true,Nat.ble_eq] at hb
  have hn:=Nat.eq_of_beq_eq_true hb.1
  refine ⟨_,hk,hro,by rw [hs];exact hn,fun hx=>q021 (us:=ys.map .str) hs (by simp) hx (by simp [segLen];omega) (by simp;exact hb.2) fun i=>?_⟩
  simp only [segVals,segValsOf,List.map_append,List.map_take,List.map_drop,List.length_map]
  by_cases e1:i<p.o
  ·rw [if_neg (by omega),List.getElem?_append_left (by simp;omega),List.getElem?_take,if_pos e1]
  ·rw [List.getElem?_append_right (by simp;omega)]
   simp only [List.length_take,List.length_map,Nat.min_eq_left (by omega:p.o<=xs.length)]
   by_cases e2:i<p.o+ys.length
   ·rw [if_pos (by omega),List.getElem?_append_left (by simp;omega)]
   ·rw [if_neg (by omega),List.getElem?_append_right (by simp;omega),List.getElem?_drop,List.length_map]
    congr 1
    omega
 ·cases he
def keyMap (μ:LMap)(κ:Key)(l:Loc):LMap:=fun b=>if b=κ then l else μ b
theorem Le.grow {μ μ':LMap}{b:Key}{seg seg':AV}(hb:blk? h b=some [seg])(hf:fitB b [seg] [seg'])(hl:segLen seg<segLen seg')(hm:∀ x,x≠b->μ' x=μ x):Le h μ (setB h b [seg']) μ':=by
 refine ⟨fun x s L hL=>?_⟩
 by_cases e:x=b
 ·subst e
  cases s with
  | zero=>
   simp [segLenAt,hb] at hL
   subst hL
   exact ⟨segLen seg',by simp [segLenAt,q01i hb hf],Nat.le_of_lt hl,fun e=>by omega⟩
  | succ s=>simp [segLenAt,hb] at hL
 ·refine ⟨L,?_,Nat.le_refl _,fun _=>⟨?_,fun _=>hm x e⟩⟩
  ·unfold segLenAt at hL ⊢
   rw [q01i hb hf,if_neg e]
   exact hL
  ·unfold segOff
   rw [q01j hb hf _ fun _=>q03h hL,if_neg e]
theorem HR.growIn {μ:LMap}{w:World}(H:HR ro h μ w){b:Key}{k base room:Nat}{seg seg':AV}{us:List AV}{cs:List Value}(hro:ro<=b.b)(hb:blk? h b=some [seg])(hf:fitB b [seg] [seg'])(hm:μ b=.at k base room)
  (hseg:segValsOf seg'=segValsOf seg++us) (hne:0<us.length) (hroom:segLen seg+us.length<=room) (hlen:us.length=cs.length)
  (hus:∀ i,i<us.length->∃ u c,us[i]?=some u∧cs[i]?=some c∧c.oneCell'=true∧VR h μ u c):
  HR ro (setB h b [seg']) μ (w.setCells k (base+segLen seg) cs)∧Ext ro h μ w (setB h b [seg']) μ (w.setCells k (base+segLen seg) cs):=by
 have hset:=q01i hb hf
 have hl':segLen seg'=segLen seg+us.length:=by rw [<- q001,<- q001,show segVals seg'=_ from hseg,List.length_append]
 have hle:Le h μ (setB h b [seg']) μ:=Le.grow hb hf (by omega) fun _ _=>rfl
 obtain ⟨hk,hr,hx,hc⟩:=H.at_ b [seg] k base room hb hm
 obtain ⟨r1,r2,r3⟩:=q01q k cs (base+segLen seg) w
 have hsome:∀ j,j<cs.length->(w.cell? ⟨k,base+segLen seg+j,none⟩).isSome=true:=by
  intro j hj
  obtain ⟨⟨c,e⟩,_⟩:=hx (segLen seg+j) (by omega)
  rw [Nat.add_assoc,e]
  rfl
 constructor
 ·refine ⟨fun x sx hx1 hx2=>?_,fun x sx kx bx rx hx1 hx2=>?_,fun x x' kx bx rx bx' rx' h1 h2 h3 h4 h5=>?_,fun x sx hx1 i v hvi=>?_,by rw [q01g];exact H.rol⟩
  ·rw [hset] at hx1
   by_cases e:x=b
   ·subst e;rw [hm] at hx2;cases hx2
   ·rw [if_neg e] at hx1;exact H.nil_ x sx hx1 hx2
  ·rw [hset] at hx1
   by_cases e:x=b
   ·subst e
    rw [if_pos rfl] at hx1
    cases hx1
    rw [hm] at hx2
    cases hx2
    refine ⟨by rw [q01p];exact hk,by rw [q026,q001];omega,fun i hi=>?_,fun i v hv=>?_⟩
    ·refine ⟨?_,by rw [World.frozen?_setCells];exact (hx i hi).2⟩
     by_cases hio:segLen seg<=i∧i<segLen seg+cs.length
     ·obtain ⟨j,rfl⟩:=Nat.exists_eq_add_of_le hio.1
      have:=World.cell?_setCells_in k cs (base+segLen seg) w hsome j (by omega)
      exact ⟨_,by rw [<- Nat.add_assoc];exact this⟩
     ·rw [World.cell?_setCells_out k cs (base+segLen seg) w _ (fun _ _=>by simp;omega)]
      exact (hx i hi).1
    ·rw [q026,show segVals seg'=_ from hseg] at hv
     by_cases hio:i<segLen seg
     ·rw [List.getElem?_append_left (by rw [show (segValsOf seg).length=segLen seg from q001 seg];exact hio)] at hv
      obtain ⟨c,h1,h2,h3⟩:=hc i v (by rw [q026];exact hv)
      refine ⟨c,?_,h2,h3.mono hle⟩
      rw [World.cell?_setCells_out k cs (base+segLen seg) w _ (fun _ _=>by simp;omega)]
      exact h1
     ·rw [List.getElem?_append_right (by rw [show (segValsOf seg).length=segLen seg from q001 seg];omega),show (segValsOf seg).length=segLen seg from q001 seg] at hv
      have hi2:i-segLen seg<us.length:=by
       rcases Nat.lt_or_ge (i-segLen seg) us.length with h | h
       ·exact h
       ·rw [List.getElem?_eq_none h] at hv;cases hv
      obtain ⟨u,c,h1,h2,h3,h4⟩:=hus _ hi2
      rw [hv] at h1
      cases h1
      have h5:=World.cell?_setCells_in k cs (base+segLen seg) w hsome (i-segLen seg) (by omega)
      have h6:cs[i-segLen seg]'(by omega)=c:=(List.getElem?_eq_some_iff.1 h2).2
      refine ⟨c,?_,h3,h4.mono hle⟩
      rw [show base+i=base+segLen seg+(i-segLen seg) by omega,h5,h6]
   ·rw [if_neg e] at hx1
    obtain ⟨q1,q2,q3,q4⟩:=H.at_ x sx kx bx rx hx1 hx2
    have hne:kx≠k:=fun e2=>by
     subst e2
     exact H.inj _ x kx base room bx rx hro ⟨_,hb⟩ ⟨_,hx1⟩ (Ne.symm e) hm hx2
    have hh:=q01o k cs (base+segLen seg) w kx hne
    refine ⟨by rw [q01p];exact q1,q2,fun i hi=>?_,fun i v hv=>?_⟩
    ·rw [q01r (a:=⟨kx,bx+i,none⟩) hh,q01s (a:=⟨kx,bx+i,none⟩) hh]
     exact q3 i hi
    ·obtain ⟨c,h1,h2,h3⟩:=q4 i v hv
     exact ⟨c,by rw [q01r (a:=⟨kx,bx+i,none⟩) hh];exact h1,h2,h3.mono hle⟩
  ·rw [q01k hb hf] at h2 h3
   exact H.inj x x' kx bx rx bx' rx' h1 h2 h3 h4 h5
  ·rw [hset] at hx1
   by_cases e:x=b
   ·subst e
    rw [if_pos rfl] at hx1
    cases hx1
    rw [q026,show segVals seg'=_ from hseg] at hvi
    by_cases hio:i<(segValsOf seg).length
    ·rw [List.getElem?_append_left hio] at hvi
     exact hle.inScope (H.scope _ _ hb i v (by rw [q026];exact hvi))
    ·rw [List.getElem?_append_right (by omega)] at hvi
     have hi2:i-(segValsOf seg).length<us.length:=by
      rcases Nat.lt_or_ge (i-(segValsOf seg).length) us.length with h | h
      ·exact h
      ·rw [List.getElem?_eq_none h] at hvi;cases hvi
     obtain ⟨u,c,h1,_,_,h4⟩:=hus _ hi2
     rw [hvi] at h1
     cases h1
     exact hle.inScope h4.inScope
   ·rw [if_neg e] at hx1
    exact hle.inScope (H.scope x sx hx1 i v hvi)
 ·refine ⟨hle,r1,r2,r3,by rw [q01p];exact Nat.le_refl _,by rw [q01g];exact Nat.le_refl _,fun x hx1 hx2=>?_,fun x hx1 hx2=>⟨?_,fun _=>rfl⟩,fun x kx bx rx hx1 hx2=>?_,fun a=>World.frozen?_setCells ..⟩
  ·exact q01o k cs (base+segLen seg) w x fun e=>hx2 b base room hro ⟨_,hb⟩ (by rw [e];exact hm)
  ·exact q01h (by omega)
  ·rw [q01k hb hf] at hx1
   exact .inl ⟨x,bx,rx,hx1,hx2,.inr rfl⟩
theorem HR.growMove {μ:LMap}{w w':World}(H:HR ro h μ w){b:Key}{seg seg':AV}{cs:Array Value}{T:TypeId}(hro:ro<=b.b)(hb:blk? h b=some [seg])(hf:fitB b [seg] [seg'])(hm:μ b≠.absent)(hl:segLen seg<segLen seg')
  (hheap:w'.heap=w.heap.push (.cells cs T)) (hos:w'.os=w.os) (htape:w'.tape=w.tape) (hout:w'.output=w.output)
  (hlen:(segValsOf seg').length<=cs.size) (hv:∀ (i:Nat) (u:AV),(segValsOf seg')[i]?=some u->∃ c,cs[i]?=some c∧c.oneCell'=true∧VR h μ u c):
  HR ro (setB h b [seg']) (keyMap μ b (.at w.heap.size 0 cs.size)) w'∧Ext ro h μ w (setB h b [seg']) (keyMap μ b (.at w.heap.size 0 cs.size)) w':=by
 have hset:=q01i hb hf
 have hmap:∀ x,x≠b->keyMap μ b (.at w.heap.size 0 cs.size) x=μ x:=fun x hx=>by unfold keyMap;rw [if_neg hx]
 have hmap2:keyMap μ b (.at w.heap.size 0 cs.size) b=.at w.heap.size 0 cs.size:=by unfold keyMap;rw [if_pos rfl]
 have hle:Le h μ (setB h b [seg']) (keyMap μ b (.at w.heap.size 0 cs.size)):=Le.grow hb hf hl hmap
 have hold:∀ k,k<w.heap.size->w'.heap[k]?=w.heap[k]?:=fun k hk=>by
  rw [hheap,Array.getElem?_push,if_neg (by omega)]
 have hnew:w'.heap[w.heap.size]?=some (.cells cs T):=by rw [hheap];simp
 constructor
 ·refine ⟨fun x sx hx1 hx2=>?_,fun x sx k base room hx1 hx2=>?_,fun x x' k base room base' room' h1 h2 h3 h4 h5=>?_,fun x sx hx1 i v hvi=>?_,by rw [q01g];exact H.rol⟩
  ·rw [hset] at hx1
   by_cases e:x=b
   ·subst e;rw [hmap2] at hx2;cases hx2
   ·rw [if_neg e] at hx1
    rw [hmap x e] at hx2
    exact H.nil_ x sx hx1 hx2
  ·rw [hset] at hx1
   by_cases e:x=b
   ·subst e
    rw [if_pos rfl] at hx1
    cases hx1
    rw [hmap2] at hx2
    cases hx2
    refine ⟨by rw [hheap];simp,by rw [q026];exact hlen,fun i hi=>⟨⟨cs[i],?_⟩,?_⟩,fun i v hvi=>?_⟩
    ·simp [World.cell?,hnew,hi]
    ·simp [World.frozen?,hnew]
    ·obtain ⟨c,e1,e2,e3⟩:=hv i v (by rw [q026] at hvi;exact hvi)
     exact ⟨c,by simpa [World.cell?,hnew] using e1,e2,e3.mono hle⟩
   ·rw [if_neg e] at hx1
    rw [hmap x e] at hx2
    obtain ⟨q1,q2,q3,q4⟩:=H.at_ x sx k base room hx1 hx2
    have hh:=hold k q1
    refine ⟨by rw [hheap];simp;omega,q2,fun i hi=>?_,fun i v hv=>?_⟩
    ·rw [q01r (a:=⟨k,base+i,none⟩) hh,q01s (a:=⟨k,base+i,none⟩) hh];exact q3 i hi
    ·obtain ⟨c,e1,e2,e3⟩:=q4 i v hv
     exact ⟨c,by rw [q01r (a:=⟨k,base+i,none⟩) hh];exact e1,e2,e3.mono hle⟩
  ·rw [q01k hb hf] at h2 h3
   by_cases hxb:x=b
   ·subst hxb
    rw [hmap2] at h5
    cases h5
    rw [hmap x' (Ne.symm h4)]
    intro e
    obtain ⟨sb,h3⟩:=h3
    have:=(H.at_ x' sb _ _ _ h3 e).1
    omega
   ·rw [hmap x hxb] at h5
    by_cases hxb':x'=b
    ·subst hxb'
     rw [hmap2]
     intro e
     cases e
     obtain ⟨sb,h2⟩:=h2
     have:=(H.at_ x sb _ _ _ h2 h5).1
     omega
    ·rw [hmap x' hxb']
     exact H.inj x x' k base room base' room' h1 h2 h3 h4 h5
  ·rw [hset] at hx1
   by_cases e:x=b
   ·subst e
    rw [if_pos rfl] at hx1
    cases hx1
    rw [q026] at hvi
    obtain ⟨c,_,_,h3⟩:=hv i v hvi
    exact hle.inScope h3.inScope
   ·rw [if_neg e] at hx1
    exact hle.inScope (H.scope x sx hx1 i v hvi)
 ·refine ⟨hle,hos,htape,hout,by rw [hheap];simp,by rw [q01g];exact Nat.le_refl _,fun k hk _=>hold k hk,fun x h1 h2=>⟨q01h (by omega),fun r=>hmap ⟨x,r⟩ (by rintro rfl;exact absurd h1 (by simp only at hro;omega))⟩,fun x k base room h1 h2=>?_,q03l hheap⟩
  ·rw [q01k hb hf] at h1
   by_cases hxb:x=b
   ·subst hxb
    rw [hmap2] at h2
    cases h2
    exact .inr (Nat.le_refl _)
   ·rw [hmap x hxb] at h2
    exact .inl ⟨x,base,room,h1,h2,.inr rfl⟩
theorem q05s {n cap' b:Nat}(h1:cap'<n)(h2:n*b<=1099511627776):Builtin.nextslicecap n cap'*b<=281474976710656:=growslice_fits h1 (by omega)
theorem q05t {z:Value}{sz n:Nat}(hz:z.cells.size=sz):(Builtin.zeroCells z.cells n).size=n*sz:=by rw [size_zeroCells,hz]
theorem q05u {old ap a:Ap}(hj:Ap.join old ap=some a):apCells a=apCells old++apCells ap:=by
 unfold Ap.join at hj
 split at hj
 ·rename_i k xs k' ys
  cases hk:keq k k' with
  | false=>simp [hk] at hj
  | true=>
   simp only [hk,cond_true,Option.some.injEq] at hj
   subst hj
   rw [q00z hk]
   simp [apCells]
 ·cases hj;rfl
 ·cases hj;simp [apCells]
 ·cases hj;simp [apCells]
 ·rename_i ks xs ks' ys
  cases hk:(sameCols ks ks'&&Nat.beq (xs.length%ks.length) 0) with
  | false=>simp [hk] at hj
  | true=>
   simp only [hk,cond_true,Option.some.injEq] at hj
   simp only [Bool.and_eq_true] at hk
   subst hj
   rw [<- q05g hk.1]
   exact q05f (Nat.eq_of_beq_eq_true hk.2)
 ·cases hj;simp [apCells]
 ·rename_i b xs b' ys _
  cases hk:Nat.beq b b' with
  | false=>simp [hk] at hj
  | true=>
   simp only [hk,cond_true,Option.some.injEq] at hj
   subst hj
   rw [Nat.eq_of_beq_eq_true hk]
   simp [apCells]
 ·cases hj;simp [apCells]
 ·cases hj
structure SrcOk (h:Heap) (μ:LMap) (w:World) (ap:Ap) (n:Nat) (i:TypeInfo) (cx:Value):Prop where
 some_:∃ oa capx',cx=.slice oa n capx'
 full:n≠0->∃ (ad:Addr) (capx':Nat) (news:List Value),cx=.slice (some ad) n capx'∧news.length=n*i.size ∧
    (∀ (j:Nat) (v:Value),news[j]?=some v->w.cell? (ad.add j)=some v)∧(∀ u:Value,u∈news->u.oneCell'=true)∧(apCells ap).length=news.length ∧
    ∀ j,j<(apCells ap).length->∃ u c,(apCells ap)[j]?=some u∧news[j]?=some c∧c.oneCell'=true∧VR h μ u c
def AppSem (P:Program)(ro:Nat)(ty e:TypeId)(i:TypeInfo)(s x:Operand)(t:List AV)(h:Heap)(ap:Ap)(n:Nat)(v:AV)(h':Heap):Prop:=
 ∀ (o:Oper) (a:Act) (w:World) (μ:LMap),o.op=.call ⟨.builtin .append,#[s,x],#[ty,ty]⟩->VR h μ (evalO t s) (a.eval s)->HR ro h μ w->SrcOk h μ w ap n i (a.eval x) ->
  ∃ c w' μ',(execOp a.eval o).run P w=.ok (.value c) w'∧VR h' μ' v c∧HR ro h' μ' w'∧Ext ro h μ w h' μ' w'
theorem AppSem.of_pure {ty e:TypeId}{i:TypeInfo}{s x:Operand}{ap:Ap}{n:Nat}{v:AV}(hr:∀ (o:Oper) (a:Act) (w:World) (μ:LMap),o.op=.call ⟨.builtin .append,#[s,x],#[ty,ty]⟩->VR h μ (evalO t s) (a.eval s)->HR ro h μ w->SrcOk h μ w ap n i (a.eval x) ->
  ∃ c,(execOp a.eval o).run P w=.ok (.value c) w∧VR h μ v c):AppSem P ro ty e i s x t h ap n v h:=fun o a w μ ho v1 H hs=>by
 obtain ⟨c,e1,e2⟩:=hr o a w μ ho v1 H hs
 exact ⟨c,w,μ,e1,e2,H,.refl _ _ _ _⟩
theorem q05v {ty e:TypeId}{s x:Operand}{K:AV->Heap->Option α}{ap:Ap}{n:Nat}{i:TypeInfo}{z:Value}(hu:P.underlying ty=some (.slice e))(hz:0<elemSize P e)(hi:P.info? e=some i)(hzz:i.zero=some z)
  (hisz:i.size=P.cellsOf e) (hzs:z.cells.size=P.cellsOf e) (hby:i.bytes=P.bytesOf e) (hapl:(apCells ap).length=n*elemSize P e)
  (he:appendTo P ro e n (evalO t s) ap h K=some r):
  ∃ v h',K v h'=some r∧AppSem P ro ty e i s x t h ap n v h':=by
 unfold appendTo at he
 have hz:0<P.cellsOf e∧0<P.cellsOf e:=⟨hz,hz⟩
 have hsz:elemSize P e=i.size:=by rw [hisz];rfl
 have run:∀ {o:Oper} {a:Act} {w w':World} {cs cx v:Value},o.op=.call ⟨.builtin .append,#[s,x],#[ty,ty]⟩->a.eval s=cs->a.eval x=cx ->
   (Builtin.append_ #[ty,ty] o.type #[cs,cx]).run P w=.ok v w'->(execOp a.eval o).run P w=.ok (.value v) w':=by
  intro o a w w' cs cx v ho h1 h2 h3
  simp [execOp,ho,resolve,invoke,builtin,h1,h2,h3]
 split at he
 case h_3=>cases he
 ·-- onto nil
  rename_i hs
  rcases q007 he with ⟨hb,hk⟩ | ⟨hb,hk⟩
  ·have hn0:=Nat.eq_of_beq_eq_true hb
   subst hn0
   refine ⟨_,_,hk,.of_pure fun o a w μ ho v1 H ⟨hsrc0,src⟩=>?_⟩
   rw [hs] at v1
   generalize hq1:a.eval s=q1 at *
   cases v1
   obtain ⟨oa,capx',hc⟩:=hsrc0
   exact ⟨_,run ho hq1 hc (q05k w _ ty e i hu hi none 0 0 (Nat.le_refl _) oa capx'),.nils⟩
  ·obtain ⟨hb2,hk⟩:=q008 hk
   simp only [Bool.and_eq_true,Nat.ble_eq] at hb2
   have hn0:n≠0:=fun e=>by rw [e] at hb;simp at hb
   have hk:=q05q hk
   refine ⟨_,_,hk,fun o a w μ ho v1 H ⟨hsrc0,src⟩=>?_⟩
   rw [hs] at v1
   generalize hq1:a.eval s=q1 at *
   cases v1
   obtain ⟨ad,capx',news,hc,s1,s2,s3,s4,s5⟩:=src hn0
   have hr:=run_append_nil w ty o.type e i z hu hi hzz ad n capx' news s1 s2 (by omega) (by omega) (by rw [hby];omega)
   have hsize:(news.toArray++Builtin.zeroCells z.cells (grownCap w n 0 e-n)).size=grownCap w n 0 e*elemSize P e:=by
    have hle:=q05m w n 0 e
    rw [Array.size_append,q05t hzs,List.size_toArray,s1,hsz,hisz,<- Nat.add_mul]
    congr 1
    omega
   obtain ⟨f1,f2⟩:=q05n (h:=h) (μ:=μ) (l:=apCells ap) (news:=news.toArray) (rest:=Builtin.zeroCells z.cells (grownCap w n 0 e-n)) (by simpa using s4) (fun j hj=>by simpa using s5 j hj)
   obtain ⟨r1,r2⟩:=H.alloc (q05o _) (w':=w.drew.alloc (.cells (news.toArray++Builtin.zeroCells z.cells (grownCap w n 0 e-n)) e)) (ss:=apBlk ap) rfl rfl rfl rfl (by rw [q05p];exact f1) (by rw [q05p];exact f2)
   exact ⟨_,_,_,run ho hq1 hc hr,VR.grownSlice (q05m w n 0 e) (by rw [hsize];exact Nat.le_refl _),r1,r2⟩
 ·rename_i p len cap es ex hs
  obtain ⟨hb,he⟩:=q008 he
  simp only [Bool.and_eq_true] at hb
  have hpn:=Nat.eq_of_beq_eq_true hb.1
  have hess:=Nat.eq_of_beq_eq_true hb.2
  have dst:∀ {a:Act} {μ:LMap},VR h μ (.slice p len cap es ex) (a.eval s)->∃ oa cap' L,a.eval s=.slice oa len cap'∧segLenAt h p.b p.s=some L∧p.n=L∧len<=cap∧cap<=cap'∧(ex=true->cap'=cap) ∧
    ((∃ k base room,μ p.b=.at k base room∧oa=some ⟨k,base+segOff h p.b p.s+p.o,none⟩∧(ex=false->segOff h p.b p.s+p.o+cap'*es<=room))∨(μ p.b=.none∧oa=none∧cap'=0)):=by
   intro a μ hv
   obtain ⟨oa,cap',L,hc,g1,g2,g3,g4⟩:=hv.slice_inv
   obtain ⟨_,_,_,hL⟩:=q00m g1
   obtain ⟨q1,q2,q3⟩:=g4 (by omega)
   exact ⟨oa,cap',L,hc,g1,by omega,g3,q1,q2,q3⟩
  rcases q007 he with ⟨hb,hk⟩ | ⟨hb,hk⟩
  ·have hn0:=Nat.eq_of_beq_eq_true hb
   subst hn0
   refine ⟨_,_,hk,.of_pure fun o a w μ ho v1 H ⟨hsrc0,src⟩=>?_⟩
   rw [hs] at v1
   obtain ⟨oa,cap',L,hc1,g1,g2,g3,g4,_,_⟩:=dst v1
   obtain ⟨oa2,capx',hc⟩:=hsrc0
   exact ⟨_,run ho hc1 hc (q05k w _ ty e i hu hi oa len cap' (by omega) oa2 capx'),hc1▸v1⟩
  ·have hn0:n≠0:=fun e=>by rw [e] at hb;simp at hb
   obtain ⟨hb2,hk⟩:=q008 hk
   simp only [Bool.and_eq_true,Nat.ble_eq] at hb2
   rcases q007 hk with ⟨hb3,hk⟩ | ⟨hb3,hk⟩
   ·-- there is room
    have hroom:=Nat.le_of_ble_eq_true hb3
    obtain ⟨h',hk,hro,hpn',hputs⟩:=q05r hk
    refine ⟨_,_,hk,fun o a w μ ho v1 H ⟨hsrc0,src⟩=>?_⟩
    rw [hs] at v1
    obtain ⟨oa,cap',L,hc1,g1,g2,g3,g4,g5,g6⟩:=dst v1
    obtain ⟨old,new,hput⟩:=hputs (q03h g1)
    obtain ⟨ad,capx',news,hc,s1,s2,s3,s4,s5⟩:=src hn0
    rcases g6 with ⟨k,base,room,m1,rfl,m3⟩ | ⟨_,_,m3⟩
    ·have hfit:=hput.fit
     have hlens:=hput.lens
     have hat:=hput.at_
     have hget:=hput.get
     simp only [q011] at hfit hat hget
     have heq:=hput.eq
     simp only at heq
     obtain ⟨_,hr,hxx,_⟩:=H.at_ p.b old k base room hat m1
     have hoff:segOff h p.b p.s=lenOf (old.take p.s):=q00n hat
     obtain ⟨r1,r2⟩:=H.write hat hput.fits hro m1 hlens s4 hfit (fun j hj=>s5 j hj) hget
     have hpos:base+(lenOf (old.take p.s)+(p.o+len*elemSize P e))=base+segOff h p.b p.s+p.o+len*i.size:=by rw [hoff,hsz];omega
     rw [hpos] at r1 r2
     refine ⟨_,_,μ,run ho hc1 hc (q05j w o.type ty e i hu hi k (base+segOff h p.b p.s+p.o) len cap' ad n capx' news s1 s2 s3 (by omega) (fun j hj=>?_) (fun j hj=>?_)),?_,heq▸r1,heq▸r2⟩
     ·obtain ⟨⟨d,hd⟩,_⟩:=hxx (lenOf (old.take p.s)+(p.o+len*elemSize P e)+j) (by omega)
      rw [<- hpos,Nat.add_assoc,hd]
      rfl
     ·obtain ⟨_,hd⟩:=hxx (lenOf (old.take p.s)+(p.o+len*elemSize P e)+j) (by omega)
      rw [<- hpos,Nat.add_assoc,hd]
     ·exact VR.mono (heq▸r2.le) (.slice _ _ _ _ _ _ _ L g1 (by omega) ⟨by omega,fun _ e=>by cases e⟩ fun _=>⟨g4,g5,.inl ⟨k,base,room,m1,rfl,m3⟩⟩)
    ·omega
   ·have hnroom:¬ len+n<=cap:=fun h'=>by rw [<- Nat.ble_eq] at h';rw [h'] at hb3;cases hb3
    rcases q007 hk with ⟨hex,hk⟩ | ⟨hex,hk⟩
    ·-- the capacity is known: it grows into a new block
     obtain ⟨old,hk,_,hol,hog⟩:=q05i hk
     rw [q011] at hol hog
     split at hk
     case h_2=>cases hk
     rename_i aa hj
     have hk:=q05q hk
     refine ⟨_,_,hk,fun o a w μ ho v1 H ⟨hsrc0,src⟩=>?_⟩
     rw [hs] at v1
     obtain ⟨oa,cap',L,hc1,g1,g2,g3,g4,g5,g6⟩:=dst v1
     obtain ⟨ad,capx',news,hc,s1,s2,s3,s4,s5⟩:=src hn0
     have hcc:=g5 hex
     subst hcc
     have hjc:=q05u hj
     have hle:=q05m w (len+n) cap' e
     rcases g6 with ⟨k,base,room,m1,rfl,m3⟩ | ⟨_,rfl,m3⟩
     ·obtain ⟨olds,e1,e2,e3⟩:=H.readAp g1 m1 hol hog
      have hr:=run_append_grow w ty o.type e i z hu hi hzz ⟨k,base+segOff h p.b p.s+p.o,none⟩ len cap' olds (by rw [e1,hsz]) e2 ad n capx' news s1 s2 (by omega) (by omega) (q05s (by omega) (by rw [hby];omega))
      have hsize:(olds.toArray++news.toArray++Builtin.zeroCells z.cells (grownCap w (len+n) cap' e-(len+n))).size=grownCap w (len+n) cap' e*elemSize P e:=by
       rw [Array.size_append,Array.size_append,q05t hzs,List.size_toArray,List.size_toArray,s1,e1,hsz,hisz,<- Nat.add_mul,<- Nat.add_mul]
       congr 1
       omega
      obtain ⟨f1,f2⟩:=q05n (h:=h) (μ:=μ) (l:=apCells aa) (news:=olds.toArray++news.toArray) (rest:=Builtin.zeroCells z.cells (grownCap w (len+n) cap' e-(len+n))) (by rw [hjc];simp;omega) (fun j hj=>by
       rw [hjc] at hj ⊢
       rw [List.length_append] at hj
       by_cases hjo:j<(apCells old).length
       ·rw [List.getElem?_append_left hjo,Array.getElem?_append_left (by simp;omega)]
        simpa using e3 j (by omega)
       ·rw [List.getElem?_append_right (by omega),Array.getElem?_append_right (by simp;omega)]
        have:=s5 (j-(apCells old).length) (by omega)
        rw [hol] at this ⊢
        simpa [e1] using this)
      obtain ⟨r1,r2⟩:=H.alloc (q05o _) (w':=w.drew.alloc (.cells (olds.toArray++news.toArray++Builtin.zeroCells z.cells (grownCap w (len+n) cap' e-(len+n))) e)) (ss:=apBlk aa) rfl rfl rfl rfl (by rw [q05p];exact f1) (by rw [q05p];exact f2)
      exact ⟨_,_,_,run ho hc1 hc hr,VR.grownSlice hle (by rw [hsize];exact Nat.le_refl _),r1,r2⟩
     ·subst m3
      have hl0:len=0:=by omega
      subst hl0
      rw [Nat.zero_add] at hb2
      have hold:apCells old=[]:=List.length_eq_zero_iff.1 (by omega)
      rw [hold,List.nil_append] at hjc
      rw [Nat.zero_add] at hle
      have hr:=run_append_nil w ty o.type e i z hu hi hzz ad n capx' news s1 s2 (by omega) (by omega) (by rw [hby];omega)
      have hsize:(news.toArray++Builtin.zeroCells z.cells (grownCap w n 0 e-n)).size=grownCap w n 0 e*elemSize P e:=by
       rw [Array.size_append,q05t hzs,List.size_toArray,s1,hsz,hisz,<- Nat.add_mul]
       congr 1
       omega
      obtain ⟨f1,f2⟩:=q05n (h:=h) (μ:=μ) (l:=apCells aa) (news:=news.toArray) (rest:=Builtin.zeroCells z.cells (grownCap w n 0 e-n)) (by rw [hjc];simpa using s4) (fun j hj=>by rw [hjc] at hj ⊢;simpa using s5 j hj)
      obtain ⟨r1,r2⟩:=H.alloc (q05o _) (w':=w.drew.alloc (.cells (news.toArray++Builtin.zeroCells z.cells (grownCap w n 0 e-n)) e)) (ss:=apBlk aa) rfl rfl rfl rfl (by rw [q05p];exact f1) (by rw [q05p];exact f2)
      refine ⟨_,_,_,run ho hc1 hc hr,?_,r1,r2⟩
      rw [Nat.zero_add]
      exact VR.grownSlice hle (by rw [hsize];exact Nat.le_refl _)
    ·-- the capacity is not known: it grows where it lies,or into a new block
     obtain ⟨hro,hk⟩:=q008 hk
     have hro:=Nat.le_of_ble_eq_true hro
     have grow:∀ {seg seg':AV},p.o=0->p.s=0->blkD h p.b=[seg]->segLen seg=len*elemSize P e->segValsOf seg'=segValsOf seg++apCells ap->(isPool [seg']=false∧∀ k xs,seg=.vec k xs->∃ ys,seg'=.vec k ys) ->
       AppSem P ro ty e i s x t h ap n (.slice ⟨p.b,0,0,segLen seg'⟩ (len+n) (len+n) es false) (setB h p.b [seg']):=by
      intro seg seg' hpo hps hblk hcov hval hfv
      intro o a w μ ho v1 H ⟨hsrc0,src⟩
      rw [hs] at v1
      obtain ⟨oa,cap',L,hc1,g1,g2,g3,g4,g5,g6⟩:=dst v1
      obtain ⟨ad,capx',news,hc,s1,s2,s3,s4,s5⟩:=src hn0
      obtain ⟨ss,hat,_,_⟩:=q00m g1
      have hss:ss=[seg]:=by rw [q009 hat] at hblk;exact hblk
      subst hss
      have hfit:fitB p.b [seg] [seg']:=by
       rcases q00i hat with ⟨h0,_,_⟩ | ⟨r1,k1,rows1,xs1,h0,_,_,h3⟩
       ·exact .inl ⟨h0,hfv.1⟩
       ·simp only [List.cons.injEq,and_true] at h3
        obtain ⟨ys1,h4⟩:=hfv.2 k1 xs1 h3
        exact .inr ⟨r1,k1,xs1,ys1,h0,by rw [h3],by rw [h4]⟩
      have hoff:segOff h p.b p.s=0:=by rw [q00n hat,hps];rfl
      have hlen':segLen seg'=segLen seg+(apCells ap).length:=by rw [<- q001,<- q001,show segVals seg'=_ from hval,List.length_append]
      have hnpos:0<(apCells ap).length:=by
       rw [hapl]
       exact Nat.mul_pos (by omega) hz.2
      have hlen0:segLenAt (setB h p.b [seg']) p.b 0=some (segLen seg'):=by simp [segLenAt,q01i hat hfit]
      have hoff0:segOff (setB h p.b [seg']) p.b 0=0:=by simp [segOff,lenOf]
      have inl:∀ {k base room:Nat},μ p.b=.at k base room->oa=some ⟨k,base+segOff h p.b p.s+p.o,none⟩->(ex=false->segOff h p.b p.s+p.o+cap'*es<=room)->len+n<=cap'->∃ c w' μ',(execOp a.eval o).run P w=.ok (.value c) w' ∧
        VR (setB h p.b [seg']) μ' (.slice ⟨p.b,0,0,segLen seg'⟩ (len+n) (len+n) es false) c∧HR ro (setB h p.b [seg']) μ' w'∧Ext ro h μ w (setB h p.b [seg']) μ' w':=by
       rintro k base room m1 rfl m3 hcap
       have hrm:=m3 hex
       rw [hoff,hpo,hess] at hrm
       have hmul:(len+n)*elemSize P e<=cap'*elemSize P e:=Nat.mul_le_mul_right _ hcap
       rw [Nat.add_mul] at hmul
       obtain ⟨_,hr,hxx,_⟩:=H.at_ p.b [seg] k base room hat m1
       obtain ⟨r1,r2⟩:=H.growIn (seg':=seg') hro hat hfit m1 hval hnpos (by omega) s4 (fun j hj=>s5 j hj)
       have hpos:base+segLen seg=base+segOff h p.b p.s+p.o+len*i.size:=by rw [hoff,hpo,<- hsz];omega
       rw [hpos] at r1 r2
       refine ⟨_,_,μ,run ho hc1 hc (q05j w o.type ty e i hu hi k (base+segOff h p.b p.s+p.o) len cap' ad n capx' news s1 s2 s3 hcap (fun j hj=>?_) (fun j hj=>?_)),?_,r1,r2⟩
       ·obtain ⟨⟨d,hd⟩,_⟩:=hxx (segLen seg+j) (by omega)
        rw [<- hpos,Nat.add_assoc,hd]
        rfl
       ·obtain ⟨_,hd⟩:=hxx (segLen seg+j) (by omega)
        rw [<- hpos,Nat.add_assoc,hd]
       ·refine .slice _ _ _ _ _ _ _ _ hlen0 (Nat.le_refl _) ⟨Nat.le_refl _,fun _ e=>by cases e⟩ fun _=>⟨hcap,fun e=>(by cases e),.inl ⟨k,base,room,m1,?_,fun _=>?_⟩⟩
        ·rw [hoff0,hoff,hpo]
        ·rw [hoff0]
         simp only [Nat.zero_add]
         rw [hess]
         omega
      have moved:∀ {cs:Array Value} {cp:Nat} {w':World},μ p.b≠.absent->(execOp a.eval o).run P w=.ok (.value (.slice (some ⟨w.heap.size,0,none⟩) (len+n) cp)) w'->w'.heap=w.heap.push (.cells cs e)->w'.os=w.os->w'.tape=w.tape->w'.output=w.output ->
        len+n<=cp->cs.size=cp*elemSize P e->((segValsOf seg').length<=cs.size∧∀ (i:Nat) (u:AV),(segValsOf seg')[i]?=some u->∃ c,cs[i]?=some c∧c.oneCell'=true∧VR h μ u c)->∃ c w' μ',(execOp a.eval o).run P w=.ok (.value c) w' ∧
        VR (setB h p.b [seg']) μ' (.slice ⟨p.b,0,0,segLen seg'⟩ (len+n) (len+n) es false) c∧HR ro (setB h p.b [seg']) μ' w'∧Ext ro h μ w (setB h p.b [seg']) μ' w':=by
       intro cs cp w' hm hrun q1 q2 q3 q4 hcp hsize hrow
       obtain ⟨r1,r2⟩:=H.growMove (seg':=seg') hro hat hfit hm (by omega) q1 q2 q3 q4 hrow.1 hrow.2
       refine ⟨_,w',_,hrun,?_,r1,r2⟩
       refine .slice _ _ _ _ _ _ _ _ hlen0 (Nat.le_refl _) ⟨Nat.le_refl _,fun _ e=>by cases e⟩ fun _=>⟨hcp,fun e=>(by cases e),.inl ⟨w.heap.size,0,cs.size,by simp [keyMap],?_,fun _=>?_⟩⟩
       ·simp [hoff0]
       ·rw [hoff0,hess,hsize]
        simp
      rcases g6 with ⟨k,base,room,m1,m2,m3⟩ | ⟨m1,m2,m3⟩
      ·by_cases hcap:len+n<=cap'
       ·exact inl m1 m2 m3 hcap
       ·subst m2
        have hreadold:∃ olds:List Value,olds.length=len*i.size∧(∀ (j:Nat) (v:Value),olds[j]?=some v->w.cell? ((⟨k,base+segOff h p.b p.s+p.o,none⟩:Addr).add j)=some v) ∧
          ∀ j,j<len*i.size->∃ u c,(segValsOf seg)[j]?=some u∧olds[j]?=some c∧c.oneCell'=true∧VR h μ u c:=by
         have hgs:getSeg h p.b p.s=seg:=by unfold getSeg;rw [hblk,hps];rfl
         obtain ⟨olds,e1,e2,e3⟩:=H.readAp (ap:=.cells (segValsOf seg)) g1 m1 (n:=len*i.size) (by rw [<- hsz,<- hcov];exact q001 seg) (fun j hj=>by rw [hgs,hpo,Nat.zero_add];rfl)
         exact ⟨olds,e1,e2,e3⟩
        obtain ⟨olds,e1,e2,e3⟩:=hreadold
        have hle:=q05m w (len+n) cap' e
        have hr:=run_append_grow w ty o.type e i z hu hi hzz ⟨k,base+segOff h p.b p.s+p.o,none⟩ len cap' olds e1 e2 ad n capx' news s1 s2 (by omega) (by omega) (q05s (by omega) (by rw [hby];omega))
        refine moved (by rw [m1];simp) (run ho hc1 hc hr) rfl rfl rfl rfl hle ?_ ?_
        ·rw [Array.size_append,Array.size_append,q05t hzs,List.size_toArray,List.size_toArray,s1,e1,hsz,hisz,<- Nat.add_mul,<- Nat.add_mul]
         congr 1
         omega
        ·refine q05n (by rw [hval,List.length_append,show (segValsOf seg).length=segLen seg from q001 seg,hcov,Array.size_append,List.size_toArray,List.size_toArray,e1,s4,hsz]) fun j hj=>?_
         have hsl:(segValsOf seg).length=len*i.size:=by rw [<- hsz,<- hcov];exact q001 seg
         rw [hval] at hj ⊢
         rw [List.length_append] at hj
         by_cases hjo:j<(segValsOf seg).length
         ·rw [List.getElem?_append_left hjo,Array.getElem?_append_left (by simp;omega)]
          simpa using e3 j (by omega)
         ·rw [List.getElem?_append_right (by omega),Array.getElem?_append_right (by simp;omega)]
          have:=s5 (j-(segValsOf seg).length) (by omega)
          rw [hsl] at this ⊢
          simpa [e1] using this
      ·subst m2;subst m3
       have hl0:len=0:=by omega
       subst hl0
       rw [Nat.zero_add] at hb2
       have hle:=q05m w n 0 e
       have hr:=run_append_nil w ty o.type e i z hu hi hzz ad n capx' news s1 s2 (by omega) (by omega) (by rw [hby];omega)
       have hr2:=run ho hc1 hc hr
       simp only [Nat.zero_add] at moved ⊢
       refine moved (by rw [m1];simp) hr2 rfl rfl rfl rfl (by omega) ?_ ?_
       ·rw [Array.size_append,q05t hzs,List.size_toArray,s1,hsz,hisz,<- Nat.add_mul]
        exact congrArg (·*P.cellsOf e) (by omega)
       ·have hs0:segValsOf seg=[]:=List.length_eq_zero_iff.1 (by rw [show (segValsOf seg).length=segLen seg from q001 seg,hcov];simp)
        rw [hs0,List.nil_append] at hval
        refine q05n (by rw [hval];simpa using s4) fun j hj=>?_
        rw [hval] at hj ⊢
        simpa using s5 j hj
     split at hk
     ·rename_i k xs hpo hps hblk
      cases ap with
      | nums k' ys=>
       obtain ⟨hb4,hk4⟩:=q008 hk
       simp only [Bool.and_eq_true,q011] at hb4
       have hkk:=q00z hb4.1
       subst hkk
       exact ⟨_,_,hk4,grow (seg':=.vec k (xs++ys)) hpo hps hblk (by simpa [segLen] using (Nat.eq_of_beq_eq_true hb4.2).symm) (by simp [segValsOf,apCells]) ⟨rfl,by intro k1 xs1 e1;cases e1<;>exact ⟨_,rfl⟩⟩⟩
      | cells vs=>cases hk
      | recs ks ys=>cases hk
      | hdrs b ys=>cases hk
      | strs ys=>cases hk
     ·rename_i us hpo hps hblk
      cases ap with
      | cells vs=>
       obtain ⟨hb4,hk⟩:=q008 hk
       simp only [Bool.and_eq_true,q011] at hb4
       exact ⟨_,_,hk,grow (seg':=.vals (us++vs)) hpo hps hblk (by simpa [segLen] using (Nat.eq_of_beq_eq_true hb4.2).symm) (by simp [segValsOf,apCells]) ⟨rfl,by intro k1 xs1 e1;cases e1<;>exact ⟨_,rfl⟩⟩⟩
      | nums k' ys=>cases hk
      | recs ks ys=>cases hk
      | hdrs b ys=>cases hk
      | strs ys=>cases hk
     ·rename_i ks xs hpo hps hblk
      cases ap with
      | recs ks' ys=>
       obtain ⟨hb4,hk4⟩:=q008 hk
       simp only [Bool.and_eq_true,q011] at hb4
       obtain ⟨b1,b2,b3⟩:=hb4
       have:=q05g b1
       subst this
       exact ⟨_,_,hk4,grow (seg':=.recs ks (xs++ys)) hpo hps hblk (by simpa [segLen] using (Nat.eq_of_beq_eq_true b2).symm) (by simp only [segValsOf,apCells];exact q05f (Nat.eq_of_beq_eq_true b3)) ⟨rfl,by intro k1 xs1 e1;cases e1<;>exact ⟨_,rfl⟩⟩⟩
      | nums k' ys=>cases hk
      | cells vs=>cases hk
      | hdrs b ys=>cases hk
      | strs ys=>cases hk
     ·rename_i pb xs hpo hps hblk
      cases ap with
      | hdrs pb' ys=>
       obtain ⟨hb4,hk4⟩:=q008 hk
       simp only [Bool.and_eq_true,q011] at hb4
       obtain ⟨b1,b2⟩:=hb4
       have:=Nat.eq_of_beq_eq_true b1
       subst this
       exact ⟨_,_,hk4,grow (seg':=.hdr pb (xs++ys)) hpo hps hblk (by simpa [segLen] using (Nat.eq_of_beq_eq_true b2).symm) (by simp [segValsOf,apCells]) ⟨rfl,by intro k1 xs1 e1;cases e1<;>exact ⟨_,rfl⟩⟩⟩
      | nums k' ys=>cases hk
      | cells vs=>cases hk
      | recs ks ys=>cases hk
      | strs ys=>cases hk
     ·rename_i xs hpo hps hblk
      cases ap with
      | strs ys=>
       obtain ⟨hb4,hk4⟩:=q008 hk
       exact ⟨_,_,hk4,grow (seg':=.strs (xs++ys)) hpo hps hblk (by simpa [segLen,q011] using (Nat.eq_of_beq_eq_true hb4).symm) (by simp [segValsOf,apCells]) ⟨rfl,by intro k1 xs1 e1;cases e1<;>exact ⟨_,rfl⟩⟩⟩
      | nums k' ys=>cases hk
      | cells vs=>cases hk
      | recs ks ys=>cases hk
      | hdrs b ys=>cases hk
     ·cases hk
theorem q05w {sv:AV}{ap:Ap}{K:Ap->Heap->Option α}(he:convAp ro sv ap h K=some r):∃ ap1 h1,K ap1 h1=some r∧(apCells ap1).length=(apCells ap).length ∧
  ∀ (μ:LMap) (w:World),HR ro h μ w->∃ μ1,HR ro h1 μ1 w∧Ext ro h μ w h1 μ1 w∧∀ (i:Nat) (c:Value) (u:AV),(apCells ap)[i]?=some u->VR h μ u c->∃ u',(apCells ap1)[i]?=some u'∧VR h1 μ1 u' c:=by
 have same:K ap h=some r->∃ ap1 h1,K ap1 h1=some r∧(apCells ap1).length=(apCells ap).length ∧
  ∀ (μ:LMap) (w:World),HR ro h μ w->∃ μ1,HR ro h1 μ1 w∧Ext ro h μ w h1 μ1 w∧∀ (i:Nat) (c:Value) (u:AV),(apCells ap)[i]?=some u->VR h μ u c->∃ u',(apCells ap1)[i]?=some u'∧VR h1 μ1 u' c:=
  fun hk=>⟨ap,h,hk,rfl,fun μ w H=>⟨μ,H,.refl _ _ _ _,fun i c u hu hc=>⟨u,hu,hc⟩⟩⟩
 unfold convAp at he
 split at he
 ·split at he
  ·rename_i pb ids hs
   split at he
   ·rename_i vs
    obtain ⟨ids',h1,hk,hl,hg⟩:=q04x vs h _ he
    refine ⟨_,h1,hk,by simp [apCells,hl],fun μ w H=>?_⟩
    obtain ⟨μ1,H1,X1,V1⟩:=hg μ w H
    refine ⟨μ1,H1,X1,fun i c u hu hc=>?_⟩
    obtain ⟨q,e1,e2⟩:=V1 i c u hu hc
    exact ⟨_,by simp only [apCells,List.getElem?_map,e1];rfl,e2⟩
   ·exact same he
  ·exact same he
 ·exact same he
theorem q05x {ty:TypeId}{s x:Operand}{c:Call}{K:AV->Heap->Option α}(hcall:c=⟨.builtin .append,#[s,x],#[ty,ty]⟩)(he:goAppend P ro ty (evalO t s) (evalO t x) h K=some r):
  ∃ v h',K v h'=some r∧OpSem P ro (.call c) t h v h':=by
 subst hcall
 have ops:∀ {μ:LMap} {a:Act},(∀ y,y∈(Op.call ⟨.builtin .append,#[s,x],#[ty,ty]⟩).operands->VR h μ (evalO t y) (a.eval y))->VR h μ (evalO t s) (a.eval s)∧VR h μ (evalO t x) (a.eval x):=
  fun hop=>⟨hop s (by simp [Op.operands,Call.operands]),hop x (by simp [Op.operands,Call.operands])⟩
 have run:∀ {o:Oper} {a:Act} {w w':World} {cs cx v:Value},o.op=.call ⟨.builtin .append,#[s,x],#[ty,ty]⟩->a.eval s=cs->a.eval x=cx ->
   (Builtin.append_ #[ty,ty] o.type #[cs,cx]).run P w=.ok v w'->(execOp a.eval o).run P w=.ok (.value v) w':=by
  intro o a w w' cs cx v ho h1 h2 h3
  simp [execOp,ho,resolve,invoke,builtin,h1,h2,h3]
 unfold goAppend at he
 split at he
 case h_2=>cases he
 rename_i e hu
 obtain ⟨hz,he⟩:=q008 he
 simp only [Bool.and_eq_true,Nat.blt_eq] at hz
 obtain ⟨i,z,hi,hzz,hisz,hzs,hby⟩:=q05l hz.1
 have hsz:elemSize P e=i.size:=by rw [hisz];rfl
 split at he
 case h_3=>cases he
 ·-- x is nil
  rename_i hx
  split at he
  case h_3=>cases he
  ·rename_i hs
   refine ⟨_,_,he,.of_pure fun o a w μ ho hop H=>?_⟩
   obtain ⟨v1,v2⟩:=ops hop
   rw [hs] at v1
   rw [hx] at v2
   generalize hq1:a.eval s=q1 at *
   generalize hq2:a.eval x=q2 at *
   cases v1;cases v2
   exact ⟨_,run ho hq1 hq2 (q05k w _ ty e i hu hi none 0 0 (Nat.le_refl _) none 0),.nils⟩
  ·rename_i p len cap es ex hs
   obtain ⟨hb,hk⟩:=q008 he
   have hn:=Nat.eq_of_beq_eq_true hb
   refine ⟨_,_,hk,.of_pure fun o a w μ ho hop H=>?_⟩
   obtain ⟨v1,v2⟩:=ops hop
   rw [hs] at v1
   rw [hx] at v2
   generalize hq2:a.eval x=q2 at *
   cases v2
   obtain ⟨oa,cap',L,hc,g1,g2,g3,g4⟩:=v1.slice_inv
   obtain ⟨_,_,_,hL⟩:=q00m g1
   obtain ⟨q1,_,_⟩:=g4 (by omega)
   exact ⟨_,run ho hc hq2 (q05k w _ ty e i hu hi oa len cap' (by omega) none 0),hc▸v1⟩
 ·rename_i q n capx es' exx hx
  obtain ⟨hes,he⟩:=q008 he
  obtain ⟨ap,he,hqn,hapl,hapg⟩:=q05i he
  rw [q011] at hapl hapg
  have src:∀ {a:Act} {w:World} {μ:LMap},VR h μ (.slice q n capx es' exx) (a.eval x)->HR ro h μ w->n≠0->∃ (ad:Addr) (capx':Nat) (news:List Value),a.eval x=.slice (some ad) n capx'∧news.length=n*i.size ∧
    (∀ (j:Nat) (v:Value),news[j]?=some v->w.cell? (ad.add j)=some v)∧(∀ u:Value,u∈news->u.oneCell'=true)∧(apCells ap).length=news.length ∧
    ∀ j,j<(apCells ap).length->∃ u c,(apCells ap)[j]?=some u∧news[j]?=some c∧c.oneCell'=true∧VR h μ u c:=by
   intro a w μ hv H hn0
   obtain ⟨oa,capx',L,hc,g1,g2,g3,g4⟩:=hv.slice_inv
   obtain ⟨_,_,_,hL⟩:=q00m g1
   obtain ⟨q1,_,q3⟩:=g4 (by omega)
   rcases q3 with ⟨k,base,room,m1,rfl,_⟩ | ⟨_,_,m3⟩
   ·obtain ⟨news,e1,e2,e3⟩:=H.readAp g1 m1 hapl hapg
    rw [hsz] at e1 hapl e3
    refine ⟨_,capx',news,hc,e1,e2,fun u hu=>?_,by omega,fun j hj=>e3 j (by omega)⟩
    obtain ⟨j,hj,rfl⟩:=List.mem_iff_getElem.1 hu
    obtain ⟨_,d,_,f2,f3,_⟩:=e3 j (by omega)
    rw [List.getElem?_eq_getElem hj] at f2
    cases f2
    exact f3
   ·omega
  have src0:∀ {a:Act} {μ:LMap},VR h μ (.slice q n capx es' exx) (a.eval x)->∃ oa capx',a.eval x=.slice oa n capx':=by
   intro a μ hv
   obtain ⟨oa,capx',L,hc,_⟩:=hv.slice_inv
   exact ⟨oa,capx',hc⟩
  obtain ⟨ap1,h1,he,hl1,hconv⟩:=q05w he
  obtain ⟨v,h',hk,hsem⟩:=q05v (x:=x) hu hz.2 hi hzz hisz hzs hby (by rw [hl1];exact hapl) he
  refine ⟨v,h',hk,.of_value fun o a w μ ho hop H=>?_⟩
  obtain ⟨v1,v2⟩:=ops hop
  rw [hx] at v2
  obtain ⟨μ1,H1,X1,V1⟩:=hconv μ w H
  obtain ⟨c,w',μ',q1,q2,q3,q4⟩:=hsem o a w μ1 ho (v1.mono X1.le) H1 ⟨src0 v2,fun hn0=>by
   obtain ⟨ad,capx',news,hc,s1,s2,s3,s4,s5⟩:=src v2 H hn0
   refine ⟨ad,capx',news,hc,s1,s2,s3,by rw [hl1];exact s4,fun j hj=>?_⟩
   obtain ⟨u,d,e1,e2,e3,e4⟩:=s5 j (by omega)
   obtain ⟨u',e5,e6⟩:=V1 j d u e1 e4
   exact ⟨u',d,e5,e2,e3,e6⟩⟩
  exact ⟨c,w',μ',q1,q2,q3,X1.trans q4⟩
theorem q05y (w:World)(t tn ty e:TypeId)(i:TypeInfo)(z:Value)(k kn:IntKind)(ht:P.underlying t=some (.slice e))(htn:P.underlying tn=some (.int kn))(hi:P.info? e=some i)(hz:i.zero=some z)
  {n:Nat} (h0:0<n) (hs:0<i.size) (hn:n<=1099511627776) (hb:n*i.bytes<=1099511627776):
  (Builtin.append_ #[t,tn] ty #[.slice none 0 0,.int k n]).run P w=.ok (.slice (some ⟨w.heap.size,0,none⟩) n (grownCap w n 0 e)) (w.drew.alloc (.cells (Builtin.zeroCells z.cells n++Builtin.zeroCells z.cells (grownCap w n 0 e-n)) e)):=by
 have e1:IntKind.i64.wrap (n:Int)=n:=by rw [IntKind.wrap_i64];omega
 have e2:¬ n=0:=by omega
 have e3:¬ (n:Int)<0:=by omega
 have e4:¬ n*i.size=0:=Nat.mul_ne_zero e2 (by omega)
 have e5:¬ (9223372036854775807<(n:Int)):=by omega
 have e6:¬ (281474976710656<Builtin.nextslicecap n 0*i.bytes):=by rw [nextslicecap_zero h0];omega
 have e7:¬ (281474976710656<(n:Int)*(i.bytes:Int)):=by rw [<- Int.natCast_mul];omega
 simp [Builtin.append_,run_underlying ht,run_underlying htn,sizeOf,typeInfo,zeroValue,hi,hz,asInt,asIntOf,e1,e2,e3,e4,e5,e6,e7,Question.forced,run_firstCells_none,newRow,grownCap]
theorem q05z {ty tn:TypeId}{s x:Operand}{c:Call}{K:AV->Heap->Option α}(hcall:c=⟨.builtin .append,#[s,x],#[ty,tn]⟩)(he:goAppendZ P ty tn (evalO t s) (evalO t x) h K=some r):
  ∃ v h',K v h'=some r∧OpSem P ro (.call c) t h v h':=by
 subst hcall
 have ops:∀ {μ:LMap} {a:Act},(∀ y,y∈(Op.call ⟨.builtin .append,#[s,x],#[ty,tn]⟩).operands->VR h μ (evalO t y) (a.eval y))->VR h μ (evalO t s) (a.eval s)∧VR h μ (evalO t x) (a.eval x):=
  fun hop=>⟨hop s (by simp [Op.operands,Call.operands]),hop x (by simp [Op.operands,Call.operands])⟩
 have run:∀ {o:Oper} {a:Act} {w w':World} {cs cx v:Value},o.op=.call ⟨.builtin .append,#[s,x],#[ty,tn]⟩->a.eval s=cs->a.eval x=cx ->
   (Builtin.append_ #[ty,tn] o.type #[cs,cx]).run P w=.ok v w'->(execOp a.eval o).run P w=.ok (.value v) w':=by
  intro o a w w' cs cx v ho h1 h2 h3
  simp [execOp,ho,resolve,invoke,builtin,h1,h2,h3]
 unfold goAppendZ at he
 split at he
 case h_2=>cases he
 rename_i e kn k nn hu htn hs hx
 obtain ⟨hb,he⟩:=q008 he
 simp only [Bool.and_eq_true,decide_eq_true_eq,Nat.ble_eq,Nat.blt_eq] at hb
 obtain ⟨⟨⟨b1,b2⟩,b3⟩,b4⟩:=hb
 split at he
 case h_2=>cases he
 rename_i k' xs hz
 obtain ⟨i,zv,hi,hzv,hsz,hzs,hne,hpl,hrow⟩:=q058 hz b4
 have hk:=q05q he
 obtain ⟨n,rfl⟩:∃ n:Nat,nn=n:=⟨nn.toNat,by omega⟩
 rw [Int.toNat_natCast] at *
 have hby:P.bytesOf e=i.bytes:=by simp [Program.bytesOf,hi]
 refine ⟨_,_,hk,.of_value fun o a w μ ho hop H=>?_⟩
 obtain ⟨v1,v2⟩:=ops hop
 rw [hs] at v1
 rw [hx] at v2
 generalize hq1:a.eval s=q1 at *
 generalize hq2:a.eval x=q2 at *
 cases v1
 cases v2 with | int _ _ fx=>
 have hb4:0<i.size:=by rw [hsz];exact b4
 have hr:=q05y w ty tn o.type e i zv k kn hu htn hi hzv (n:=n) (by omega) hb4 (by omega) (by rw [<- hby];exact b3)
 have hle:=q05m w n 0 e
 have hrow:=hrow hzs h μ
 have hfl:flat [AV.vec k' xs]=apCells (.nums k' xs):=by simp [flat,segValsOf,apCells]
 rw [hfl] at hrow
 have hzc:(Array.range (n*P.cellsOf e)).map (fun j=>zv.cells[j%zv.cells.size]!)=Builtin.zeroCells zv.cells n:=by unfold Builtin.zeroCells;rw [hzs]
 rw [hzc] at hrow
 have hsize:(Builtin.zeroCells zv.cells n++Builtin.zeroCells zv.cells (grownCap w n 0 e-n)).size=grownCap w n 0 e*elemSize P e:=by
  rw [Array.size_append,q05t hzs,q05t hzs,<- Nat.add_mul]
  show _=grownCap w n 0 e*P.cellsOf e
  congr 1
  omega
 obtain ⟨f1,f2⟩:=q05n (h:=h) (μ:=μ) (l:=apCells (.nums k' xs)) (news:=Builtin.zeroCells zv.cells n) (rest:=Builtin.zeroCells zv.cells (grownCap w n 0 e-n)) hrow.len (fun j hj=>by
  obtain ⟨_,c,g1,g2,g3⟩:=hrow.get j _ (List.getElem?_eq_getElem hj)
  exact ⟨_,c,List.getElem?_eq_getElem hj,g1,g2,g3⟩)
 obtain ⟨r1,r2⟩:=H.alloc (q05o _) (w':=w.drew.alloc (.cells (Builtin.zeroCells zv.cells n++Builtin.zeroCells zv.cells (grownCap w n 0 e-n)) e)) (ss:=apBlk (.nums k' xs)) rfl rfl rfl rfl (by rw [q05p];exact f1) (by rw [q05p];exact f2)
 exact ⟨_,_,_,run ho hq1 hq2 hr,VR.grownSlice hle (by rw [hsize];exact Nat.le_refl _),r1,r2⟩
theorem q060 (f:Int->UInt8):∀ (ns:List Int) (acc:List UInt8),ns.foldl (fun r n=>r.push (f n)) (⟨acc.toArray⟩:ByteArray)=⟨(acc++ns.map f).toArray⟩:=by
 intro ns
 induction ns with
 | nil=>intro acc;simp
 | cons n ns ih=>
  intro acc
  have:(⟨acc.toArray⟩:ByteArray).push (f n)=⟨(acc++[f n]).toArray⟩:=by
   show (⟨acc.toArray.push (f n)⟩:ByteArray)=_
   simp
  simp only [List.foldl_cons,this,ih]
  simp
theorem q061 {s d:TypeId}{x:Operand}{K:AV->Option α}(he:goConvB P s d (evalO t x) h K=some r):∃ v,K v=some r∧OpSem P ro (.convert s d x) t h v h:=by
 unfold goConvB at he
 split at he
 ·rename_i p len cap es ex hx
  split at he
  ·rename_i e hs hd
   split at he
   ·rename_i hu
    obtain ⟨hes,he⟩:=q008 he
    have hes:=Nat.eq_of_beq_eq_true hes
    obtain ⟨ap,he,hpn,hapl,hapg⟩:=q05i he
    split at he
    ·rename_i k xs
     obtain ⟨hk8,hk⟩:=q008 he
     have hk8:=q00z hk8
     subst hk8
     refine ⟨_,hk,.of_pure fun o a w μ ho hop H=>?_⟩
     have v1:=hop x (by simp [Op.operands])
     rw [hx] at v1
     obtain ⟨oa,cap',L,hc,g1,g2,g3,g4⟩:=v1.slice_inv
     obtain ⟨_,_,_,hL⟩:=q00m g1
     obtain ⟨q1,_,q3⟩:=g4 (by omega)
     have hlen:xs.length=len:=by simpa [apCells] using hapl
     have hconv:∀ c,(convert s d (.slice oa len cap')).run P w=.ok c w->(execOp a.eval o).run P w=.ok (.value c) w:=fun c hcv=>by simp [execOp,ho,hc,hcv]
     rcases q3 with ⟨kb,base,room,m1,rfl,_⟩ | ⟨_,rfl,m3⟩
     ·obtain ⟨news,e1,e2,e3⟩:=H.readAp g1 m1 hapl hapg
      have hn:news=xs.map (Value.int .u8):=by
       refine List.ext_getElem? fun i=>?_
       by_cases hi:i<len
       ·obtain ⟨u,c,f1,f2,_,f4⟩:=e3 i hi
        simp only [apCells,List.getElem?_map] at f1
        rw [f2,List.getElem?_map]
        cases hq:xs[i]? with
        | none=>rw [hq] at f1;cases f1
        | some y=>
         rw [hq] at f1
         simp only [Option.map_some,Option.some.injEq] at f1
         subst f1
         cases f4
         rfl
       ·rw [List.getElem?_eq_none (by omega),List.getElem?_eq_none (by simp;omega)]
      have hload:=run_loadCells (P:=P) w ⟨kb,base+segOff h p.b p.s+p.o,none⟩ len (fun j=>news.getD j Go.undef) (fun j hj=>by
       refine e2 j _ ?_
       rw [List.getD_eq_getElem?_getD,List.getElem?_eq_getElem (by omega)]
       rfl)
      have hl2:(List.range len).map (fun j=>news.getD j Go.undef)=xs.map (Value.int .u8):=by
       rw [<- hn]
       refine List.ext_getElem? fun i=>?_
       by_cases hi:i<len
       ·rw [List.getElem?_map,List.getElem?_range hi,Option.map_some,List.getD_eq_getElem?_getD,List.getElem?_eq_getElem (by omega)]
        rfl
       ·rw [List.getElem?_eq_none (by simp;omega),List.getElem?_eq_none (by omega)]
      rw [hl2] at hload
      have hrun:=(run_convert_bytes_string (P:=P) w s d e (some ⟨kb,base+segOff h p.b p.s+p.o,none⟩) len cap' hs hu hd).trans (run_bytesToString w _ len cap' xs hload)
      refine ⟨_,hconv _ hrun,?_⟩
      rw [show ByteArray.empty=(⟨([]:List UInt8).toArray⟩:ByteArray) from rfl,q060]
      exact .str _
     ·have h0:len=0:=by omega
      have hrun:(convert s d (.slice none len cap')).run P w=.ok (.string .empty) w:=by
       rw [run_convert_bytes_string (P:=P) w s d e none len cap' hs hu hd]
       simp [Conv.bytesToString]
      refine ⟨_,hconv _ hrun,?_⟩
      have:xs=[]:=List.eq_nil_of_length_eq_zero (by omega)
      subst this
      exact .str []
    ·cases he
   ·cases he
  ·cases he
 ·obtain ⟨v,hk,hb⟩:=q02x (P:=P) he
  exact ⟨v,hk,q04b hb⟩
end
end Go.AM
namespace Go.AM
section
variable {α:Type} {P:Program} {r:α} {ro:Nat} {t:List AV} {h:Heap}
theorem q062 {seg:AV}{o:Nat}{K:AV->Option α}(he:cellOf seg o K=some r):∃ v,K v=some r∧(segVals seg)[o]?=some v:=by
 unfold cellOf at he
 split at he
 ·obtain ⟨hb,hk⟩:=q008 he
  exact ⟨_,hk,q00r (by simpa using hb)⟩
 ·obtain ⟨hb,hk⟩:=q008 he
  exact ⟨_,hk,q00t (by simpa using hb)⟩
 ·obtain ⟨hb,hk⟩:=q008 he
  exact ⟨_,hk,q00s (by simpa using hb)⟩
 ·rename_i vs
  split at he
  ·cases he
  ·rename_i v hv
   refine ⟨_,he,?_⟩
   rw [show segVals (.vals vs)=vs from rfl,List.getD_eq_getElem?_getD]
   cases hq:vs[o]? with
   | none=>rw [List.getD_eq_getElem?_getD,hq] at hv;exact absurd rfl hv
   | some u=>rfl
 ·cases he
def isAggD:TypeDesc->Bool
 | .struct _ | .array _ _=>true
 | _=>false
theorem q063 {ty:TypeId}{d:TypeDesc}(hu:P.underlying ty=some d)(w:World):(isAgg ty).run P w=.ok (isAggD d) w:=by
 unfold isAgg
 simp only [Sem.run_bind,run_underlying hu,Result.andThen_ok]
 cases d<;>rfl
theorem q064 {ty:TypeId}{ss:List AV}{off:Nat}{K:AV->Option α}(h0:0<P.cellsOf ty)(he:goPart P ty ss off K=some r):
  ∃ v,K v=some r∧∀ (h:Heap) (μ:LMap) (cs:Array Value) (w:World),(flat ss).length=cs.size->(∀ i,VR h μ ((flat ss).getD i .undef) (cs.getD i Go.undef))->∃ c,(part ty cs off).run P w=.ok c w∧VR h μ v c:=by
 have aggc:∀ {d:TypeDesc},P.underlying ty=some d->(isAggD d)=true->goPart.agg P ty ss off K=some r->∃ v,K v=some r∧∀ (h:Heap) (μ:LMap) (cs:Array Value) (w:World),(flat ss).length=cs.size->(∀ i,VR h μ ((flat ss).getD i .undef) (cs.getD i Go.undef))->∃ c,(part ty cs off).run P w=.ok c w∧VR h μ v c:=by
  intro d hu hd he
  have fin:∀ rs:List AV,(flat rs).length=P.cellsOf ty->(∀ i,i<P.cellsOf ty->(flat rs)[i]?=(flat ss)[off+i]?)->∀ (h:Heap) (μ:LMap) (cs:Array Value) (w:World),(flat ss).length=cs.size->(∀ i,VR h μ ((flat ss).getD i .undef) (cs.getD i Go.undef))->∃ c,(part ty cs off).run P w=.ok c w∧VR h μ (.agg rs) c:=by
   intro rs h1 h2 h μ cs w hlen hv
   refine ⟨_,?_,.agg rs (cs.extract off (off+P.cellsOf ty)) ?_ fun i=>?_⟩
   ·unfold part
    simp only [Sem.run_bind,q063 hu,Result.andThen_ok,hd,if_true,q04e h0]
    rfl
   ·have hl:=h2 (P.cellsOf ty-1) (by omega)
    rw [List.getElem?_eq_getElem (by omega)] at hl
    have:=(List.getElem?_eq_some_iff.1 hl.symm).1
    simp
    omega
   ·by_cases hi:i<P.cellsOf ty
    ·have e1:=h2 i hi
     have e2:=hv (off+i)
     rw [List.getD_eq_getElem?_getD,e1,<- List.getD_eq_getElem?_getD]
     have e3:(cs.extract off (off+P.cellsOf ty)).getD i Go.undef=cs.getD (off+i) Go.undef:=by
      rw [Array.getD_eq_getD_getElem?,Array.getD_eq_getD_getElem?,Array.getElem?_extract]
      have hl:=h2 (P.cellsOf ty-1) (by omega)
      rw [List.getElem?_eq_getElem (by omega)] at hl
      have:=(List.getElem?_eq_some_iff.1 hl.symm).1
      rw [if_pos (by omega)]
     rw [e3]
     exact e2
    ·rw [List.getD_eq_getElem?_getD,List.getElem?_eq_none (by omega)]
     exact .undef _
  unfold goPart.agg at he
  split at he
  ·rename_i k m k' n f hh _
   obtain ⟨hb,hk⟩:=q008 he
   simp only [Bool.and_eq_true,Nat.ble_eq] at hb
   have hm:=q013 hh
   have hkk:=q00z hb.1
   subst hkk
   refine ⟨_,hk,fin _ (by simp [flat,segValsOf,hm]) fun i hi=>?_⟩
   simp only [q026]
   rw [q00r (by omega),q00r (by omega),q012]
  ·split at he
   ·rename_i i n hloc
    split at he
    ·rename_i rs htk
     obtain ⟨h1,h2⟩:=q014 _ _ _ htk
     obtain ⟨seg,g1,g2,g3,g4⟩:=q04c _ _ _ _ _ hloc
     refine ⟨_,he,fin rs h1 fun j hj=>?_⟩
     rw [h2 j hj,<- q00l]
     congr 1
     omega
    ·cases he
   ·cases he
 have one:∀ {d:TypeDesc},P.underlying ty=some d->(isAggD d)=false->∀ v,(flat ss)[off]?=some v->∀ (h:Heap) (μ:LMap) (cs:Array Value) (w:World),(flat ss).length=cs.size->(∀ i,VR h μ ((flat ss).getD i .undef) (cs.getD i Go.undef))->∃ c,(part ty cs off).run P w=.ok c w∧VR h μ v c:=by
  intro d hu hd v hv h μ cs w hlen hvs
  have hlt:=(List.getElem?_eq_some_iff.1 hv).1
  have hc:cs[off]?=some cs[off]:=by simp [show off<cs.size by omega]
  refine ⟨cs[off],?_,?_⟩
  ·unfold part
   simp only [Sem.run_bind,q063 hu,Result.andThen_ok,hd,Bool.false_eq_true,if_false,hc]
   rfl
  ·have:=hvs off
   rw [List.getD_eq_getElem?_getD,hv,Array.getD_eq_getD_getElem?,hc] at this
   exact this
 unfold goPart at he
 split at he
 ·rename_i fs hu
  exact aggc hu rfl he
 ·rename_i n e hu
  exact aggc hu rfl he
 ·rename_i d hd1 hd2 hu
  have hd:(isAggD d)=false:=by
   cases d<;>first | rfl | exact absurd rfl (hd1 _) | exact absurd rfl (hd2 _ _)
  split at he
  ·rename_i seg
   obtain ⟨v,hk,hv⟩:=q062 he
   exact ⟨v,hk,one hu hd v (by rw [q026];exact hv)⟩
  ·split at he
   ·rename_i i q n hloc
    obtain ⟨v,hk,hv⟩:=q062 he
    obtain ⟨seg,g1,g2,g3,g4⟩:=q04c _ _ _ _ _ hloc
    refine ⟨v,hk,one hu hd v ?_⟩
    have hseg:ss.getD i .undef=seg:=by rw [List.getD_eq_getElem?_getD,g1];rfl
    rw [hseg] at hv
    rw [<- g4,q00l,q00o g1,q004,List.getElem?_append_left (by rw [q001];omega)]
    exact hv
   ·cases he
 ·cases he
theorem q065 {ty:TypeId}{x i:Operand}{K:AV->Option α}(he:goIndex P ty (evalO t x) (evalO t i) K=some r):∃ v,K v=some r∧∀ (ro:Nat) (h:Heap),OpSem P ro (.index ty x i) t h v h:=by
 unfold goIndex at he
 split at he
 ·rename_i k n hi
  split at he
  ·rename_i len e ss hu hx
   obtain ⟨hb,hk⟩:=q008 he
   simp only [Bool.and_eq_true,decide_eq_true_eq,Nat.blt_eq] at hb
   obtain ⟨v,hk,hs⟩:=q064 hb.1 hk
   refine ⟨v,hk,fun ro h=>.of_pure fun o a w μ ho hop H=>?_⟩
   have v1:=hop x (by simp [Op.operands])
   have v2:=hop i (by simp [Op.operands])
   rw [hx] at v1
   rw [hi] at v2
   generalize hq1:a.eval x=q1 at *
   generalize hq2:a.eval i=q2 at *
   cases v2
   cases v1 with | agg _ cs h1 h2=>
   obtain ⟨c,e1,e2⟩:=hs h μ cs w h1 h2
   refine ⟨c,?_,e2⟩
   rw [q011] at e1
   have hc:(0<=n∧n<(len:Int)):=⟨hb.2.1,hb.2.2⟩
   simp only [execOp,ho,hq1,hq2,Instr.index,Sem.run_bind,asIntOf,Sem.run_pure,Result.andThen_ok,run_underlying hu,if_pos hc,q04e hb.1]
   rw [show elemSize P e=P.cellsOf e from rfl] at e1
   rw [e1]
   rfl
  ·cases he
 ·cases he
theorem q066 {ty:TypeId}{x:Operand}{f:Nat}{K:AV->Option α}(he:goField P ty (evalO t x) f K=some r):∃ v,K v=some r∧∀ (ro:Nat) (h:Heap),OpSem P ro (.field ty x f) t h v h:=by
 unfold goField at he
 split at he
 ·rename_i fs ss hu hx
  split at he
  ·rename_i fd hfd
   obtain ⟨hb,hk⟩:=q008 he
   rw [Nat.blt_eq] at hb
   obtain ⟨v,hk,hs⟩:=q064 hb hk
   refine ⟨v,hk,fun ro h=>.of_pure fun o a w μ ho hop H=>?_⟩
   have v1:=hop x (by simp [Op.operands])
   rw [hx] at v1
   generalize hq1:a.eval x=q1 at *
   cases v1 with | agg _ cs h1 h2=>
   obtain ⟨c,e1,e2⟩:=hs h μ cs w h1 h2
   refine ⟨c,?_,e2⟩
   simp only [execOp,ho,hq1,Instr.field,Sem.run_bind,run_underlying hu,Result.andThen_ok,hfd,asAgg,Sem.run_pure]
   rw [e1]
   rfl
  ·cases he
 ·cases he
end
end Go.AM
namespace Go.AM
section
variable {α:Type} {P:Program} {ro:Nat}
def Only (h:Heap)(R:List Nat)(h':Heap):Prop:=∀ b,b<h.length->b ∉ R->h'[b]?=h[b]?
theorem Only.refl (h:Heap)(R:List Nat):Only h R h:=fun _ _ _=>rfl
theorem Only.append (h:Heap)(R:List Nat)(l:Heap):Only h R (h++l):=fun b hb _=>by rw [List.getElem?_append_left hb]
theorem Only.trans {h h1 h2:Heap}{R:List Nat}(a:Only h R h1)(hl:h.length<=h1.length)(b:Only h1 R h2):Only h R h2:=fun x hx hn=>(b x (by omega) hn).trans (a x hx hn)
theorem Only.setB {h:Heap}{R:List Nat}{κ:Key}{x:Blk}(hm:κ.b∈R):Only h R (setB h κ x):=fun b _ hn=>q01h fun e=>hn (e▸hm)
theorem Only.set {h:Heap}{R:List Nat}{p:Nat}{x:Blk}(hm:p∈R):Only h R (h.set p x):=fun b _ hn=>by
 rw [List.getElem?_set,if_neg]
 rintro rfl
 exact hn hm
theorem q067:∀ {vs:List AV} {v:AV} {b:Nat},v∈vs->b∈refs v->b∈refsL vs
 | [],_,_,hv,_=>by cases hv
 | u::vs,v,b,hv,hb=>by
  rw [refsL]
  rcases List.mem_cons.1 hv with rfl | hv
  ·exact List.mem_append_left _ hb
  ·exact List.mem_append_right _ (q067 hv hb)
theorem q068 {h:Heap}:∀ {l:List Nat} {b:Nat},b∈l->b∈reach2 h l
 | [],_,hb=>by cases hb
 | a::l,b,hb=>by
  rw [reach2]
  rcases List.mem_cons.1 hb with rfl | hb
  ·exact List.mem_cons_self
  ·exact List.mem_cons_of_mem _ (List.mem_append_right _ (q068 hb))
theorem q069 {h:Heap}:∀ {l:List Nat} {a b:Nat},a∈l->b∈refsL (h.getD a [])->b∈reach2 h l
 | [],_,_,ha,_=>by cases ha
 | c::l,a,b,ha,hb=>by
  rw [reach2]
  rcases List.mem_cons.1 ha with rfl | ha
  ·exact List.mem_cons_of_mem _ (List.mem_append_left _ hb)
  ·exact List.mem_cons_of_mem _ (List.mem_append_right _ (q069 ha hb))
theorem q06a {h:Heap}{κ:Key}{s b:Nat}(hb:b∈refs (getSeg h κ s)):b∈refsL (h.getD κ.b []):=by
 unfold getSeg blkD at hb
 split at hb
 ·split at hb
  ·rename_i x hx
   cases hp:isPool x with
   | true=>rw [hp] at hb;simp [refs] at hb
   | false=>
    rw [hp] at hb
    simp only [cond_false] at hb
    rw [List.getD_eq_getElem?_getD,hx,Option.getD_some]
    rw [List.getD_eq_getElem?_getD] at hb
    cases hg:x[s]? with
    | none=>rw [hg] at hb;simp [refs] at hb
    | some v=>rw [hg] at hb;exact q067 (List.mem_of_getElem? hg) hb
  ·simp [refs] at hb
 ·split at hb
  ·split at hb
   ·exfalso
    cases s with
    | zero=>simp [refs] at hb
    | succ s=>simp [refs] at hb
   ·simp [refs] at hb
  ·simp [refs] at hb
theorem q06b {b:Bool}{x y n:Option α}(h:x=y):br b x n=br b y n:=by rw [h]
theorem q06c {b:Bool}{x y x' y':Option α}(h:x=x')(h2:y=y'):br b x y=br b x' y':=by rw [h,h2]
theorem q06d {pb:Nat}{v:AV}{h:Heap}{R:List Nat}{K K':Nat×Nat->Heap->Option α}(hp:pb∈R)(hv:∀ b,b∈refs v->b∈R)(hK:∀ q h',Only h R h'->h'.length=h.length->K q h'=K' q h'):giveK ro pb v h K=giveK ro pb v h K':=by
 unfold giveK
 split
 ·split
  ·exact q06b (hK _ _ (.set hp) (by simp))
  ·rfl
 ·rename_i q len cap es ex
  split
  ·exact q06b (hK _ _ (.refl _ _) rfl)
  ·split
   ·split
    ·exact q06b (hK _ _ (Only.trans (.set (hv _ (by simp [refs]))) (by simp) (.set hp)) (by simp))
    ·rfl
   ·rfl
 ·rfl
theorem q06e {pb:Nat}{R:List Nat}(hp:pb∈R):∀ {vs:List AV} {h:Heap} {K K':List (Nat×Nat)->Heap->Option α},(∀ v∈vs,∀ b,b∈refs v->b∈R)->(∀ q h',Only h R h'->h'.length=h.length->K q h'=K' q h')->giveAll ro pb vs h K=giveAll ro pb vs h K'
 | [],h,K,K',_,hK=>hK _ _ (.refl _ _) rfl
 | v::vs,h,K,K',hv,hK=>by
  unfold giveAll
  refine q06d hp (hv v List.mem_cons_self) fun q h1 o1 l1=>?_
  exact q06e hp (fun u hu=>hv u (List.mem_cons_of_mem _ hu)) fun qs h2 o2 l2=>hK _ _ (o1.trans (by omega) o2) (by omega)
theorem q06f {β:Type}{xs:List β}{o n:Nat}{x:β}(h:x∈fromTo xs o n):x∈xs:=by
 rw [q05h] at h
 exact List.mem_of_mem_drop (List.mem_of_mem_take h)
theorem q06g {h:Heap}{p:Place}{n:Nat}{K K':Ap->Option α}(hK:∀ ap,(∀ vs,ap=.cells vs->∀ v∈vs,∀ b,b∈refs v->b∈refsL (h.getD p.b.b []))->K ap=K' ap):readAp h p n K=readAp h p n K':=by
 unfold readAp
 split
 ·exact q06b (hK _ (fun vs e=>by cases e))
 ·exact q06b (hK _ (fun vs e=>by cases e))
 ·rename_i us hg
  refine q06b (hK _ (fun vs e v hv b hb=>?_))
  cases e
  refine q06a (s:=p.s) ?_
  rw [hg]
  show b∈refsL us
  exact q067 (q06f hv) hb
 ·exact q06b (hK _ (fun vs e=>by cases e))
 ·exact q06b (hK _ (fun vs e=>by cases e))
 ·exact q06b (hK _ (fun vs e=>by cases e))
 ·rfl
theorem q06h {h:Heap}{p:Place}{ap:Ap}{R:List Nat}{K K':Heap->Option α}(hp:p.b.b∈R)(hK:∀ h',Only h R h'->K h'=K' h'):putAp ro h p ap K=putAp ro h p ap K':=by
 unfold putAp
 refine q06b ?_
 split<;>first | rfl | exact q06b (hK _ (.setB hp))
theorem q06i {h:Heap}{n sz:Nat}{ap:Ap}{R:List Nat}{K K':AV->Heap->Option α}(hK:∀ v h',Only h R h'->K v h'=K' v h'):newAp h n sz ap K=newAp h n sz ap K':=by
 unfold newAp
 split
 ·exact hK _ _ (.append _ _ _)
 ·exact q06b (hK _ _ (.append _ _ _))
 ·exact hK _ _ (.append _ _ _)
 ·exact hK _ _ (.append _ _ _)
 ·exact hK _ _ (.append _ _ _)
theorem q06j {e:TypeId}{n:Nat}{s:AV}{ap:Ap}{h:Heap}{R:List Nat}{K K':AV->Heap->Option α}(hs:∀ b,b∈refs s->b∈R)(hK:∀ v h',Only h R h'->K v h'=K' v h'):appendTo P ro e n s ap h K=appendTo P ro e n s ap h K':=by
 unfold appendTo
 split
 ·rw [hK _ _ (.refl _ _),q06i hK]
 ·rename_i p len cap es ex
  have hp:p.b.b∈R:=hs _ (by simp [refs])
  refine q06b ?_
  rw [hK _ _ (.refl _ _)]
  congr 1
  refine q06b ?_
  rw [q06h (p:={ p with o:=p.o+mulS len (elemSize P e) }) hp fun h' o=>hK _ h' o]
  congr 1
  refine q06c (congrArg _ (funext fun old=>?_)) ?_
  ·split
   ·exact q06i hK
   ·rfl
  refine q06b ?_
  split
  ·split
   ·exact q06b (hK _ _ (.setB hp))
   ·rfl
  ·split
   ·exact q06b (hK _ _ (.setB hp))
   ·rfl
  ·split
   ·exact q06b (hK _ _ (.setB hp))
   ·rfl
  ·split
   ·exact q06b (hK _ _ (.setB hp))
   ·rfl
  ·split
   ·exact q06b (hK _ _ (.setB hp))
   ·rfl
  ·rfl
 ·rfl
theorem q06k {s:AV}{ap:Ap}{h:Heap}{R:List Nat}{K K':Ap->Heap->Option α}(hs:∀ p len cap es ex,s=.slice p len cap es ex->∀ b,b∈refsL (h.getD p.b.b [])->b∈R)(ha:∀ vs,ap=.cells vs->∀ v∈vs,∀ b,b∈refs v->b∈R)(hK:∀ ap h',Only h R h'->h'.length=h.length->K ap h'=K' ap h'):
  convAp ro s ap h K=convAp ro s ap h K':=by
 unfold convAp
 split
 ·rename_i p len cap es ex
  split
  ·rename_i b ids hg
   split
   ·rename_i vs
    refine q06e (hs _ _ _ _ _ rfl _ (q06a (s:=p.s) (by rw [hg];simp [refs]))) (ha vs rfl) fun q h' o l=>hK _ h' o l
   ·exact hK _ _ (.refl _ _) rfl
  ·exact hK _ _ (.refl _ _) rfl
 ·exact hK _ _ (.refl _ _) rfl
theorem q06l {ty:TypeId}{s x:AV}{h:Heap}{K K':AV->Heap->Option α}(hK:∀ v h',Only h (reach2 h (refsL [s,x])) h'->K v h'=K' v h'):goAppend P ro ty s x h K=goAppend P ro ty s x h K':=by
 have ms:∀ b,b∈refs s->b∈refsL [s,x]:=fun b hb=>q067 (v:=s) (by simp) hb
 have mx:∀ b,b∈refs x->b∈refsL [s,x]:=fun b hb=>q067 (v:=x) (by simp) hb
 unfold goAppend
 split
 ·refine q06b ?_
  split
  ·split
   ·exact hK _ _ (.refl _ _)
   ·exact q06b (hK _ _ (.refl _ _))
   ·rfl
  ·rename_i q n c es' ex
   refine q06b (q06g fun ap hap=>?_)
   refine q06k (R:=reach2 h (refsL [s,.slice q n c es' ex])) (fun p len cap es ex e b hb=>?_) (fun vs e v hv b hb=>?_) fun ap1 h1 o1 l1=>?_
   ·subst e
    exact q069 (a:=p.b.b) (ms _ (by simp [refs])) hb
   ·exact q069 (a:=q.b.b) (mx _ (by simp [refs])) (hap vs e v hv b hb)
   ·exact q06j (R:=reach2 h (refsL [s,.slice q n c es' ex])) (fun b hb=>q068 (ms b hb)) fun v h' o=>hK v h' (o1.trans (by omega) o)
  ·rfl
 ·rfl
theorem q06m {ty tn:TypeId}{s x:AV}{h:Heap}{R:List Nat}{K K':AV->Heap->Option α}(hK:∀ v h',Only h R h'->K v h'=K' v h'):goAppendZ P ty tn s x h K=goAppendZ P ty tn s x h K':=by
 unfold goAppendZ
 split
 ·refine q06b ?_
  split
  ·exact q06i hK
  ·rfl
 ·rfl
end
def CallSem (P:Program)(ro:Nat)(f:FuncId)(args:List AV)(h:Heap)(v:AV)(h':Heap):Prop:=
 (∃ fn c,P.funcs[f]?=some fn∧(fn.name=="runtime.NumGoroutine")=false∧fn.body=some c) ∧
 ∀ (μ:LMap) (w:World) (cs:Array Value),args.length=cs.size->(∀ i,VR h μ (args.getD i .undef) (cs.getD i Go.undef))->HR ro h μ w ->
  Calls P f cs w fun e w'=>∃ c,e=.returned c∧∃ μ',VR h' μ' v c∧HR ro h' μ' w'∧Ext ro h μ w h' μ' w'
section
variable {α:Type} {P:Program} {r:α} {ro:Nat} {op:Op} {t:List AV} {h:Heap}
def CallsOk (P:Program)(call:FuncId->Sum α):Prop:=
 ∀ f ro args h K r,call f ro args h K=some r->∃ v h',K v h'=some r∧CallSem P ro f args h v h'
def CallsT (P:Program)(call:FuncId->Sum α):Prop:=
 ∀ f ro args h K r,call f ro args h K=some r->∃ v h',K v h'=some r∧CallSem P ro f args h v h'∧∀ b,b<h.length->b ∉ reachOf args h->h'[b]?=h[b]?
theorem CallsT.ok {call:FuncId->Sum α}(h:CallsT P call):CallsOk P call:=fun f ro args hp K r he=>by
 obtain ⟨v,h',h1,h2,_⟩:=h f ro args hp K r he
 exact ⟨v,h',h1,h2⟩
theorem q06n {op:BinOp}{xt yt:TypeId}{x y:Operand}{a b q:Bool}(hu:P.underlying xt=some .bool)(hx:evalO t x=.bool a)(hy:evalO t y=.bool b)
  (hq:(op=.eql∧q=(a==b))∨(op=.neq∧q=(a != b))):OpSem P ro (.binOp op xt x y yt) t h (.bool q) h:=by
 refine .of_pure fun o ac w μ ho hop H=>?_
 have v1:=hop x (by simp [Op.operands])
 have v2:=hop y (by simp [Op.operands])
 rw [hx] at v1
 rw [hy] at v2
 generalize hq1:ac.eval x=q1 at *
 generalize hq2:ac.eval y=q2 at *
 cases v1;cases v2
 refine ⟨_,?_,.bool _⟩
 have hg:(eqGuard op xt x y (.bool a) (.bool b)).run P w=.ok () w:=by
  unfold eqGuard
  split<;>rfl
 have he:(Op.equal xt (.bool a) (.bool b)).run P w=.ok (a==b) w:=by
  unfold Op.equal
  rw [show Op.maxDepth=(Op.maxDepth-1)+1 from rfl]
  simp [Op.equalIn,run_underlying hu]
 simp only [execOp,ho,hq1,hq2]
 rcases hq with ⟨rfl,rfl⟩ | ⟨rfl,rfl⟩
 ·simp [Sem.run_bind,hg,binOp,he]
 ·simp [Sem.run_bind,hg,binOp,he,bne]
theorem q06o {op:BinOp}{xt yt:TypeId}{x y:Operand}{ss ss':List AV}{b q:Bool}(hx:evalO t x=.agg ss)(hy:evalO t y=.agg ss')
  (hb:∀ (h:Heap) (μ:LMap) (c d:Value) (w:World),VR h μ (.agg ss) c->VR h μ (.agg ss') d->∃ xs ys,c=.agg xs∧d=.agg ys∧(Op.equalIn 10000 xt c d).run P w=.ok b w∧P.eqGuardType P.depth xt=false)
  (hq:(op=.eql∧q=b)∨(op=.neq∧q=!b)):OpSem P ro (.binOp op xt x y yt) t h (.bool q) h:=by
 refine .of_pure fun o ac w μ ho hop H=>?_
 have v1:=hop x (by simp [Op.operands])
 have v2:=hop y (by simp [Op.operands])
 rw [hx] at v1
 rw [hy] at v2
 obtain ⟨xs,ys,e1,e2,e3,e4⟩:=hb h μ _ _ w v1 v2
 rw [e1,e2] at e3
 refine ⟨_,?_,.bool _⟩
 have hg:∀ op',(eqGuard op' xt x y (.agg xs) (.agg ys)).run P w=.ok () w:=by
  intro op'
  unfold eqGuard
  cases op'<;>simp [Sem.run_bind,e4]
 simp only [execOp,ho,e1,e2]
 rcases hq with ⟨rfl,rfl⟩ | ⟨rfl,rfl⟩
 ·simp [Sem.run_bind,hg,run_eql_struct,e3]
 ·simp [Sem.run_bind,hg,run_neq_struct,e3]
theorem q06p {op:BinOp}{xt yt e:TypeId}{x y:Operand}{p:Place}{len cap es:Nat}{ex q:Bool}(hu:P.underlying xt=some (.slice e))(hx:evalO t x=.slice p len cap es ex)(hy:evalO t y=.nils)(hc:0<cap)
  (hq:(op=.eql∧q=false)∨(op=.neq∧q=true)):OpSem P ro (.binOp op xt x y yt) t h (.bool q) h:=by
 refine .of_pure fun o ac w μ ho hop H=>?_
 have v1:=hop x (by simp [Op.operands])
 have v2:=hop y (by simp [Op.operands])
 rw [hx] at v1
 rw [hy] at v2
 obtain ⟨a,cap',e1,hs⟩:=v1.slice_some
 have ha:=hs hc
 generalize hq1:ac.eval x=q1 at *
 generalize hq2:ac.eval y=q2 at *
 cases v2
 subst e1
 cases a with
 | none=>exact absurd rfl ha
 | some ad=>
  have hg:∀ op',(eqGuard op' xt x y (.slice (some ad) len cap') (.slice none 0 0)).run P w=.ok () w:=by
   intro op'
   unfold eqGuard
   cases op'<;>rfl
  have he:(Op.equal xt (.slice (some ad) len cap') (.slice none 0 0)).run P w=.ok false w:=by
   unfold Op.equal
   rw [show Op.maxDepth=(Op.maxDepth-1)+1 from rfl]
   simp [Op.equalIn,run_underlying hu]
  refine ⟨_,?_,.bool _⟩
  simp only [execOp,ho,hq1,hq2]
  rcases hq with ⟨rfl,rfl⟩ | ⟨rfl,rfl⟩
  ·simp [Sem.run_bind,hg,binOp,he]
  ·simp [Sem.run_bind,hg,binOp,he]
theorem q06q {gv:Bool}{call:FuncId->Sum α}{K:AV->Heap->Option α}(hp:isP op=true)(hgv:isC op=true->gv=false)(he:opK P gv ro call op t h K=some r):
  ∃ v,K v h=some r∧∀ (ro':Nat) (h2:Heap),OpSem P ro' op t h2 v h2:=by
 cases op<;>simp only [isP,Bool.false_eq_true] at hp
 case move x=>exact ⟨_,he,fun _ _=>q041 (.inl rfl)⟩
 case assign x=>exact ⟨_,he,fun _ _=>q041 (.inr rfl)⟩
 case pick c x y=>
  simp only [opK] at he
  split at he
  ·rename_i b hc
   rcases q007 he with ⟨rfl,hk⟩ | ⟨rfl,hk⟩
   ·exact ⟨_,hk,fun _ _=>q042 hc⟩
   ·exact ⟨_,hk,fun _ _=>q042 hc⟩
  ·cases he
 case binOp op xt x y yt=>
  simp only [opK] at he
  split at he
  ·rename_i a hx
   split at he
   ·rename_i b hy
    split at he
    ·rename_i hu
     split at he
     ·exact ⟨_,he,fun _ _=>q06n hu hx hy (.inl ⟨rfl,rfl⟩)⟩
     ·exact ⟨_,he,fun _ _=>q06n hu hx hy (.inr ⟨rfl,rfl⟩)⟩
     ·cases he
    ·cases he
   ·cases he
  ·rename_i ss hx
   split at he
   ·rename_i ss' hy
    split at he
    ·obtain ⟨b,hk,hb⟩:=q03b he
     exact ⟨_,hk,fun _ _=>q06o hx hy hb (.inl ⟨rfl,rfl⟩)⟩
    ·obtain ⟨b,hk,hb⟩:=q03b he
     exact ⟨_,hk,fun _ _=>q06o hx hy hb (.inr ⟨rfl,rfl⟩)⟩
    ·cases he
   ·cases he
  ·rename_i p len cap es ex hx
   split at he
   ·rename_i hy
    split at he
    ·rename_i e hu
     split at he
     ·obtain ⟨hb,hk⟩:=q008 he
      exact ⟨_,hk,fun _ _=>q06p hu hx hy (by simpa using hb) (.inl ⟨rfl,rfl⟩)⟩
     ·obtain ⟨hb,hk⟩:=q008 he
      exact ⟨_,hk,fun _ _=>q06p hu hx hy (by simpa using hb) (.inr ⟨rfl,rfl⟩)⟩
     ·cases he
    ·cases he
   ·cases he
  ·obtain ⟨v,hk,hb⟩:=q02v (P:=P) he
   exact ⟨v,hk,fun _ _=>q049 hb⟩
 case unOp op xt x=>
  simp only [opK] at he
  obtain ⟨v,hk,hb⟩:=q02w (P:=P) he
  exact ⟨v,hk,fun _ _=>q04a hb⟩
 case convert s d x=>
  rw [hgv rfl] at he
  simp only [opK] at he
  obtain ⟨v,hk,hb⟩:=q02x (P:=P) he
  exact ⟨v,hk,fun _ _=>q04b hb⟩
 case index ty x i=>
  simp only [opK] at he
  obtain ⟨v,hk,hb⟩:=q065 (P:=P) he
  exact ⟨v,hk,fun ro h=>hb ro h⟩
 case field ty x f=>
  simp only [opK] at he
  obtain ⟨v,hk,hb⟩:=q066 (P:=P) he
  exact ⟨v,hk,fun ro h=>hb ro h⟩
 case extract x i=>
  simp only [opK] at he
  split at he
  ·rename_i vs hx
   split at he
   ·rename_i v hi
    exact ⟨v,he,fun _ _=>q043 hx hi⟩
   ·cases he
  ·cases he
theorem q06r {b:Builtin}{x y:Operand}{ats:Array TypeId}{k k':IntKind}{m n q:Int}(hx:evalO t x=.int k m)(hy:evalO t y=.int k' n)
  (hq:q=m∨q=n) (hkk:k=k') (hrun:∀ ty cc w,(builtin b ats ty cc #[.int k m,.int k' n]).run P w=.ok (.value (.int k q)) w):
  OpSem P ro (.call ⟨.builtin b,#[x,y],ats⟩) t h (.int k q) h:=by
 refine .of_pure fun o a w μ ho hop H=>?_
 have v1:=hop x (by simp [Op.operands,Call.operands])
 have v2:=hop y (by simp [Op.operands,Call.operands])
 rw [hx] at v1
 rw [hy] at v2
 subst hkk
 generalize hq1:a.eval x=q1 at *
 generalize hq2:a.eval y=q2 at *
 cases v1 with | int _ _ f1=>
 cases v2 with | int _ _ f2=>
 refine ⟨.int k q,?_,.int _ _ ?_⟩
 ·simp only [execOp,ho,resolve,invoke,Sem.run_bind,Sem.run_pure,Result.andThen_ok]
  rw [show (#[x,y].map a.eval)=#[.int k m,.int k n] by simp [hq1,hq2]]
  exact hrun _ _ _
 ·rcases hq with rfl | rfl
  ·exact f1
  ·exact f2
theorem q06s {f:FuncId}{fn:Func}{c:Code}(hf:P.funcs[f]?=some fn)(hname:(fn.name=="runtime.NumGoroutine")=false)(hb:fn.body=some c)(args:Array Value)(w:World):
  (callFunc f args).run P w=.ok (.enter f args) w:=by
 have h1:fn.name≠"runtime.NumGoroutine":=by simpa using hname
 simp [callFunc,hf,h1,hb]
theorem q06t {β γ:Type}{f:β->γ}{l:List β}{a b:γ}(hl:l.map f=[a,b]):∃ y z,l=[y,z]∧f y=a∧f z=b:=by
 cases l with
 | nil=>cases hl
 | cons y l=>
  cases l with
  | nil=>simp at hl
  | cons z l=>
   cases l with
   | nil=>simp only [List.map_cons,List.map_nil,List.cons.injEq,and_true] at hl;exact ⟨y,z,rfl,hl.1,hl.2⟩
   | cons _ _=>simp at hl
theorem q06u {f:Operand}{args:Array Operand}{ats:Array TypeId}{g:FuncId}{caps:List AV}{v:AV}{h':Heap}(hf:evalO t f=.func g caps)
  (hcs:CallSem P ro g (args.toList.map (evalO t)++caps) h v h'):OpSem P ro (.call ⟨.value f,args,ats⟩) t h v h':=by
 obtain ⟨⟨fn,c,hfn,hname,hbody⟩,hs⟩:=hcs
 refine fun o a w μ next Q ho hop H hn=>?_
 have hvf:=hop f (by simp [Op.operands,Call.operands])
 rw [hf] at hvf
 generalize hq:a.eval f=q at *
 cases hvf with | func _ _ cs h1 h2=>
 obtain ⟨e1,e2⟩:=q047 (l:=args) (a:=a) (μ:=μ) (h:=h) (t:=t) (fun x hx=>hop x (by simp [Op.operands,Call.operands,hx]))
 have hrun:(execOp a.eval o).run P w=.ok (.enter g (args.map a.eval++cs)) w:=by
  have:=q06s (P:=P) hfn hname hbody (args.map a.eval++cs) w
  simp only [execOp,ho,resolve,hq,Deferred.ofValue,Sem.run_bind,Sem.run_pure,Result.andThen_ok,invoke]
  simpa using this
 unfold Oper.wp
 rw [hrun]
 refine (hs μ w (args.map a.eval++cs) ?_ (fun i=>?_) H).mono fun e w' hR=>?_
 ·simp at e1 ⊢;omega
 ·by_cases hi:i<args.size
  ·have:=e2 i
   rw [List.getD_eq_getElem?_getD,List.getElem?_append_left (by simpa using hi),<- List.getD_eq_getElem?_getD,Array.getD_eq_getD_getElem?,Array.getElem?_append_left (by simpa using hi),<- Array.getD_eq_getD_getElem?]
   exact this
  ·have:=h2 (i-args.size)
   rw [List.getD_eq_getElem?_getD,List.getElem?_append_right (by simp;omega),<- List.getD_eq_getElem?_getD,Array.getD_eq_getD_getElem?,Array.getElem?_append_right (by simp;omega),<- Array.getD_eq_getD_getElem?]
   simpa using this
 ·obtain ⟨c',rfl,μ',q1,q2,q3⟩:=hR
  exact hn μ' w' c' q1 q2 q3
theorem q06v {call:FuncId->Sum α}(hcall:CallsOk P call){f:Operand}{args:Array Operand}{ats:Array TypeId}{g:FuncId}{caps:List AV}{K:AV->Heap->Option α}(hf:evalO t f=.func g caps)
  (he:call g ro (args.toList.map (evalO t)++caps) h K=some r):∃ v h',K v h'=some r∧OpSem P ro (.call ⟨.value f,args,ats⟩) t h v h':=by
 obtain ⟨v,h',hk,hs⟩:=hcall _ _ _ _ _ _ he
 exact ⟨v,h',hk,q06u hf hs⟩
theorem q06w {op:Op}(h:isLd op=true):(∃ f args ats,op=.call ⟨.value (.func f),args,ats⟩∧loudF f=true)∨∃ args ats,op=.call ⟨.builtin .append,args,ats⟩:=by
 cases op<;>simp only [isLd,Bool.false_eq_true] at h
 rename_i c
 obtain ⟨callee,args,ats⟩:=c
 cases callee<;>simp only [Bool.false_eq_true] at h
 ·rename_i f
  cases f<;>simp only [Bool.false_eq_true] at h
  exact .inl ⟨_,_,_,rfl,h⟩
 ·rename_i b
  cases b<;>simp only [Bool.false_eq_true] at h
  exact .inr ⟨_,_,rfl⟩
theorem q06x {gv:Bool}{call:FuncId->Sum α}(hcall:CallsOk P call){K:AV->Heap->Option α}(he:opK P gv ro call op t h K=some r):
  ∃ v h',K v h'=some r∧OpSem P ro op t h v h':=by
 by_cases hC:isC op=true∧gv=true
 ·obtain ⟨hC,rfl⟩:=hC
  cases op<;>simp only [isC,Bool.false_eq_true] at hC
  simp only [opK] at he
  obtain ⟨v,hk,hs⟩:=q061 (P:=P) (ro:=ro) he
  exact ⟨v,h,hk,hs⟩
 by_cases hp:isP op=true
 ·obtain ⟨v,hk,hs⟩:=q06q hp (fun e=>by cases gv with | false=>rfl | true=>exact absurd ⟨e,rfl⟩ hC) he
  exact ⟨v,h,hk,hs ro h⟩
 cases op<;>simp only [isP,not_true_eq_false] at hp
 case alloc e=>
  simp only [opK] at he
  split at he
  ·rename_i ss hz
   obtain ⟨hb,hk⟩:=q008 he
   simp only [Bool.and_eq_true,Bool.not_eq_true'] at hb
   exact ⟨_,_,hk,q03t hz hb.1 hb.2⟩
  ·cases he
 case box e x=>
  simp only [opK] at he
  split at he
  ·rename_i ss hx
   obtain ⟨hb,hk⟩:=q008 he
   simp only [Bool.and_eq_true,Nat.blt_eq,Bool.not_eq_true'] at hb
   exact ⟨_,_,hk,q03u hx hb.1 hb.2.1 hb.2.2⟩
  ·obtain ⟨hb,hk⟩:=q008 he
   exact ⟨_,_,hk,q03v rfl hb⟩
 case build ty ps=>
  simp only [opK] at he
  obtain ⟨v,hk,hs⟩:=q055 (P:=P) (ro:=ro) he
  exact ⟨v,h,hk,hs⟩
 case buildSlice ty n ps=>exact q05a he
 case load ty x=>
  simp only [opK] at he
  split at he
  ·rename_i p hx
   obtain ⟨v,hk,hl⟩:=q03w he
   exact ⟨v,h,hk,q03x hx hl⟩
  ·rename_i p c hx
   obtain ⟨v,hk,hl⟩:=q01e (K:=fun v=>K v h) he
   exact ⟨v,h,hk,q03z hx hl⟩
  ·cases he
 case store ty x y=>
  simp only [opK] at he
  split at he
  ·rename_i p hx
   obtain ⟨hb,hk⟩:=q008 he
   simp only [Bool.and_eq_true,Nat.blt_eq] at hb
   obtain ⟨v',h1,hk,hci,hg⟩:=q04w hk
   obtain ⟨h',hk,hs⟩:=q02h (P:=P) (by rw [hci];exact Nat.eq_of_beq_eq_true hb.1) hb.2 hk
   exact ⟨.undef,h',hk,q03y hx hg hs⟩
  ·rename_i p c hx
   obtain ⟨hb,hk⟩:=q008 he
   obtain ⟨h',hk,hs⟩:=q02j (P:=P) (Nat.eq_of_beq_eq_true hb) hk
   exact ⟨.undef,h',hk,q040 hx hs⟩
  ·cases he
 case nilCheck x=>
  simp only [opK] at he
  split at he
  ·rename_i p hx
   exact ⟨_,_,he,q044 hx⟩
  ·rename_i f caps hx
   exact ⟨_,_,he,q045 hx⟩
  ·cases he
 case makeFunc fn first caps=>
  simp only [opK] at he
  split at he
  ·obtain ⟨hb,hk⟩:=q008 he
   exact ⟨_,_,hk,q048 hb⟩
  ·cases he
 case makeSlice ty l c=>exact q05b he
 case slice ty x lo hi mx=>
  simp only [opK] at he
  obtain ⟨hb,hk⟩:=q008 he
  obtain ⟨v,hk,hs⟩:=q04l (P:=P) (ro:=ro) (fun hm=>by simpa [hm] using hb) hk
  exact ⟨v,h,hk,hs⟩
 case fieldAddr ty x f=>
  simp only [opK] at he
  obtain ⟨v,hk,hs⟩:=q04f (P:=P) (ro:=ro) he
  exact ⟨v,h,hk,hs⟩
 case indexAddr ty x i=>
  simp only [opK] at he
  obtain ⟨v,hk,hs⟩:=q04g (P:=P) (ro:=ro) he
  exact ⟨v,h,hk,hs⟩
 case call c=>
  obtain ⟨callee,args,ats⟩:=c
  simp only [opK] at he
  split at he
  ·split at he
   ·rename_i f g caps hf
    exact q06v hcall hf he
   ·cases he
  ·rename_i b
   split at he
   ·rename_i x t' hargs hats
    obtain ⟨y,hy,rfl⟩:∃ y,args=#[y]∧evalO t y=x:=by
     obtain ⟨l⟩:=args
     simp only [List.map_eq_singleton_iff] at hargs
     obtain ⟨y,e1,e2⟩:=hargs
     exact ⟨y,by rw [e1],e2⟩
    have hat:ats=#[t']:=by
     obtain ⟨l⟩:=ats
     simp only at hats
     rw [hats]
    subst hy hat
    obtain ⟨v,hk,hs⟩:=q05d (P:=P) (ro:=ro) (h:=h) rfl he
    exact ⟨v,h,hk,hs⟩
   ·rename_i s x t' t'' hargs hats
    rcases q007 he with ⟨hb,hk⟩ | ⟨_,hk⟩
    rotate_left
    ·obtain ⟨y,z,hy,rfl,rfl⟩:∃ y z,args=#[y,z]∧evalO t y=s∧evalO t z=x:=by
      obtain ⟨l⟩:=args
      obtain ⟨y,z,e1,e2⟩:=q06t hargs
      exact ⟨y,z,congrArg Array.mk e1,e2⟩
     have hat:ats=#[t',t'']:=by
      obtain ⟨l⟩:=ats
      simp only at hats
      rw [hats]
     subst hy hat
     exact q05z rfl hk
    have:=Nat.eq_of_beq_eq_true hb
    subst this
    obtain ⟨y,z,hy,rfl,rfl⟩:∃ y z,args=#[y,z]∧evalO t y=s∧evalO t z=x:=by
     obtain ⟨l⟩:=args
     obtain ⟨y,z,e1,e2⟩:=q06t hargs
     exact ⟨y,z,congrArg Array.mk e1,e2⟩
    have hat:ats=#[t',t']:=by
     obtain ⟨l⟩:=ats
     simp only at hats
     rw [hats]
    subst hy hat
    exact q05x rfl hk
   ·rename_i k x k' y hargs
    obtain ⟨hb,hk⟩:=q008 he
    have hkk:=q00z hb
    obtain ⟨y',z',hy,hy1,hy2⟩:∃ y' z',args=#[y',z']∧evalO t y'=.int k x∧evalO t z'=.int k' y:=by
     obtain ⟨l⟩:=args
     obtain ⟨y,z,e1,e2⟩:=q06t hargs
     exact ⟨y,z,congrArg Array.mk e1,e2⟩
    subst hy
    refine ⟨_,h,hk,q06r hy1 hy2 ?_ hkk fun ty cc w=>?_⟩
    ·cases decide (y<x)
     ·exact .inl rfl
     ·exact .inr rfl
    ·by_cases hlt:y<x<;>simp [builtin,Builtin.min_,Builtin.min2,hlt]
   ·rename_i k x k' y hargs
    obtain ⟨hb,hk⟩:=q008 he
    have hkk:=q00z hb
    obtain ⟨y',z',hy,hy1,hy2⟩:∃ y' z',args=#[y',z']∧evalO t y'=.int k x∧evalO t z'=.int k' y:=by
     obtain ⟨l⟩:=args
     obtain ⟨y,z,e1,e2⟩:=q06t hargs
     exact ⟨y,z,congrArg Array.mk e1,e2⟩
    subst hy
    refine ⟨_,h,hk,q06r hy1 hy2 ?_ hkk fun ty cc w=>?_⟩
    ·cases decide (x<y)
     ·exact .inl rfl
     ·exact .inr rfl
    ·by_cases hlt:x<y<;>simp [builtin,Builtin.max_,Builtin.max2,hlt]
   ·rename_i t' hargs hats
    split at he
    ·rename_i e hu
     obtain ⟨y,hy,hx⟩:∃ y,args=#[y]∧evalO t y=.nils:=by
      obtain ⟨l⟩:=args
      simp only [List.map_eq_singleton_iff] at hargs
      obtain ⟨y,e1,e2⟩:=hargs
      exact ⟨y,by rw [e1],e2⟩
     have hat:ats=#[t']:=by
      obtain ⟨l⟩:=ats
      simp only at hats
      rw [hats]
     subst hy hat
     exact ⟨_,h,he,q05c hu hx⟩
    ·cases he
   ·cases he
  ·cases he
 all_goals simp only [opK,reduceCtorEq] at he
theorem q06y {gv:Bool}{call:FuncId->Sum α}(hcall:CallsT P call){K:AV->Heap->Option α}(hl:isLd op=true)(he:opK P gv ro call op t h K=some r):
  ∃ v h',K v h'=some r∧OpSem P ro op t h v h'∧∀ b,b<h.length->b ∉ wroteOf op t h->h'[b]?=h[b]?:=by
 rcases q06w hl with ⟨f,args,ats,rfl,_⟩ | ⟨args,ats,rfl⟩
 ·simp only [opK] at he
  have hf:evalO t (.func f)=.func f []:=rfl
  simp only [hf] at he
  obtain ⟨v,h',hk,hs,ht⟩:=hcall _ _ _ _ _ _ he
  exact ⟨v,h',hk,q06u hf hs,by simpa [wroteOf,argsOf] using ht⟩
 ·have key:opK P gv ro call (.call ⟨.builtin .append,args,ats⟩) t h (fun v h'=>@ite _ (Only h (wroteOf (.call ⟨.builtin .append,args,ats⟩) t h) h') (Classical.propDecidable _) (K v h') none)=some r:=by
   rw [<- he]
   have hw:wroteOf (.call ⟨.builtin .append,args,ats⟩) t h=reach2 h (refsL (args.toList.map (evalO t))):=rfl
   rw [hw]
   simp only [opK]
   generalize args.toList.map (evalO t)=l
   generalize ats.toList=l2
   cases l with
   | nil=>rfl
   | cons s l=>cases l with
    | nil=>rfl
    | cons x l=>cases l with
     | cons y l=>rfl
     | nil=>cases l2 with
      | nil=>rfl
      | cons t1 l2=>cases l2 with
       | nil=>rfl
       | cons t2 l2=>cases l2 with
        | cons t3 l2=>rfl
        | nil=>exact q06c (q06l fun v h' o=>if_pos o) (q06m fun v h' o=>if_pos o)
  obtain ⟨v,h',hk,hs⟩:=q06x hcall.ok key
  by_cases ho:Only h (wroteOf (.call ⟨.builtin .append,args,ats⟩) t h) h'
  ·rw [if_pos ho] at hk
   exact ⟨v,h',hk,hs,ho⟩
  ·rw [if_neg ho] at hk
   cases hk
end
end Go.AM
