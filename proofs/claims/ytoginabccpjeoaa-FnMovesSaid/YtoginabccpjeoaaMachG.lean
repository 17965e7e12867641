/- A part of a proof about the given program: an abstract machine, what the given functions come to, and plain laws. -/
import Derived.Test.YtoginabccpjeoaaMachF
import Derived.ProofKit
import Derived.Deep.Slices
import Derived.OpenShut
set_option linter.unusedVariables false
set_option linter.unusedSimpArgs false
namespace Go.AM
inductive Pat where
 | undef
 | nils
 | int (k:IntKind)
 | intC (k:IntKind) (n:Int)
 | bool
 | boolC (b:Bool)
 | str
 | ptr (p:Place)
 | slice (p:Place) (len cap es:Nat) (ex:Bool)
 | sliceV (b s o es:Nat) (ex:Bool)
 | func (f:FuncId) (ps:List Pat)
 | ints (k:IntKind) (n:Nat)
 | intsV (k:IntKind)
 | vec (k:IntKind)
 | bools (n:Nat)
 | vals (ps:List Pat)
 | valsV
 | agg (ps:List Pat)
 | tuple (ps:List Pat)
 | recs (ks:List (Option IntKind))
 | rptr (p:Place) (c:Nat)
 | pool (k:IntKind)
 | hdr (b:Nat)
 | strs
 | sliceR (b es:Nat) (ex:Bool)
 | ptrV (b s:Nat)
 | sliceO (b s es:Nat) (ex:Bool)
inductive Var where
 | i (x:Int)
 | b (x:Bool)
 | s (x:List UInt8)
 | n (x:Nat)
 | f (g:Nat->Int)
 | g (g:Nat->Bool)
 | l (xs:List Int)
 | v (vs:List AV)
 | r (rows:List (List Int))
 | p (ids:List (Nat×Nat))
 | t (xs:List (List UInt8))
section
def samePlace (p q:Place):Bool:=Nat.beq p.b.b q.b.b&&Nat.beq p.b.r q.b.r&&Nat.beq p.s q.s&&Nat.beq p.o q.o&&Nat.beq p.n q.n
def sameB:Bool->Bool->Bool
 | true,true | false,false=>true
 | _,_=>false
def sameI:Int->Int->Bool
 | .ofNat a,.ofNat b=>Nat.beq a b
 | .negSucc a,.negSucc b=>Nat.beq a b
 | _,_=>false
def consV (x:Option (List Var))(y:Option (List Var)):Option (List Var):=match x with
 | some a=>match y with
  | some b=>some (a++b)
  | none=>none
 | none=>none
def onlyIf (b:Bool)(x:List Var):Option (List Var):=cond b (some x) none
mutual
def matchP:Pat->AV->Option (List Var)
 | .undef,v=>match v with | .undef=>some [] | _=>none
 | .nils,v=>match v with | .nils=>some [] | _=>none
 | .int k,v=>match v with | .int k' n=>onlyIf (keq k k') [.i n] | _=>none
 | .intC k m,v=>match v with | .int k' n=>onlyIf (keq k k'&&sameI m n) [] | _=>none
 | .bool,v=>match v with | .bool b=>some [.b b] | _=>none
 | .boolC c,v=>match v with | .bool b=>onlyIf (sameB c b) [] | _=>none
 | .str,v=>match v with | .str s=>some [.s s] | _=>none
 | .ptr p,v=>match v with | .ptr q=>onlyIf (samePlace p q) [] | _=>none
 | .slice p l c es ex,v=>match v with | .slice q l' c' es' ex'=>onlyIf (samePlace p q&&Nat.beq l l'&&Nat.beq c c'&&Nat.beq es es'&&sameB ex ex') [] | _=>none
 | .sliceV b s o es ex,v=>match v with | .slice q l' c' es' ex'=>onlyIf (Nat.beq b q.b.b&&Nat.beq 0 q.b.r&&Nat.beq s q.s&&Nat.beq o q.o&&Nat.beq es es'&&sameB ex ex') [.n q.n,.n l',.n c'] | _=>none
 | .func f ps,v=>match v with | .func g caps=>cond (Nat.beq f g) (matchL ps caps) none | _=>none
 | .ints k n,v=>match v with | .ints k' n' f=>onlyIf (keq k k'&&Nat.beq n n') [.f f] | _=>none
 | .intsV k,v=>match v with | .ints k' n' f=>onlyIf (keq k k') [.n n',.f f] | _=>none
 | .vec k,v=>match v with | .vec k' xs=>onlyIf (keq k k') [.l xs] | _=>none
 | .bools n,v=>match v with | .bools n' g=>onlyIf (Nat.beq n n') [.g g] | _=>none
 | .vals ps,v=>match v with | .vals vs=>matchL ps vs | _=>none
 | .valsV,v=>match v with | .vals vs=>some [.v vs] | _=>none
 | .agg ps,v=>match v with | .agg vs=>matchL ps vs | _=>none
 | .tuple ps,v=>match v with | .tuple vs=>matchL ps vs | _=>none
 | .recs ks,v=>match v with | .recs ks' xs=>onlyIf (sameCols ks ks') [.l xs] | _=>none
 | .rptr p c,v=>match v with | .rptr q d=>onlyIf (samePlace p q&&Nat.beq c d) [] | _=>none
 | .pool k,v=>match v with | .pool k' rows=>onlyIf (keq k k') [.r rows] | _=>none
 | .hdr b,v=>match v with | .hdr b' ids=>onlyIf (Nat.beq b b') [.p ids] | _=>none
 | .strs,v=>match v with | .strs xs=>some [.t xs] | _=>none
 | .sliceR b es ex,v=>match v with
  | .slice q l' c' es' ex'=>match q.b.r with
   | r+1=>onlyIf (Nat.beq b q.b.b&&Nat.beq 0 q.s&&Nat.beq es es'&&sameB ex ex') [.n r,.n q.o,.n q.n,.n l',.n c']
   | 0=>none
  | _=>none
 | .sliceO b s es ex,v=>match v with | .slice q l' c' es' ex'=>onlyIf (Nat.beq b q.b.b&&Nat.beq 0 q.b.r&&Nat.beq s q.s&&Nat.beq es es'&&sameB ex ex') [.n q.o,.n q.n,.n l',.n c'] | _=>none
 | .ptrV b s,v=>match v with | .ptr q=>onlyIf (Nat.beq b q.b.b&&Nat.beq 0 q.b.r&&Nat.beq s q.s) [.n q.o,.n q.n] | _=>none
def matchL:List Pat->List AV->Option (List Var)
 | [],vs=>match vs with | []=>some [] | _=>none
 | p::ps,vs=>match vs with | v::vs=>consV (matchP p v) (matchL ps vs) | []=>none
end
def matchH:List (List Pat)->Heap->Option (List Var)
 | [],h=>match h with | []=>some [] | _=>none
 | p::ps,h=>match h with | b::h=>consV (matchL p b) (matchH ps h) | []=>none
mutual
def buildP:Pat->List Var->AV×List Var
 | .undef,l=>(.undef,l)
 | .nils,l=>(.nils,l)
 | .int k,l=>match l with | .i n::l=>(.int k n,l) | l=>(.undef,l)
 | .intC k m,l=>(.int k m,l)
 | .bool,l=>match l with | .b b::l=>(.bool b,l) | l=>(.undef,l)
 | .boolC c,l=>(.bool c,l)
 | .str,l=>match l with | .s s::l=>(.str s,l) | l=>(.undef,l)
 | .ptr p,l=>(.ptr p,l)
 | .slice p n c es ex,l=>(.slice p n c es ex,l)
 | .sliceV b s o es ex,l=>match l with | .n n::.n l'::.n c'::l=>(.slice ⟨⟨b,0⟩,s,o,n⟩ l' c' es ex,l) | l=>(.undef,l)
 | .func f ps,l=>match buildL ps l with | (vs,l)=>(.func f vs,l)
 | .ints k n,l=>match l with | .f f::l=>(.ints k n f,l) | l=>(.undef,l)
 | .intsV k,l=>match l with | .n n::.f f::l=>(.ints k n f,l) | l=>(.undef,l)
 | .vec k,l=>match l with | .l xs::l=>(.vec k xs,l) | l=>(.undef,l)
 | .bools n,l=>match l with | .g g::l=>(.bools n g,l) | l=>(.undef,l)
 | .vals ps,l=>match buildL ps l with | (vs,l)=>(.vals vs,l)
 | .valsV,l=>match l with | .v vs::l=>(.vals vs,l) | l=>(.undef,l)
 | .agg ps,l=>match buildL ps l with | (vs,l)=>(.agg vs,l)
 | .tuple ps,l=>match buildL ps l with | (vs,l)=>(.tuple vs,l)
 | .recs ks,l=>match l with | .l xs::l=>(.recs ks xs,l) | l=>(.undef,l)
 | .rptr p c,l=>(.rptr p c,l)
 | .pool k,l=>match l with | .r rows::l=>(.pool k rows,l) | l=>(.undef,l)
 | .hdr b,l=>match l with | .p ids::l=>(.hdr b ids,l) | l=>(.undef,l)
 | .strs,l=>match l with | .t xs::l=>(.strs xs,l) | l=>(.undef,l)
 | .sliceR b es ex,l=>match l with | .n r::.n o::.n n::.n l'::.n c'::l=>(.slice ⟨⟨b,r+1⟩,0,o,n⟩ l' c' es ex,l) | l=>(.undef,l)
 | .sliceO b s es ex,l=>match l with | .n o::.n n::.n l'::.n c'::l=>(.slice ⟨⟨b,0⟩,s,o,n⟩ l' c' es ex,l) | l=>(.undef,l)
 | .ptrV b s,l=>match l with | .n o::.n n::l=>(.ptr ⟨⟨b,0⟩,s,o,n⟩,l) | l=>(.undef,l)
def buildL:List Pat->List Var->List AV×List Var
 | [],l=>([],l)
 | p::ps,l=>match buildP p l with
  | (v,l)=>match buildL ps l with
   | (vs,l)=>(v::vs,l)
end
def buildH:List (List Pat)->List Var->Heap×List Var
 | [],l=>([],l)
 | p::ps,l=>match buildL p l with
  | (v,l)=>match buildH ps l with
   | (vs,l)=>(v::vs,l)
structure SPat where
 t:List Pat
 h:List (List Pat)
def matchS (p:SPat)(s:St):Option (List Var):=consV (matchL p.t s.t) (matchH p.h s.h)
def buildS (p:SPat)(l:List Var):St:=match buildL p.t l with
 | (t,l)=>⟨t,(buildH p.h l).1⟩
theorem q0as {p q:Place}(h:samePlace p q=true):p=q:=by
 unfold samePlace at h
 simp only [Bool.and_eq_true] at h
 obtain ⟨⟨⟨⟨h0,h1⟩,h2⟩,h3⟩,h4⟩:=h
 obtain ⟨⟨p1,p2⟩,p3,p4,p5⟩:=p
 obtain ⟨⟨q1,q2⟩,q3,q4,q5⟩:=q
 simp only at h0 h1 h2 h3 h4
 rw [Nat.eq_of_beq_eq_true h0,Nat.eq_of_beq_eq_true h1,Nat.eq_of_beq_eq_true h2,Nat.eq_of_beq_eq_true h3,Nat.eq_of_beq_eq_true h4]
theorem q0at:∀ {a b:List (Option IntKind)},sameCols a b=true->a=b
 | [],[],_=>rfl
 | [],_::_,h=>by simp [sameCols] at h
 | _::_,[],h=>by simp [sameCols] at h
 | x::as,y::bs,h=>by
  simp only [sameCols] at h
  cases hc:sameCol x y with
  | false=>simp [hc] at h
  | true=>
   simp only [hc,cond_true] at h
   rw [q0at h]
   congr 1
   cases x<;>cases y<;>simp only [sameCol,Bool.false_eq_true] at hc
   ·rfl
   ·rename_i k k'
    cases k<;>cases k'<;>first | rfl | cases hc
theorem q0au {a b:Bool}(h:sameB a b=true):a=b:=by cases a<;>cases b<;>simp_all [sameB]
theorem q0av {a b:Int}(h:sameI a b=true):a=b:=by
 cases a<;>cases b<;>simp only [sameI,Bool.false_eq_true] at h
 ·rw [Nat.eq_of_beq_eq_true h]
 ·rw [Nat.eq_of_beq_eq_true h]
theorem keqP {k k':IntKind}(h:keq k k'=true):k=k':=by cases k<;>cases k'<;>first | rfl | simp [keq] at h
theorem q0aw {b:Bool}{x l:List Var}(h:onlyIf b x=some l):b=true∧x=l:=by
 cases b<;>simp [onlyIf] at h
 exact ⟨rfl,h⟩
theorem q0ax {x y:Option (List Var)}{l:List Var}(h:consV x y=some l):∃ a b,x=some a∧y=some b∧l=a++b:=by
 cases x<;>cases y<;>simp [consV] at h
 exact ⟨_,_,rfl,rfl,h.symm⟩
mutual
theorem q0ay:∀ (p:Pat) (v:AV) (l:List Var),matchP p v=some l->∀ rest,buildP p (l++rest)=(v,rest)
 | .undef,v,l,h,rest=>by cases v<;>simp only [matchP,reduceCtorEq,Option.some.injEq] at h;subst h;rfl
 | .nils,v,l,h,rest=>by cases v<;>simp only [matchP,reduceCtorEq,Option.some.injEq] at h;subst h;rfl
 | .int k,v,l,h,rest=>by
  cases v<;>simp only [matchP,reduceCtorEq] at h
  obtain ⟨h1,rfl⟩:=q0aw h
  rw [keqP h1];rfl
 | .intC k m,v,l,h,rest=>by
  cases v<;>simp only [matchP,reduceCtorEq] at h
  obtain ⟨h1,rfl⟩:=q0aw h
  simp only [Bool.and_eq_true] at h1
  rw [keqP h1.1,q0av h1.2];rfl
 | .bool,v,l,h,rest=>by cases v<;>simp only [matchP,reduceCtorEq,Option.some.injEq] at h;subst h;rfl
 | .boolC c,v,l,h,rest=>by
  cases v<;>simp only [matchP,reduceCtorEq] at h
  obtain ⟨h1,rfl⟩:=q0aw h
  rw [q0au h1];rfl
 | .str,v,l,h,rest=>by cases v<;>simp only [matchP,reduceCtorEq,Option.some.injEq] at h;subst h;rfl
 | .ptr p,v,l,h,rest=>by
  cases v<;>simp only [matchP,reduceCtorEq] at h
  obtain ⟨h1,rfl⟩:=q0aw h
  rw [q0as h1];rfl
 | .slice p n c es ex,v,l,h,rest=>by
  cases v<;>simp only [matchP,reduceCtorEq] at h
  obtain ⟨h1,rfl⟩:=q0aw h
  simp only [Bool.and_eq_true] at h1
  obtain ⟨⟨⟨⟨h1,h2⟩,h3⟩,h4⟩,h5⟩:=h1
  rw [q0as h1,Nat.eq_of_beq_eq_true h2,Nat.eq_of_beq_eq_true h3,Nat.eq_of_beq_eq_true h4,q0au h5];rfl
 | .sliceV b s o es ex,v,l,h,rest=>by
  cases v<;>simp only [matchP,reduceCtorEq] at h
  rename_i q l' c' es' ex'
  obtain ⟨⟨q1,q2⟩,q3,q4,q5⟩:=q
  obtain ⟨h1,rfl⟩:=q0aw h
  simp only [Bool.and_eq_true] at h1
  obtain ⟨⟨⟨⟨⟨h1,h0⟩,h2⟩,h3⟩,h4⟩,h5⟩:=h1
  have h0:=Nat.eq_of_beq_eq_true h0
  subst h0
  rw [Nat.eq_of_beq_eq_true h1,Nat.eq_of_beq_eq_true h2,Nat.eq_of_beq_eq_true h3,Nat.eq_of_beq_eq_true h4,q0au h5];rfl
 | .func f ps,v,l,h,rest=>by
  cases v<;>simp only [matchP,reduceCtorEq] at h
  rename_i g caps
  cases hq:Nat.beq f g with
  | false=>rw [hq] at h;cases h
  | true=>
   rw [hq] at h
   simp only [buildP]
   rw [q0az ps caps l h rest,Nat.eq_of_beq_eq_true hq]
 | .ints k n,v,l,h,rest=>by
  cases v<;>simp only [matchP,reduceCtorEq] at h
  obtain ⟨h1,rfl⟩:=q0aw h
  simp only [Bool.and_eq_true] at h1
  rw [keqP h1.1,Nat.eq_of_beq_eq_true h1.2];rfl
 | .intsV k,v,l,h,rest=>by
  cases v<;>simp only [matchP,reduceCtorEq] at h
  obtain ⟨h1,rfl⟩:=q0aw h
  rw [keqP h1];rfl
 | .vec k,v,l,h,rest=>by
  cases v<;>simp only [matchP,reduceCtorEq] at h
  obtain ⟨h1,rfl⟩:=q0aw h
  rw [keqP h1];rfl
 | .bools n,v,l,h,rest=>by
  cases v<;>simp only [matchP,reduceCtorEq] at h
  obtain ⟨h1,rfl⟩:=q0aw h
  rw [Nat.eq_of_beq_eq_true h1];rfl
 | .vals ps,v,l,h,rest=>by
  cases v<;>simp only [matchP,reduceCtorEq] at h
  simp only [buildP]
  rw [q0az ps _ l h rest]
 | .valsV,v,l,h,rest=>by cases v<;>simp only [matchP,reduceCtorEq,Option.some.injEq] at h;subst h;rfl
 | .agg ps,v,l,h,rest=>by
  cases v<;>simp only [matchP,reduceCtorEq] at h
  simp only [buildP]
  rw [q0az ps _ l h rest]
 | .tuple ps,v,l,h,rest=>by
  cases v<;>simp only [matchP,reduceCtorEq] at h
  simp only [buildP]
  rw [q0az ps _ l h rest]
 | .recs ks,v,l,h,rest=>by
  cases v<;>simp only [matchP,reduceCtorEq] at h
  obtain ⟨h1,rfl⟩:=q0aw h
  rw [q0at h1];rfl
 | .rptr p c,v,l,h,rest=>by
  cases v<;>simp only [matchP,reduceCtorEq] at h
  obtain ⟨h1,rfl⟩:=q0aw h
  simp only [Bool.and_eq_true] at h1
  rw [q0as h1.1,Nat.eq_of_beq_eq_true h1.2];rfl
 | .pool k,v,l,h,rest=>by
  cases v<;>simp only [matchP,reduceCtorEq] at h
  obtain ⟨h1,rfl⟩:=q0aw h
  rw [keqP h1];rfl
 | .hdr b,v,l,h,rest=>by
  cases v<;>simp only [matchP,reduceCtorEq] at h
  obtain ⟨h1,rfl⟩:=q0aw h
  rw [Nat.eq_of_beq_eq_true h1];rfl
 | .strs,v,l,h,rest=>by cases v<;>simp only [matchP,reduceCtorEq,Option.some.injEq] at h;subst h;rfl
 | .sliceR b es ex,v,l,h,rest=>by
  cases v<;>simp only [matchP,reduceCtorEq] at h
  rename_i q l' c' es' ex'
  obtain ⟨⟨q1,q2⟩,q3,q4,q5⟩:=q
  cases q2 with
  | zero=>cases h
  | succ r=>
   obtain ⟨h1,rfl⟩:=q0aw h
   simp only [Bool.and_eq_true] at h1
   obtain ⟨⟨⟨h1,h2⟩,h4⟩,h5⟩:=h1
   have h2:=Nat.eq_of_beq_eq_true h2
   subst h2
   rw [Nat.eq_of_beq_eq_true h1,Nat.eq_of_beq_eq_true h4,q0au h5];rfl
 | .sliceO b s es ex,v,l,h,rest=>by
  cases v<;>simp only [matchP,reduceCtorEq] at h
  rename_i q l' c' es' ex'
  obtain ⟨⟨q1,q2⟩,q3,q4,q5⟩:=q
  obtain ⟨h1,rfl⟩:=q0aw h
  simp only [Bool.and_eq_true] at h1
  obtain ⟨⟨⟨⟨h1,h0⟩,h2⟩,h4⟩,h5⟩:=h1
  have h0:=Nat.eq_of_beq_eq_true h0
  subst h0
  rw [Nat.eq_of_beq_eq_true h1,Nat.eq_of_beq_eq_true h2,Nat.eq_of_beq_eq_true h4,q0au h5];rfl
 | .ptrV b s,v,l,h,rest=>by
  cases v<;>simp only [matchP,reduceCtorEq] at h
  rename_i q
  obtain ⟨⟨q1,q2⟩,q3,q4,q5⟩:=q
  obtain ⟨h1,rfl⟩:=q0aw h
  simp only [Bool.and_eq_true] at h1
  obtain ⟨⟨h1,h0⟩,h2⟩:=h1
  have h0:=Nat.eq_of_beq_eq_true h0
  subst h0
  rw [Nat.eq_of_beq_eq_true h1,Nat.eq_of_beq_eq_true h2];rfl
theorem q0az:∀ (ps:List Pat) (vs:List AV) (l:List Var),matchL ps vs=some l->∀ rest,buildL ps (l++rest)=(vs,rest)
 | [],vs,l,h,rest=>by cases vs<;>simp only [matchL,reduceCtorEq,Option.some.injEq] at h;subst h;rfl
 | p::ps,vs,l,h,rest=>by
  cases vs with
  | nil=>simp only [matchL,reduceCtorEq] at h
  | cons v vs=>
   simp only [matchL] at h
   obtain ⟨a,b,h1,h2,rfl⟩:=q0ax h
   simp only [buildL]
   rw [List.append_assoc,q0ay p v a h1 (b++rest)]
   simp only
   rw [q0az ps vs b h2 rest]
end
theorem q0b0:∀ (ps:List (List Pat)) (h:Heap) (l:List Var),matchH ps h=some l->∀ rest,buildH ps (l++rest)=(h,rest):=by
 intro ps
 induction ps with
 | nil=>intro h l he rest;cases h<;>simp only [matchH,reduceCtorEq,Option.some.injEq] at he;subst he;rfl
 | cons p ps ih=>
  intro h l he rest
  cases h with
  | nil=>simp only [matchH,reduceCtorEq] at he
  | cons b h=>
   simp only [matchH] at he
   obtain ⟨x,y,h1,h2,rfl⟩:=q0ax he
   simp only [buildH]
   rw [List.append_assoc,q0az p b x h1 (y++rest)]
   simp only
   rw [ih h y h2 rest]
theorem q0b1 {p:SPat}{s:St}{l:List Var}(h:matchS p s=some l):buildS p l=s:=by
 obtain ⟨a,b,h1,h2,rfl⟩:=q0ax h
 unfold buildS
 rw [q0az p.t s.t a h1 b]
 simp only
 have:=q0b0 p.h s.h b h2 []
 rw [List.append_nil] at this
 rw [this]
def loopSum {α:Type}(a:LoopAnn)(ro:Nat)(p:SPat)(L:List Var->(AExit->St->Option α)->Option α):LSum α:=fun ro' st K=>
 cond (Nat.beq ro ro') (match trimSt a.head a.grow st.h.length st with
 | some s=>match matchS p s with
  | some l=>L l K
  | none=>none
 | none=>none) none
def retK {α:Type}(s:St)(K:AV->Heap->Option α):Option α:=K (s.t.getD 0 .undef) s.h
def funSum {α:Type}(ro:Nat)(p:SPat)(F:List Var->(AV->Heap->Option α)->Option α):Sum α:=fun ro' args h K=>
 cond (Nat.beq ro ro') (match matchS p ⟨args,h⟩ with
 | some l=>F l K
 | none=>none) none
end
end Go.AM
namespace Go.AM
section
variable {α:Type} {P:Program}
theorem q0b2 {c c':Code}:∀ {x:Code},c∈loopsIn x->c'∈loopsIn c->c'∈loopsIn x:=by
 intro x
 induction x with
 | seq a b iha ihb=>exact fun h1 h2=>(List.mem_append.1 h1).elim (fun h=>List.mem_append_left _ (iha h h2)) (fun h=>List.mem_append_right _ (ihb h h2))
 | cond _ a b iha ihb=>exact fun h1 h2=>(List.mem_append.1 h1).elim (fun h=>List.mem_append_left _ (iha h h2)) (fun h=>List.mem_append_right _ (ihb h h2))
 | block _ a ih=>exact fun h1 h2=>ih h1 h2
 | scope a ih=>exact fun h1 h2=>ih h1 h2
 | loop a ih=>
  intro h1 h2
  rcases List.mem_cons.1 h1 with rfl | h
  ·exact List.mem_cons_of_mem _ h2
  ·exact List.mem_cons_of_mem _ (ih h h2)
 | _=>intro h1;simp [loopsIn] at h1
theorem q0b3 {c y:Code}:∀ {x:Code},c∈loopsIn x->y∈tailsIn c->y∈tailsIn x:=by
 intro x
 induction x with
 | seq a b iha ihb=>exact fun h1 h2=>List.mem_cons_of_mem _ ((List.mem_append.1 h1).elim (fun h=>List.mem_append_left _ (iha h h2)) (fun h=>List.mem_append_right _ (ihb h h2)))
 | cond _ a b iha ihb=>exact fun h1 h2=>(List.mem_append.1 h1).elim (fun h=>List.mem_append_left _ (iha h h2)) (fun h=>List.mem_append_right _ (ihb h h2))
 | block _ a ih=>exact fun h1 h2=>ih h1 h2
 | scope a ih=>exact fun h1 h2=>ih h1 h2
 | loop a ih=>
  intro h1 h2
  rcases List.mem_cons.1 h1 with rfl | h
  ·exact h2
  ·exact ih h h2
 | _=>intro h1;simp [loopsIn] at h1
theorem q0b4 {y:Code}:∀ {x:Code},y∈tailsIn x->(∀ c,c∈loopsIn y->c∈loopsIn x)∧∀ q,q∈tailsIn y->q∈tailsIn x:=by
 intro x
 induction x with
 | seq a b iha ihb=>
  intro h
  rcases List.mem_cons.1 h with rfl | h
  ·exact ⟨fun c hc=>List.mem_append_right _ hc,fun q hq=>List.mem_cons_of_mem _ (List.mem_append_right _ hq)⟩
  ·rcases List.mem_append.1 h with h | h
   ·exact ⟨fun c hc=>List.mem_append_left _ ((iha h).1 c hc),fun q hq=>List.mem_cons_of_mem _ (List.mem_append_left _ ((iha h).2 q hq))⟩
   ·exact ⟨fun c hc=>List.mem_append_right _ ((ihb h).1 c hc),fun q hq=>List.mem_cons_of_mem _ (List.mem_append_right _ ((ihb h).2 q hq))⟩
 | cond _ a b iha ihb=>
  intro h
  rcases List.mem_append.1 h with h | h
  ·exact ⟨fun c hc=>List.mem_append_left _ ((iha h).1 c hc),fun q hq=>List.mem_append_left _ ((iha h).2 q hq)⟩
  ·exact ⟨fun c hc=>List.mem_append_right _ ((ihb h).1 c hc),fun q hq=>List.mem_append_right _ ((ihb h).2 q hq)⟩
 | block _ a ih=>exact fun h=>ih h
 | scope a ih=>exact fun h=>ih h
 | loop a ih=>exact fun h=>⟨fun c hc=>List.mem_cons_of_mem _ ((ih h).1 c hc),(ih h).2⟩
 | _=>intro h1;simp [tailsIn] at h1
theorem q0b5 {fn:Func}{y c:Code}(h1:y∈tailsOf fn)(h2:c∈loopsIn y):c∈loopsOf fn:=by
 unfold tailsOf at h1
 unfold loopsOf
 split at h1
 ·exact (q0b4 h1).1 c h2
 ·simp at h1
theorem q0b6 {fn:Func}{y q:Code}(h1:y∈tailsOf fn)(h2:q∈tailsIn y):q∈tailsOf fn:=by
 unfold tailsOf at h1 ⊢
 split at h1
 ·exact (q0b4 h1).2 q h2
 ·simp at h1
theorem q0b7 {fn:Func}{c c':Code}(h1:c∈loopsOf fn)(h2:c'∈loopsIn c):c'∈loopsOf fn:=by
 unfold loopsOf at h1 ⊢
 split at h1
 ·exact q0b2 h1 h2
 ·simp at h1
theorem q0b8 {fn:Func}{c y:Code}(h1:c∈loopsOf fn)(h2:y∈tailsIn c):y∈tailsOf fn:=by
 unfold loopsOf at h1
 unfold tailsOf
 split at h1
 ·exact q0b3 h1 h2
 ·simp at h1
theorem EnvOk.base {ann:FuncId->Nat->LoopAnn}{lf:Nat}:EnvOk P (Env.base (α:=α) ann lf):=
 ⟨fun _ _ _ h=>by simp [Env.base] at h,fun _ _ _ _ _ _ h=>by simp [Env.base] at h,fun _ _ _ _ _ _ h=>by simp [Env.base] at h⟩
theorem EnvOk.addSum {E:Env α}(hE:EnvOk P E){f:FuncId}{q:Bool}{s:Sum α}(hs:∀ (ro:Nat) (args:List AV) (h:Heap) (K:AV->Heap->Option α) (r:α),s ro args h K=some r->∃ v h',K v h'=some r∧CallSem P ro f args h v h'):
  EnvOk P (E.addSum f q s):=by
 refine ⟨fun g q' s' he=>?_,hE.ls,hE.cs⟩
 simp only [Env.addSum] at he
 cases hb:Nat.beq g f with
 | true=>
  rw [hb] at he
  simp only [cond_true,Option.some.injEq,Prod.mk.injEq] at he
  obtain ⟨rfl,rfl⟩:=he
  rw [Nat.eq_of_beq_eq_true hb]
  exact hs
 | false=>rw [hb] at he;exact hE.sums g q' s' he
theorem EnvOk.addLoop {E:Env α}(hE:EnvOk P E){f:FuncId}{fn:Func}(hf:P.funcs[f]?=some fn){i:Nat}(hi:(loopsOf fn).filter (fun c=>Nat.beq (firstRegion c) i)=[loopOf fn i]){s:LSum α}(hs:LoopOk P s (loopOf fn i))(hlt:Nat.blt i 1000000=true):
  EnvOk P (E.addLoop f i s):=by
 refine ⟨hE.sums,fun g fn' hg c hc s' he=>?_,fun g fn' hg y hy s' he=>?_⟩
 rotate_left
 ·simp only [Env.addLoop] at he
  cases hb:(Nat.beq g f&&Nat.beq (cutKey y) i) with
  | true=>
   simp only [Bool.and_eq_true] at hb
   have h1:=Nat.eq_of_beq_eq_true hb.2
   rw [Nat.blt_eq] at hlt
   unfold cutKey at h1
   omega
  | false=>rw [hb] at he;exact hE.cs g fn' hg y hy s' he
 simp only [Env.addLoop] at he
 cases hb:(Nat.beq g f&&Nat.beq (firstRegion c) i) with
 | true=>
  rw [hb] at he
  simp only [cond_true,Option.some.injEq] at he
  subst he
  simp only [Bool.and_eq_true] at hb
  have:=Nat.eq_of_beq_eq_true hb.1
  subst this
  rw [hf] at hg
  cases hg
  have:c∈(loopsOf fn).filter (fun c=>Nat.beq (firstRegion c) i):=List.mem_filter.2 ⟨hc,hb.2⟩
  rw [hi] at this
  rw [List.mem_singleton.1 this]
  exact hs
 | false=>rw [hb] at he;exact hE.ls g fn' hg c hc s' he
theorem q0b9 (l:List Var)(ps:List (List Pat)):(buildH ps l).1.length=ps.length:=by
 induction ps generalizing l with
 | nil=>rfl
 | cons p ps ih=>simp only [buildH,List.length_cons,ih]
theorem q0ba (hm:P.follows .mixedOrders=true)(hnames:NamesOk P){E:Env α}(hE:EnvOk P E){f:FuncId}{fn:Func}(hf:P.funcs[f]?=some fn){i:Nat}
  (hi:(loopsOf fn).filter (fun c=>Nat.beq (firstRegion c) i)=[loopOf fn i]) {d ro:Nat} {p:SPat} {L:List Var->(AExit->St->Option α)->Option α}
  (hL:∀ l K r,L l K=some r->loopN (trimSt (E.ann f i).head (E.ann f i).grow p.h.length) (bodyK P E d ro f fn i) E.lf (buildS p l) (leaveLoop (E.ann f i) p.h.length K)=some r):
  LoopOk P (loopSum (E.ann f i) ro p L) (loopOf fn i):=by
 intro ro' st K r he
 unfold loopSum at he
 cases hb:Nat.beq ro ro' with
 | false=>rw [hb] at he;cases he
 | true=>
  rw [hb] at he
  have:=Nat.eq_of_beq_eq_true hb
  subst this
  simp only [cond_true] at he
  split at he
  ·rename_i s hs
   split at he
   ·rename_i l hl
    have hbs:=q0b1 hl
    have hlen:st.h.length=p.h.length:=by
     have h1:s.h.length=p.h.length:=by
      rw [<- hbs]
      unfold buildS
      simp only
      exact q0b9 _ _
     have h2:s.h.length=st.h.length:=by
      unfold trimSt at hs
      simp only [q07l,q07o,List.take_length] at hs
      cases hq:(Nat.beq st.h.length st.h.length||(allB (refsBelow st.h.length) (keepT (E.ann f i).head (E.ann f i).grow 0 st.t)&&allB (fun b=>allB (refsBelow st.h.length) b) st.h)) with
      | false=>rw [hq] at hs;cases hs
      | true=>rw [hq] at hs;simp only [cond_true,Option.some.injEq] at hs;rw [<- hs]
     omega
    have h3:=hL l K r he
    rw [hbs,<- hlen] at h3
    have hmem:loopOf fn i∈loopsOf fn:=by
     have:loopOf fn i∈(loopsOf fn).filter (fun c=>Nat.beq (firstRegion c) i):=by rw [hi];simp
     exact (List.mem_filter.1 this).1
    refine q09k (fun st K=>q09l (q0aq hE (q0ar hm hnames hE d)) hm _ ⟨fun c' hc' s hs=>hE.ls f fn hf c' (q0b7 hmem hc') s hs,fun y hy s hs=>hE.cs f fn hf y (q0b8 hmem hy) s hs⟩ st K) hs h3
   ·cases he
  ·cases he
theorem q0bb (hm:P.follows .mixedOrders=true)(hnames:NamesOk P){E:Env α}(hE:EnvOk P E){f:FuncId}{d ro:Nat}{p:SPat}{F:List Var->(AV->Heap->Option α)->Option α}
  (hF:∀ l K r,F l K=some r->callK P E d f ro (buildS p l).t (buildS p l).h K=some r):
  ∀ (ro':Nat) (args:List AV) (h:Heap) (K:AV->Heap->Option α) (r:α),funSum ro p F ro' args h K=some r->∃ v h',K v h'=some r∧CallSem P ro' f args h v h':=by
 intro ro' args h K r he
 unfold funSum at he
 cases hb:Nat.beq ro ro' with
 | false=>rw [hb] at he;cases he
 | true=>
  rw [hb] at he
  have:=Nat.eq_of_beq_eq_true hb
  subst this
  simp only [cond_true] at he
  split at he
  ·rename_i l hl
   have hbs:=q0b1 hl
   have h1:=hF l K r he
   rw [hbs] at h1
   exact q0ar hm hnames hE d f ro args h K r h1
  ·cases he
theorem q0bc {a:LoopAnn}{body:St->(AExit->St->Option α)->Option α}{n m:Nat}{st:St}{K:AExit->St->Option α}:
  loopN (trimSt a.head a.grow n) body (m+1) st (leaveLoop a n K)=body st (fin a n (fun s=>loopN (trimSt a.head a.grow n) body m s (leaveLoop a n K)) K):=by
 rw [loopN]
 refine congrArg (body st) (funext fun e=>funext fun st'=>?_)
 cases e<;>rfl
end
end Go.AM
namespace Go.AM
open Go.ChangeShapes Go.WideShapes Go.RowKit
section
variable {P:Program}
def numAt (cs:Array Value)(i:Nat):Int:=match cs[i]? with
 | some (.int _ n)=>n
 | _=>0
end
end Go.AM
namespace Go.AM
section
variable {α:Type} {P:Program}
def Env.addAnn (E:Env α)(f:FuncId)(i:Nat)(a:LoopAnn):Env α:={ E with ann:=fun g j=>cond (Nat.beq g f&&Nat.beq j i) a (E.ann g j) }
theorem EnvOk.addAnn {E:Env α}(hE:EnvOk P E){f:FuncId}{i:Nat}{a:LoopAnn}:EnvOk P (E.addAnn f i a):=⟨hE.sums,hE.ls,hE.cs⟩
def funOr (ro:Nat)(p:SPat)(F:List Var->(AV->Heap->Option α)->Option α)(old:Option (Bool×Sum α)):Sum α:=fun ro' args h K=>
 match cond (Nat.beq ro ro') (matchS p ⟨args,h⟩) none with
 | some l=>F l K
 | none=>match old with
  | some (_,s)=>s ro' args h K
  | none=>none
def Env.addFun (E:Env α)(f:FuncId)(quiet:Bool)(ro:Nat)(p:SPat)(F:List Var->(AV->Heap->Option α)->Option α):Env α:=
 E.addSum f quiet (funOr ro p F (E.sums f))
theorem EnvOk.addFun {E:Env α}(hE:EnvOk P E)(hm:P.follows .mixedOrders=true)(hnames:NamesOk P){f:FuncId}{quiet:Bool}{d ro:Nat}{p:SPat}{F:List Var->(AV->Heap->Option α)->Option α}
  (hF:∀ l K r,F l K=some r->callK P E d f ro (buildS p l).t (buildS p l).h K=some r):EnvOk P (E.addFun f quiet ro p F):=by
 refine hE.addSum fun ro' args h K r he=>?_
 unfold funOr at he
 split at he
 ·rename_i l hl
  cases hb:Nat.beq ro ro' with
  | false=>rw [hb] at hl;cases hl
  | true=>
   rw [hb] at hl
   simp only [cond_true] at hl
   refine q0bb hm hnames hE hF ro' args h K r ?_
   unfold funSum
   rw [hb,hl]
   exact he
 ·split at he
  ·rename_i q s hs
   exact hE.sums f q s hs ro' args h K r he
  ·cases he
def loopSum2 (a:LoopAnn)(ro:Nat)(p:SPat)(L:List Var->(AExit->St->Option α)->Option α)(old:Option (LSum α)):LSum α:=fun ro' st K=>
 match (cond (Nat.beq ro ro') (match trimSt a.head a.grow st.h.length st with
  | some s=>matchS p s
  | none=>none) none) with
 | some l=>L l K
 | none=>match old with
  | some s=>s ro' st K
  | none=>none
def Env.addLoop2 (E:Env α)(f:FuncId)(i:Nat)(s:LSum α):Env α:=E.addLoop f i s
theorem EnvOk.addLoop2 {E:Env α}(hE:EnvOk P E){f:FuncId}{fn:Func}(hf:P.funcs[f]?=some fn){i:Nat}(hi:(loopsOf fn).filter (fun c=>Nat.beq (firstRegion c) i)=[loopOf fn i]){a:LoopAnn}{ro:Nat}{p:SPat}{L:List Var->(AExit->St->Option α)->Option α}
  (hs:LoopOk P (loopSum a ro p L) (loopOf fn i)) (hi2:firstRegion (loopOf fn i)=i:=by kernel_rfl) (hlt:Nat.blt i 1000000=true:=by rfl):EnvOk P (E.addLoop2 f i (loopSum2 a ro p L (E.ls f i))):=by
 refine hE.addLoop hf hi (fun ro' st K r he=>?_) hlt
 unfold loopSum2 at he
 split at he
 ·rename_i l hl
  refine hs ro' st K r ?_
  unfold loopSum
  cases hb:Nat.beq ro ro' with
  | false=>rw [hb] at hl;cases hl
  | true=>
   rw [hb] at hl
   simp only [cond_true] at hl ⊢
   cases ht:trimSt a.head a.grow st.h.length st with
   | none=>rw [ht] at hl;cases hl
   | some s=>
    rw [ht] at hl
    simp only at hl ⊢
    rw [hl]
    exact he
 ·split at he
  ·rename_i s hs'
   have hmem:loopOf fn i∈loopsOf fn:=by
    have:loopOf fn i∈(loopsOf fn).filter (fun c=>Nat.beq (firstRegion c) i):=by rw [hi];simp
    exact (List.mem_filter.1 this).1
   exact hE.ls f fn hf (loopOf fn i) hmem s (by rw [hi2];exact hs') ro' st K r he
  ·cases he
theorem EnvOk.override {E:Env α}(hE:EnvOk P E){f:FuncId}{quiet:Bool}{ro:Nat}{p:SPat}{F F':List Var->(AV->Heap->Option α)->Option α}{rest:Option (Bool×Sum α)}
  (he:E.sums f=some (quiet,funOr ro p F rest)) (hm:∀ l K r,F' l K=some r->F l K=some r):EnvOk P (E.addSum f quiet (funOr ro p F' none)):=
 hE.addSum fun ro' args h K r hr=>by
  refine hE.sums f quiet _ he ro' args h K r ?_
  unfold funOr at hr ⊢
  split at hr
  ·exact hm _ _ _ hr
  ·cases hr
end
end Go.AM
namespace Go.AM
section
variable {α:Type} {P:Program}
def giveRes (pb:Nat)(s:Sum α):Sum α:=fun ro args h K=>s ro args h fun v h'=>giveK ro pb v h' fun q h''=>K (idCell pb q) h''
def giveSlot (slot pb:Nat)(s:LSum α):LSum α:=fun ro st K=>giveK ro pb (st.t.getD slot .undef) st.h fun q h=>s ro ⟨st.t.set slot (idCell pb q),h⟩ K
def tailK (P:Program)(E:Env α)(d ro:Nat)(f:FuncId)(fn:Func)(i n:Nat)(ret:List Nat)(st:St)(K:St->Option α):Option α:=
 codeK P ro (callE E (callK P E d)) (E.ls f) (E.ann f) E.lf (tailOf fn i) st fun e s=>match e with
  | .ret=>match trimSt ret [] n s with
   | some s=>K s
   | none=>none
  | _=>none
def cutSum (n:Nat)(keep:List Nat)(ro:Nat)(p:SPat)(F:List Var->(St->Option α)->Option α):LSum α:=fun ro' st K=>
 br (Nat.beq ro ro'&&(Nat.ble ro n&&(Nat.blt n st.h.length&&(allB (refsBelow n) (keepT keep [] 0 st.t)&&allB (fun b=>allB (fun c=>Nat.blt c n) (refsL b)) (st.h.take n)))))
  (forceL (keepT keep [] 0 st.t) fun t=>forceH (st.h.take n) fun h=>match matchS p ⟨t,h⟩ with
  | some l=>F l fun s=>K .ret ⟨renL (rhoOf (List.range n) st.h.length) s.t,renH (rhoOf (List.range n) st.h.length) s.h++st.h.drop n⟩
  | none=>none) none
theorem q0bd {n:Nat}{keep ret:List Nat}{ro:Nat}{p:SPat}{F:List Var->(St->Option α)->Option α}{c:Code}{body:St->(AExit->St->Option α)->Option α}
  (hbody:∀ (st:St) (K:AExit->St->Option α) (r:α),body st K=some r->∃ ae st',K ae st'=some r∧CodeSem P ro c st ae st')
  (hF:∀ l K r,F l K=some r->body (buildS p l) (fun e s=>match e with
   | .ret=>match trimSt ret [] n s with
    | some s=>K s
    | none=>none
   | _=>none)=some r):CutOk P (cutSum n keep ro p F) c:=by
 intro ro' st K r he
 unfold cutSum at he
 obtain ⟨hb,he0⟩:=q008 he
 rw [q07l,q07o] at he0
 simp only [Bool.and_eq_true] at hb
 obtain ⟨h1,h2,h3,h4,h5⟩:=hb
 have:=Nat.eq_of_beq_eq_true h1
 subst this
 rw [Nat.ble_eq] at h2
 rw [Nat.blt_eq] at h3
 split at he0
 case h_2=>cases he0
 rename_i l hl
 have hbs:=q0b1 hl
 have hf:=hF l _ r he0
 rw [hbs] at hf
 obtain ⟨ae,st1,hk,hsem⟩:=hbody _ _ r hf
 cases ae with
 | normal=>cases hk
 | exit i=>cases hk
 | ret=>
 simp only at hk
 split at hk
 case h_2=>cases hk
 rename_i s hs
 refine ⟨.ret,_,hk,fun a w μ ht H=>?_⟩
 have hlt:∀ b∈List.range n,b<st.h.length:=fun b hb=>by have:=List.mem_range.1 hb;omega
 have hinb:∀ b∈List.range n,∀ c∈refsL (st.h.getD b []),c∈List.range n:=fun b hb c hc=>by
  have hbn:=List.mem_range.1 hb
  have hm:st.h.getD b []∈st.h.take n:=by
   refine List.mem_of_getElem? (i:=b) ?_
   rw [List.getElem?_take,if_pos hbn,List.getD_eq_getElem?_getD,List.getElem?_eq_getElem (by omega)]
   rfl
  have:=q024 (q024 h5 _ hm) c hc
  exact List.mem_range.2 (by simpa using this)
 have hid:∀ b,b<n->idxOf b (List.range n)=b:=fun b hb=>by
  have h1:=q09z (List.mem_range.2 hb)
  obtain ⟨l1,e1⟩:=List.getElem?_eq_some_iff.1 h1
  rw [List.getElem_range] at e1
  exact e1
 have hρ:∀ b,b<n->rhoOf (List.range n) st.h.length b=b:=fun b hb=>by
  rw [q0aa (by simpa using hb),List.getElem_range]
 obtain ⟨hhlen,hblk,hren,hsc⟩:=q0ah hlt hinb H.scope
 have hsm:renH (fun b=>idxOf b (List.range n)) (getAll st.h (List.range n))=st.h.take n:=by
  refine List.ext_getElem? fun i=>?_
  rw [q09n,List.getElem?_map,q0a5,List.getElem?_take]
  by_cases hi:i<n
  ·rw [if_pos hi,List.getElem?_range hi]
   simp only [Option.map_some]
   rw [List.getD_eq_getElem?_getD,List.getElem?_eq_getElem (show i<st.h.length by omega)]
   simp only [Option.getD_some]
   congr 1
   have hz:=q0a2 (σ:=fun b=>idxOf b (List.range n)) (ρ:=fun b=>b) st.h[i] fun c hc=>by
    have hm:st.h[i]∈st.h.take n:=List.mem_of_getElem? (i:=i) (by rw [List.getElem?_take,if_pos hi,List.getElem?_eq_getElem (show i<st.h.length by omega)])
    have:=q024 (q024 h5 _ hm) c hc
    exact hid c (by simpa using this)
   rw [q0ae] at hz
   exact hz
  ·rw [if_neg hi,List.getElem?_eq_none (by simpa using hi)]
   rfl
 rw [hsm] at hhlen hblk hren hsc
 rw [List.length_range] at hhlen
 have C:Canon ro ro (rhoOf (List.range n) st.h.length) st.h (st.h.take n):=by
  refine ⟨fun i hi=>?_,fun i j hi hj e=>?_,fun i hi=>hblk i (by rw [List.length_range];omega),fun j=>?_,fun i g1 g2=>?_,by omega,hsc⟩
  ·rw [hρ i (by omega)];omega
  ·rw [hρ i (by omega),hρ j (by omega)] at e;exact e
  ·have:=q0ab (bs:=List.range n) (n:=st.h.length) (j:=j)
   rw [List.length_range] at this
   rw [hhlen]
   exact this
  ·rw [hρ i (by omega)];exact g1
 have E:=C.emb (μ:=μ)
 have hsmall:=C.small H
 have hts:TR (st.h.take n) (fun b=>μ (renK (rhoOf (List.range n) st.h.length) b)) (keepT keep [] 0 st.t) a.tmps:=by
  refine ⟨by rw [q09g];exact ht.1,fun i=>?_⟩
  have h1:VR st.h μ ((keepT keep [] 0 st.t).getD i .undef) (a.tmps.getD i Go.undef):=by
   rcases q09f keep [] st.t 0 i with e | e | e
   ·rw [e];exact .undef _
   ·rw [e];exact ht.2 i
   ·rw [e];exact (ht.2 i).unex H
  have hrb:refsBelow n ((keepT keep [] 0 st.t).getD i .undef)=true:=by
   rw [List.getD_eq_getElem?_getD]
   cases hq:(keepT keep [] 0 st.t)[i]? with
   | none=>rfl
   | some v=>exact q024 h4 v (List.mem_of_getElem? hq)
  exact (h1.cut (.inr hrb)).mono ⟨fun b s L hl=>⟨L,hl,Nat.le_refl _,fun _=>⟨rfl,fun _=>by
   have hb:b.b<n:=by have:=q03i hl;omega
   show μ (renK (rhoOf (List.range n) st.h.length) b)=μ b
   unfold renK
   rw [hρ _ hb]⟩⟩⟩
 refine wp_mono (hsem a w _ hts hsmall) ?_
 rintro e a1 w1 ⟨q0,μ1,q1,q2,q3,q4⟩
 obtain ⟨u1,u2,u3,u4⟩:=q09h hs hhlen q1 q3 q4 h2
 have hrl:(renH (rhoOf (List.range n) st.h.length) s.h).length=n:=by rw [q09n,List.length_map,u4]
 obtain ⟨μ2,g1,g2,g3⟩:=C.back H (h'':=renH (rhoOf (List.range n) st.h.length) s.h++st.h.drop n) u2 u3
  (fun i hi=>by
   rw [hρ i (by omega),List.getElem?_append_left (by omega),q09n,List.getElem?_map])
  (fun b hb hne=>by
   have hbn:n<=b:=by
    rcases Nat.lt_or_ge b n with q | q
    ·exact absurd (hρ b q) (hne b (by omega))
    ·exact q
   rw [List.getElem?_append_right (by omega),hrl,List.getElem?_drop,show n+(b-n)=b by omega])
  (fun j=>by
   rw [List.getElem?_eq_none (by rw [List.length_append,List.length_drop,hrl];omega),List.getElem?_eq_none (show s.h.length<=(st.h.take n).length+j by omega)]
   rfl)
  (by rw [List.length_append,List.length_drop,hrl];omega)
 refine ⟨q0,μ2,⟨by rw [q09m,List.length_map];exact u1.1,fun i=>?_⟩,q2,g2,g3⟩
 rw [q09m,q09t]
 exact (u1.2 i).ren g1
theorem EnvOk.addCut {E:Env α}(hE:EnvOk P E)(hm:P.follows .mixedOrders=true)(hnames:NamesOk P){f:FuncId}{fn:Func}(hf:P.funcs[f]?=some fn){i:Nat}(hi:(tailsOf fn).filter (fun c=>Nat.beq (firstRegion c) i)=[tailOf fn i])(hlp:(loopsOf fn).all (fun c=>Nat.blt (firstRegion c) 1000000)=true)
  {keep ret:List Nat} {d ro n:Nat} {p:SPat} {F:List Var->(St->Option α)->Option α}
  (hF:∀ l K r,F l K=some r->tailK P E d ro f fn i n ret (buildS p l) K=some r):EnvOk P (E.addLoop f (i+1000000) (cutSum n keep ro p F)):=by
 refine ⟨hE.sums,fun g fn' hg c hc s' he=>?_,fun g fn' hg y hy s' he=>?_⟩
 ·simp only [Env.addLoop] at he
  cases hb:(Nat.beq g f&&Nat.beq (firstRegion c) (i+1000000)) with
  | true=>
   simp only [Bool.and_eq_true] at hb
   have h1:=Nat.eq_of_beq_eq_true hb.1
   have h2:=Nat.eq_of_beq_eq_true hb.2
   subst h1
   rw [hf] at hg
   cases hg
   have h3:=List.all_eq_true.1 hlp c hc
   rw [Nat.blt_eq] at h3
   omega
  | false=>rw [hb] at he;exact hE.ls g fn' hg c hc s' he
 ·simp only [Env.addLoop] at he
  cases hb:(Nat.beq g f&&Nat.beq (cutKey y) (i+1000000)) with
  | false=>rw [hb] at he;exact hE.cs g fn' hg y hy s' he
  | true=>
   rw [hb] at he
   simp only [cond_true,Option.some.injEq] at he
   subst he
   simp only [Bool.and_eq_true] at hb
   have h1:=Nat.eq_of_beq_eq_true hb.1
   have h2:=Nat.eq_of_beq_eq_true hb.2
   subst h1
   rw [hf] at hg
   cases hg
   have hy2:y=tailOf fn i:=by
    have:y∈(tailsOf fn).filter (fun c=>Nat.beq (firstRegion c) i):=List.mem_filter.2 ⟨hy,by
     unfold cutKey at h2
     have:firstRegion y=i:=by omega
     rw [this]
     exact Nat.beq_refl i⟩
    rw [hi] at this
    exact List.mem_singleton.1 this
   subst hy2
   exact q0bd (ret:=ret) (fun st K r h=>q09l (q0aq hE (q0ar hm hnames hE d)) hm _ ⟨fun c' hc' s hs=>hE.ls _ fn hf c' (q0b5 hy hc') s hs,fun y' hy' s hs=>hE.cs _ fn hf y' (q0b6 hy hy') s hs⟩ st K h) hF
def Env.hide (E:Env α)(f:FuncId):Env α:={ E with sums:=fun g=>cond (Nat.beq g f) none (E.sums g),ls:=fun g i=>cond (Nat.beq g f) none (E.ls g i) }
theorem EnvOk.hide {E:Env α}(hE:EnvOk P E){f:FuncId}:EnvOk P (E.hide f):=by
 refine ⟨fun g q s h=>?_,fun g fn hg c hc s h=>?_,fun g fn hg y hy s h=>?_⟩
 ·unfold Env.hide at h
  cases hb:Nat.beq g f with
  | true=>simp only [hb,cond_true] at h;cases h
  | false=>simp only [hb,cond_false] at h;exact hE.sums g q s h
 ·unfold Env.hide at h
  cases hb:Nat.beq g f with
  | true=>simp only [hb,cond_true] at h;cases h
  | false=>simp only [hb,cond_false] at h;exact hE.ls g fn hg c hc s h
 ·unfold Env.hide at h
  cases hb:Nat.beq g f with
  | true=>simp only [hb,cond_true] at h;cases h
  | false=>simp only [hb,cond_false] at h;exact hE.cs g fn hg y hy s h
end
end Go.AM
namespace Go.AM
section
variable {α:Type} {P:Program} {r:α} {ro:Nat} {h:Heap}
theorem HR.newNil {μ:LMap}{w:World}(H:HR ro h μ w)(k:IntKind):HR ro (h++[[.vec k []]]) (poolMap μ h.length) w∧Ext ro h μ w (h++[[.vec k []]]) (poolMap μ h.length) w:=by
 have hle:Le h μ (h++[[AV.vec k []]]) (poolMap μ h.length):=Le.pool
 have hmap:∀ b:Key,b.b<h.length->poolMap μ h.length b=μ b:=fun b hb=>q03m hb
 have hmap2:poolMap μ h.length (topK h.length)=.none:=if_pos rfl
 have hcase:∀ {b:Key} {sb:Blk},blk? (h++[[AV.vec k []]]) b=some sb->(b.b<h.length∧blk? h b=some sb)∨(b=topK h.length∧sb=[.vec k []]):=fun hb=>q03j rfl hb
 refine ⟨⟨fun b sb hb hm=>?_,fun b sb k' base room hb hm=>?_,fun b b' k' base room base' room' h1 ⟨sb,h2⟩ ⟨sb',h3⟩ h4 h5 h6=>?_,fun b sb hb i v hvi=>?_,by have:=H.rol;simp;omega⟩,
  hle,rfl,rfl,rfl,Nat.le_refl _,by simp,fun _ _ _=>rfl,fun b h1 h2=>⟨by rw [List.getElem?_append_left h2],fun r=>hmap ⟨b,r⟩ h2⟩,fun b k' base room ⟨sb,h1⟩ h2=>?_,fun _=>rfl⟩
 ·rcases hcase hb with ⟨hlt,hb⟩ | ⟨_,rfl⟩
  ·rw [hmap b hlt] at hm;exact H.nil_ b sb hb hm
  ·rfl
 ·rcases hcase hb with ⟨hlt,hb⟩ | ⟨rfl,rfl⟩
  ·rw [hmap b hlt] at hm
   obtain ⟨q1,q2,q3,q4⟩:=H.at_ b sb k' base room hb hm
   exact ⟨q1,q2,q3,fun i v hv=>(q4 i v hv).imp fun c ⟨e1,e2,e3⟩=>⟨e1,e2,e3.mono hle⟩⟩
  ·rw [hmap2] at hm;cases hm
 ·rcases hcase h2 with ⟨hlt,h2⟩ | ⟨rfl,rfl⟩
  ·rw [hmap b hlt] at h5
   rcases hcase h3 with ⟨hlt',h3⟩ | ⟨rfl,rfl⟩
   ·rw [hmap b' hlt'] at h6
    exact H.inj b b' k' base room base' room' h1 ⟨_,h2⟩ ⟨_,h3⟩ h4 h5 h6
   ·rw [hmap2] at h6;cases h6
  ·rw [hmap2] at h5;cases h5
 ·rcases hcase hb with ⟨hlt,hb⟩ | ⟨rfl,rfl⟩
  ·exact hle.inScope (H.scope b sb hb i v hvi)
  ·simp [flat,segValsOf] at hvi
 ·rcases hcase h1 with ⟨hlt,hb⟩ | ⟨rfl,rfl⟩
  ·rw [hmap b hlt] at h2
   exact .inl ⟨b,base,room,⟨_,hb⟩,h2,.inr rfl⟩
  ·rw [hmap2] at h2;cases h2
theorem q0be (k:IntKind)(es:Nat):Ghost ro h .nils (h++[[.vec k []]]) (.slice ⟨topK h.length,0,0,0⟩ 0 0 es false):=by
 intro μ w H
 obtain ⟨h1,h2⟩:=H.newNil k
 refine ⟨_,h1,h2,fun c hc=>?_⟩
 cases hc
 refine .slice _ 0 0 es false none 0 0 ?_ (Nat.le_refl _) ⟨Nat.le_refl _,fun e=>absurd e (Nat.lt_irrefl _)⟩ fun _=>⟨Nat.le_refl _,fun e=>(by cases e),.inr ⟨if_pos rfl,rfl,rfl⟩⟩
 have hb:blk? (h++[[AV.vec k []]]) (topK h.length)=some [.vec k []]:=q03e (h:=h) rfl
 simp only [segLenAt,hb]
 rfl
theorem Ghost.refl (v:AV):Ghost ro h v h v:=fun μ _ H=>⟨μ,H,.refl _ _ _ _,fun _ hc=>hc⟩
def denil0 (k:IntKind)(es:Nat)(v:AV)(h:Heap)(K:AV->Heap->Option α):Option α:=
 match v with
 | .nils=>K (.slice ⟨topK h.length,0,0,0⟩ 0 0 es false) (h++[[.vec k []]])
 | .slice p l c e true=>br (Nat.ble (p.o+mulS c e) p.n) (K (.slice p l c e false) h) none
 | v=>K v h
def denilL (k:IntKind)(es:Nat):List AV->Heap->(List AV->Heap->Option α)->Option α
 | [],h,K=>K [] h
 | v::vs,h,K=>denil0 k es v h fun v' h'=>denilL k es vs h' fun vs' h''=>K (v'::vs') h''
def denilS (k:IntKind)(es:Nat):List AV->Heap->(List AV->Heap->Option α)->Option α
 | [],h,K=>K [] h
 | s::ss,h,K=>match s with
  | .vals vs=>denilL k es vs h fun vs' h'=>denilS k es ss h' fun ss' h''=>K (.vals vs'::ss') h''
  | s=>denilS k es ss h fun ss' h'=>K (s::ss') h'
def denil1 (k:IntKind)(es:Nat)(v:AV)(h:Heap)(K:AV->Heap->Option α):Option α:=
 match v with
 | .agg ss=>denilS k es ss h fun ss' h'=>K (.agg ss') h'
 | v=>denil0 k es v h K
def denilT (k:IntKind)(es:Nat):List AV->Heap->(List AV->Heap->Option α)->Option α
 | [],h,K=>K [] h
 | v::vs,h,K=>denil1 k es v h fun v' h'=>denilT k es vs h' fun vs' h''=>K (v'::vs') h''
def denil (k:IntKind)(es:Nat)(v:AV)(h:Heap)(K:AV->Heap->Option α):Option α:=
 match v with
 | .tuple vs=>denilT k es vs h fun vs' h'=>K (.tuple vs') h'
 | v=>denil1 k es v h K
theorem q0bf {k:IntKind}{es:Nat}{v:AV}{K:AV->Heap->Option α}(he:denil0 k es v h K=some r):∃ v' h',K v' h'=some r∧Ghost ro h v h' v':=by
 unfold denil0 at he
 split at he
 ·exact ⟨_,_,he,q0be k es⟩
 ·rename_i p l c e
  rcases q007 he with ⟨hb,he⟩ | ⟨_,he⟩
  case inr=>cases he
  refine ⟨_,_,he,fun μ w H=>⟨μ,H,.refl _ _ _ _,fun x hx=>?_⟩⟩
  have:=VR.unex H hx
  unfold Go.AM.unex at this
  simp only [hb,cond_true] at this
  exact this
 ·exact ⟨_,_,he,.refl _⟩
def GhostL (ro:Nat)(h:Heap)(vs:List AV)(h':Heap)(vs':List AV):Prop:=
 vs'.length=vs.length∧∀ (μ:LMap) (w:World),HR ro h μ w->∃ μ',HR ro h' μ' w∧Ext ro h μ w h' μ' w∧∀ i c,VR h μ (vs.getD i .undef) c->VR h' μ' (vs'.getD i .undef) c
theorem GhostL.refl (vs:List AV):GhostL ro h vs h vs:=⟨rfl,fun μ _ H=>⟨μ,H,.refl _ _ _ _,fun _ _ hc=>hc⟩⟩
theorem GhostL.append {vs vs' ws ws':List AV}{h' h'':Heap}(a:GhostL ro h vs h' vs')(b:GhostL ro h' ws h'' ws'):GhostL ro h (vs++ws) h'' (vs'++ws'):=by
 refine ⟨by rw [List.length_append,List.length_append,a.1,b.1],fun μ w H=>?_⟩
 obtain ⟨μ1,H1,E1,g1⟩:=a.2 μ w H
 obtain ⟨μ2,H2,E2,g2⟩:=b.2 μ1 w H1
 refine ⟨μ2,H2,E1.trans E2,fun i c hc=>?_⟩
 rw [List.getD_eq_getElem?_getD] at hc ⊢
 rcases Nat.lt_or_ge i vs.length with q | q
 ·rw [List.getElem?_append_left q] at hc
  rw [List.getElem?_append_left (by rw [a.1];exact q),<- List.getD_eq_getElem?_getD]
  rw [<- List.getD_eq_getElem?_getD] at hc
  exact (g1 i c hc).mono E2.le
 ·rw [List.getElem?_append_right q,<- List.getD_eq_getElem?_getD] at hc
  rw [List.getElem?_append_right (by rw [a.1];exact q),a.1,<- List.getD_eq_getElem?_getD]
  exact g2 _ c (hc.mono E1.le)
theorem Ghost.toL {v v':AV}{h':Heap}(a:Ghost ro h v h' v'):GhostL ro h [v] h' [v']:=by
 refine ⟨rfl,fun μ w H=>?_⟩
 obtain ⟨μ1,H1,E1,g1⟩:=a μ w H
 refine ⟨μ1,H1,E1,fun i c hc=>?_⟩
 cases i with
 | zero=>exact g1 c hc
 | succ i=>exact .undef _
theorem q0bg {k:IntKind}{es:Nat}:∀ {vs:List AV} {h:Heap} {K:List AV->Heap->Option α},denilL k es vs h K=some r->∃ vs' h',K vs' h'=some r∧GhostL ro h vs h' vs':=by
 intro vs
 induction vs with
 | nil=>intro h K he;exact ⟨_,_,he,.refl _⟩
 | cons v vs ih=>
  intro h K he
  rw [denilL] at he
  obtain ⟨v',h',he,g1⟩:=q0bf (ro:=ro) he
  obtain ⟨vs',h'',he,g2⟩:=ih he
  exact ⟨_,_,he,g1.toL.append g2⟩
theorem q0bh {k:IntKind}{es:Nat}:∀ {ss:List AV} {h:Heap} {K:List AV->Heap->Option α},denilS k es ss h K=some r->∃ ss' h',K ss' h'=some r∧GhostL ro h (flat ss) h' (flat ss'):=by
 intro ss
 induction ss with
 | nil=>intro h K he;exact ⟨_,_,he,.refl _⟩
 | cons s ss ih=>
  intro h K he
  cases s
  case vals vs=>
   obtain ⟨vs',h',he,g1⟩:=q0bg (ro:=ro) (show denilL k es vs h _=some r from he)
   obtain ⟨ss',h'',he,g2⟩:=ih he
   refine ⟨_,_,he,?_⟩
   rw [q004,q004]
   exact g1.append g2
  all_goals
   obtain ⟨ss',h'',he,g2⟩:=ih he
   refine ⟨_,_,he,?_⟩
   rw [q004,q004]
   exact (GhostL.refl _).append g2
theorem q0bi {k:IntKind}{es:Nat}{v:AV}{K:AV->Heap->Option α}(he:denil1 k es v h K=some r):∃ v' h',K v' h'=some r∧Ghost ro h v h' v':=by
 unfold denil1 at he
 split at he
 ·obtain ⟨ss',h',he,g1,g2⟩:=q0bh (ro:=ro) he
  refine ⟨_,_,he,fun μ w H=>?_⟩
  obtain ⟨μ1,H1,E1,g3⟩:=g2 μ w H
  refine ⟨μ1,H1,E1,fun c hc=>?_⟩
  cases hc with
  | agg _ cs e1 e2=>exact .agg _ cs (by rw [g1,e1]) fun i=>g3 i _ (e2 i)
 ·exact q0bf he
theorem q0bj {k:IntKind}{es:Nat}:∀ {vs:List AV} {h:Heap} {K:List AV->Heap->Option α},denilT k es vs h K=some r->∃ vs' h',K vs' h'=some r∧GhostL ro h vs h' vs':=by
 intro vs
 induction vs with
 | nil=>intro h K he;exact ⟨_,_,he,.refl _⟩
 | cons v vs ih=>
  intro h K he
  rw [denilT] at he
  obtain ⟨v',h',he,g1⟩:=q0bi (ro:=ro) he
  obtain ⟨vs',h'',he,g2⟩:=ih he
  exact ⟨_,_,he,g1.toL.append g2⟩
theorem q0bk {k:IntKind}{es:Nat}{v:AV}{K:AV->Heap->Option α}(he:denil k es v h K=some r):∃ v' h',K v' h'=some r∧Ghost ro h v h' v':=by
 unfold denil at he
 split at he
 ·obtain ⟨ss',h',he,g1,g2⟩:=q0bj (ro:=ro) he
  refine ⟨_,_,he,fun μ w H=>?_⟩
  obtain ⟨μ1,H1,E1,g3⟩:=g2 μ w H
  refine ⟨μ1,H1,E1,fun c hc=>?_⟩
  cases hc with
  | tuple _ cs e1 e2=>exact .tuple _ cs (by rw [g1,e1]) fun i=>g3 i _ (e2 i)
 ·exact q0bi he
def normRes (k:IntKind)(es:Nat)(s:Sum α):Sum α:=fun ro args h K=>s ro args h fun v h'=>denil k es v h' K
theorem q0bl {k:IntKind}{es:Nat}{f:FuncId}{s:Sum α}(hs:∀ (ro:Nat) (args:List AV) (h:Heap) (K:AV->Heap->Option α) (r:α),s ro args h K=some r->∃ v h',K v h'=some r∧CallSem P ro f args h v h'):
  ∀ (ro:Nat) (args:List AV) (h:Heap) (K:AV->Heap->Option α) (r:α),normRes k es s ro args h K=some r->∃ v h',K v h'=some r∧CallSem P ro f args h v h':=by
 intro ro args h K r he
 obtain ⟨v,h',hk,hf,hc⟩:=hs _ _ _ _ _ he
 obtain ⟨q,h'',hk2,hg⟩:=q0bk (ro:=ro) hk
 refine ⟨_,_,hk2,hf,fun μ w cs h1 h2 h3=>(hc μ w cs h1 h2 h3).mono ?_⟩
 rintro e w' ⟨c,rfl,μ',v1,v2,v3⟩
 obtain ⟨μ'',g1,g2,g3⟩:=hg μ' w' v2
 exact ⟨c,rfl,μ'',g3 c v1,g1,v3.trans g2⟩
theorem EnvOk.addFunN {E:Env α}(hE:EnvOk P E)(hm:P.follows .mixedOrders=true)(hnames:NamesOk P){f:FuncId}{quiet:Bool}{d ro es:Nat}{k:IntKind}{p:SPat}{F:List Var->(AV->Heap->Option α)->Option α}
  (hF:∀ l K r,F l K=some r->normRes k es (callK P E d f) ro (buildS p l).t (buildS p l).h K=some r):EnvOk P (E.addFun f quiet ro p F):=by
 refine hE.addSum fun ro' args h K r he=>?_
 unfold funOr at he
 split at he
 ·rename_i l hl
  cases hb:Nat.beq ro ro' with
  | false=>rw [hb] at hl;cases hl
  | true=>
   rw [hb] at hl
   have:=Nat.eq_of_beq_eq_true hb
   subst this
   simp only [cond_true] at hl
   have hbs:=q0b1 hl
   have h3:=hF l K r he
   rw [hbs] at h3
   exact q0bl (fun ro args h K r he=>q0ar hm hnames hE d f ro args h K r he) _ _ _ _ _ h3
 ·split at he
  ·rename_i q s hs
   exact hE.sums f q s hs ro' args h K r he
  ·cases he
def unexS:AV->AV
 | .vals vs=>.vals (vs.map unex)
 | s=>s
theorem q0bm (s:AV):segLen (unexS s)=segLen s:=by cases s<;>simp [unexS,segLen]
theorem q0bn (ss:List AV):lenOf (ss.map unexS)=lenOf ss:=by
 unfold lenOf
 rw [List.map_map]
 congr 1
 exact List.map_congr_left fun s _=>q0bm s
theorem q0bo (ss:List AV){i:Nat}{v':AV}(h:(flat (ss.map unexS))[i]?=some v'):∃ v,(flat ss)[i]?=some v∧(v'=v∨v'=unex v):=by
 induction ss generalizing i with
 | nil=>simp [flat] at h
 | cons s ss ih=>
  rw [List.map_cons,q004] at h
  rw [q004]
  have hl:(segVals (unexS s)).length=(segVals s).length:=by rw [q001,q001,q0bm]
  rcases Nat.lt_or_ge i (segVals s).length with q | q
  ·rw [List.getElem?_append_left (by omega)] at h
   rw [List.getElem?_append_left q]
   cases s
   case vals vs=>
    have h:(vs.map unex)[i]?=some v':=h
    rw [List.getElem?_map] at h
    cases hv:vs[i]? with
    | none=>rw [hv] at h;cases h
    | some v=>rw [hv] at h;cases h;exact ⟨v,hv,.inr rfl⟩
   all_goals exact ⟨v',h,.inl rfl⟩
  ·rw [List.getElem?_append_right (by omega),hl] at h
   rw [List.getElem?_append_right q]
   exact ih h
theorem q0bp (ss:Blk):isPool (ss.map unexS)=isPool ss:=by
 cases ss with
 | nil=>rfl
 | cons s t=>cases t with
  | nil=>cases s<;>rfl
  | cons s' t=>cases s<;>cases s'<;>rfl
def unexH (b:Nat)(h:Heap):Heap:=h.set b ((h.getD b []).map unexS)
theorem q0bq {b:Nat}(h:Heap)(x:Nat):(unexH b h)[x]?=if x=b then (h[x]?).map (List.map unexS) else h[x]?:=by
 unfold unexH
 rw [List.getElem?_set]
 by_cases e:x=b
 ·subst e
  rw [if_pos rfl,if_pos rfl,List.getD_eq_getElem?_getD]
  by_cases q:x<h.length
  ·rw [if_pos q,List.getElem?_eq_getElem q];rfl
  ·rw [if_neg q,List.getElem?_eq_none (by omega)];rfl
 ·rw [if_neg (fun q=>e q.symm),if_neg e]
theorem q0br {b:Nat}{κ:Key}{x:Blk}(hx:blk? h κ=some x):∃ x',blk? (unexH b h) κ=some x'∧(x'=x∨x'=x.map unexS):=by
 by_cases e:κ.b=b
 ·rcases q00i hx with ⟨h0,h1,h2⟩ | ⟨r,k,rows,xs,h0,h1,h2,rfl⟩
  ·refine ⟨x.map unexS,?_,.inr rfl⟩
   have hr:(unexH b h)[κ.b]?=some (x.map unexS):=by rw [q0bq,if_pos e,h1];rfl
   unfold blk?
   rw [h0]
   simp only [hr,q0bp,h2,cond_false]
  ·refine ⟨_,?_,.inl rfl⟩
   have hr:(unexH b h)[κ.b]?=some [.pool k rows]:=by rw [q0bq,if_pos e,h1];rfl
   rw [<- hx]
   exact q00k rfl (hr.trans h1.symm)
 ·exact ⟨x,by rw [<- hx];exact q00k rfl (by rw [q0bq,if_neg e]),.inl rfl⟩
theorem q0bs {b:Nat}{κ:Key}{x':Blk}(hx:blk? (unexH b h) κ=some x'):∃ x,blk? h κ=some x∧(x'=x∨x'=x.map unexS):=by
 cases hb:blk? h κ with
 | some x=>
  obtain ⟨y,h1,h2⟩:=q0br (b:=b) hb
  rw [hx] at h1;cases h1
  exact ⟨x,rfl,h2⟩
 | none=>
  exfalso
  by_cases e:κ.b=b
  ·rcases q00i hx with ⟨h0,h1,h2⟩ | ⟨r,k,rows,xs,h0,h1,h2,rfl⟩
   ·rw [q0bq,if_pos e] at h1
    cases hq:h[κ.b]? with
    | none=>rw [hq] at h1;cases h1
    | some y=>
     rw [hq] at h1;cases h1
     rw [q0bp] at h2
     unfold blk? at hb
     rw [h0] at hb
     simp only [hq,h2,cond_false] at hb
     cases hb
   ·rw [q0bq,if_pos e] at h1
    cases hq:h[κ.b]? with
    | none=>rw [hq] at h1;cases h1
    | some y=>
     rw [hq] at h1
     have hy:y.map unexS=[.pool k rows]:=Option.some.inj h1
     have hy2:y=[.pool k rows]:=by
      cases y with
      | nil=>cases hy
      | cons s t=>
       cases t with
       | cons s' t=>simp at hy
       | nil=>cases s<;>simp [unexS] at hy ⊢;exact hy
     subst hy2
     have:blk? h κ=some [.vec k xs]:=by
      rw [<- hx]
      exact q00k rfl (by rw [q0bq,if_pos e,hq];rfl)
     rw [hb] at this;cases this
  ·rw [show blk? (unexH b h) κ=blk? h κ from q00k rfl (by rw [q0bq,if_neg e]),hb] at hx
   cases hx
theorem q0bt (b:Nat)(μ:LMap):Le h μ (unexH b h) μ:=⟨fun κ s L hl=>by
 obtain ⟨x,hx,hs,hL⟩:=q00m hl
 obtain ⟨x',hx',hc⟩:=q0br (b:=b) hx
 have e1:segLenAt (unexH b h) κ s=some L:=by
  unfold segLenAt
  rw [hx']
  rcases hc with rfl | rfl
  ·simp [hs,hL]
  ·simp [hs,q0bm,hL]
 refine ⟨L,e1,Nat.le_refl _,fun _=>⟨?_,fun _=>rfl⟩⟩
 rw [q00n hx',q00n hx]
 rcases hc with rfl | rfl
 ·rfl
 ·rw [<- List.map_take,q0bn]⟩
theorem q0bu {b:Nat}(hro:ro<=b){μ:LMap}{w:World}(H:HR ro h μ w):HR ro (unexH b h) μ w∧Ext ro h μ w (unexH b h) μ w:=by
 have hle:Le h μ (unexH b h) μ:=q0bt b μ
 have hhas:∀ {κ:Key},has (unexH b h) κ->has h κ:=fun ⟨x,hx⟩=>by obtain ⟨y,hy,_⟩:=q0bs hx;exact ⟨y,hy⟩
 have hlen:(unexH b h).length=h.length:=by unfold unexH;simp
 have hflat:∀ {x x':Blk},(x'=x∨x'=x.map unexS)->(flat x').length=(flat x).length∧∀ {i:Nat} {v':AV},(flat x')[i]?=some v'->∃ v,(flat x)[i]?=some v∧(v'=v∨v'=unex v):=fun {x x'} hc=>by
  rcases hc with rfl | rfl
  ·exact ⟨rfl,fun h=>⟨_,h,.inl rfl⟩⟩
  ·exact ⟨by rw [q002,q002,q0bn],fun h=>q0bo x h⟩
 refine ⟨⟨fun κ x' hb hm=>?_,fun κ x' k' base room hb hm=>?_,fun κ κ' k' base room base' room' h1 h2 h3 h4 h5=>H.inj κ κ' k' base room base' room' h1 (hhas h2) (hhas h3) h4 h5,fun κ x' hb i v' hvi=>?_,by rw [hlen];exact H.rol⟩,
  hle,rfl,rfl,rfl,Nat.le_refl _,by rw [hlen];exact Nat.le_refl _,fun _ _ _=>rfl,fun x h1 _=>⟨by rw [q0bq,if_neg (by omega)],fun _=>rfl⟩,fun κ k' base room h1 h2=>.inl ⟨κ,base,room,hhas h1,h2,.inr rfl⟩,fun _=>rfl⟩
 ·obtain ⟨x,hx,hc⟩:=q0bs hb
  have:=H.nil_ κ x hx hm
  have hl:=(hflat hc).1
  rw [this] at hl
  exact List.length_eq_zero_iff.1 hl
 ·obtain ⟨x,hx,hc⟩:=q0bs hb
  obtain ⟨q1,q2,q3,q4⟩:=H.at_ κ x k' base room hx hm
  refine ⟨q1,by rw [(hflat hc).1];exact q2,q3,fun i v' hv'=>?_⟩
  obtain ⟨v,hv,e⟩:=(hflat hc).2 hv'
  obtain ⟨c,e1,e2,e3⟩:=q4 i v hv
  refine ⟨c,e1,e2,?_⟩
  rcases e with rfl | rfl
  ·exact e3.mono hle
  ·exact (VR.unex H e3).mono hle
 ·obtain ⟨x,hx,hc⟩:=q0bs hb
  obtain ⟨v,hv,e⟩:=(hflat hc).2 hvi
  have sc:=H.scope κ x hx i v hv
  refine hle.inScope ?_
  rcases e with rfl | rfl
  ·exact sc
  ·unfold Go.AM.unex
   split
   ·cases hq:Nat.ble _ _ with
    | false=>exact .undef
    | true=>
     cases sc with
     | slice _ _ _ _ _ L g1 g2=>exact .slice _ _ _ _ _ L g1 g2
   ·exact sc
def unexBlk (b:Nat)(s:LSum α):LSum α:=fun ro st K=>cond (Nat.ble ro b) (s ro ⟨st.t,unexH b st.h⟩ K) none
theorem q0bv {b:Nat}{s:LSum α}{c:Code}(hs:LoopOk P s c):LoopOk P (unexBlk b s) c:=by
 intro ro st K r he
 unfold unexBlk at he
 cases hb:Nat.ble ro b with
 | false=>rw [hb] at he;cases he
 | true=>
  rw [hb,cond_true] at he
  rw [Nat.ble_eq] at hb
  obtain ⟨ae,st',hk2,hsem⟩:=hs _ _ _ _ he
  refine ⟨ae,st',hk2,fun a w μ ht H b' k cs=>?_⟩
  obtain ⟨g1,g2⟩:=q0bu hb H
  have ht':TR (unexH b st.h) μ st.t a.tmps:=⟨ht.1,fun i=>(ht.2 i).mono g2.le⟩
  obtain ⟨e,a1,w1,⟨q0,μ1,q1,q2,q3,q4⟩,harr⟩:=hsem a w μ ht' g1 b' k cs
  exact ⟨e,a1,w1,⟨q0,μ1,q1,q2,q3,g2.trans q4⟩,harr⟩
theorem EnvOk.addUnex {E:Env α}(hE:EnvOk P E){f:FuncId}{fn:Func}(hf:P.funcs[f]?=some fn){i:Nat}(hi:(loopsOf fn).filter (fun c=>Nat.beq (firstRegion c) i)=[loopOf fn i]){a:LoopAnn}{ro b:Nat}{p:SPat}{L:List Var->(AExit->St->Option α)->Option α}
  (hs:LoopOk P (loopSum a ro p L) (loopOf fn i)) (hlt:Nat.blt i 1000000=true:=by rfl):EnvOk P (E.addLoop2 f i (unexBlk b (loopSum2 a ro p L none))):=by
 refine hE.addLoop hf hi (q0bv fun ro' st K r he=>?_) hlt
 unfold loopSum2 at he
 split at he
 ·rename_i l hl
  refine hs ro' st K r ?_
  unfold loopSum
  cases hb:Nat.beq ro ro' with
  | false=>rw [hb] at hl;cases hl
  | true=>
   rw [hb] at hl
   simp only [cond_true] at hl ⊢
   cases ht:trimSt a.head a.grow st.h.length st with
   | none=>rw [ht] at hl;cases hl
   | some s=>
    rw [ht] at hl
    simp only at hl ⊢
    rw [hl]
    exact he
 ·cases he
end
end Go.AM
namespace Go.AM
open Go.ChangeShapes Go.WideShapes Go.RowKit
section
variable {P:Program}
inductive Seg where
 | one (ks:List IntKind)
 | many (k:IntKind) (n:Nat)
def Seg.kinds:Seg->List IntKind
 | .one ks=>ks
 | .many k n=>List.replicate n k
def onesAV (cs:Array Value):Nat->List IntKind->List AV
 | _,[]=>[]
 | o,k::ks=>.int k (numAt cs o)::onesAV cs (o+1) ks
def segAV (cs:Array Value):Nat->List Seg->List AV
 | _,[]=>[]
 | o,.one ks::r=>.vals (onesAV cs o ks)::segAV cs (o+ks.length) r
 | o,.many k n::r=>.ints k n (fun j=>numAt cs (o+j))::segAV cs (o+n) r
def isKind (P:Program)(u:TypeId)(k:IntKind):Bool:=match P.underlying u with
 | some (.int k')=>keq k k'
 | _=>false
def kindsB (P:Program):List TypeId->List IntKind->Bool
 | [],[]=>true
 | u::ts,k::ks=>isKind P u k&&kindsB P ts ks
 | _,_=>false
structure AggIn (P:Program) (W:World) (base:Nat) (t:TypeId) (ss:List Seg) (v:Value) (cs:Array Value):Prop where
 eq:v=.agg cs
 rel:VR [] (fun _=>.absent) (.agg (segAV cs 0 ss)) (.agg cs)
 fit:∀ (i:Nat) (k:IntKind),(ss.flatMap Seg.kinds)[i]?=some k->fits k (numAt cs i)=true
def typesB (P:Program)(t:TypeId)(ss:List Seg):Bool:=match P.cellTypes P.depth t with
 | some ts=>Nat.beq (P.cellsOf t) ts.length&&kindsB P ts (ss.flatMap Seg.kinds)
 | none=>false
def isU8:Option IntKind->Bool
 | some .u8=>true
 | _=>false
def isI64:Option IntKind->Bool
 | some .i64=>true
 | _=>false
end
end Go.AM
namespace Go.AM
open Go.ChangeShapes Go.WideShapes Go.RowKit
section
variable {P:Program} {H:Type} {enc:TypeId×Value->H} {w:World} {base:Nat} {spare:Nat->Bool} {held:Bool}
def chkK (P:Program)(t:TypeId):Option (List IntKind)->Option (List IntKind)
 | some ks=>cond (Nat.beq (P.cellsOf t) ks.length) (some ks) none
 | none=>none
def fieldsK (g:TypeId->Option (List IntKind)):Nat->List Field->Option (List IntKind)
 | _,[]=>some []
 | o,f::fs=>match g f.type with
  | some ks=>cond (Nat.beq f.offset o) (match fieldsK g (o+ks.length) fs with
   | some r=>some (ks++r)
   | none=>none) none
  | none=>none
def cellsK (P:Program):Nat->TypeId->Option (List IntKind)
 | 0,_=>none
 | d+1,t=>chkK P t (match P.underlying t with
  | some (.int k)=>some [k]
  | some (.array n e)=>match cellsK P d e with
   | some ks=>some ((List.replicate n ks).flatten)
   | none=>none
  | some (.struct fs)=>fieldsK (cellsK P d) 0 fs.toList
  | _=>none)
theorem q0bw {t:TypeId}{o:Option (List IntKind)}{ks:List IntKind}(h:chkK P t o=some ks):o=some ks∧P.cellsOf t=ks.length:=by
 cases o with
 | none=>simp [chkK] at h
 | some l=>
  simp only [chkK] at h
  cases hb:Nat.beq (P.cellsOf t) l.length with
  | false=>simp [hb] at h
  | true=>
   simp only [hb,cond_true,Option.some.injEq] at h
   subst h
   exact ⟨rfl,Nat.eq_of_beq_eq_true hb⟩
theorem q0bx {d:Nat}{t:TypeId}{ks:List IntKind}(h:cellsK P d t=some ks):P.cellsOf t=ks.length:=by
 cases d with
 | zero=>simp [cellsK] at h
 | succ d=>exact (q0bw h).2
def GoodK (ks:List IntKind)(cs:List Value):Prop:=∀ (i:Nat) (k:IntKind),ks[i]?=some k->∃ n,cs[i]?=some (.int k n)∧fits k n=true
theorem q0by {k:IntKind}{n:Int}(h:(Lit.int k n).wf=true):fits k n=true:=by
 rw [q02k]
 simp only [Lit.wf,Bool.and_eq_true,decide_eq_true_eq] at h
 cases k<;>exact h
theorem repK:∀ (n:Nat) (ks:List IntKind) (i:Nat) (k:IntKind),((List.replicate n ks).flatten)[i]?=some k->∃ q j,q<n∧j<ks.length∧i=q*ks.length+j∧ks[j]?=some k
 | 0,_,i,k,h=>by simp at h
 | n+1,ks,i,k,h=>by
  rw [List.replicate_succ,List.flatten_cons] at h
  by_cases hi:i<ks.length
  ·rw [List.getElem?_append_left hi] at h
   exact ⟨0,i,by omega,hi,by omega,h⟩
  ·rw [List.getElem?_append_right (by omega)] at h
   obtain ⟨q,j,h1,h2,h3,h4⟩:=repK n ks _ k h
   refine ⟨q+1,j,by omega,h2,?_,h4⟩
   rw [Nat.succ_mul]
   omega
theorem q0bz (cs:List Value)(o m j:Nat)(hj:j<m):((cs.drop o).take m)[j]?=cs[o+j]?:=by
 rw [List.getElem?_take,if_pos hj,List.getElem?_drop]
theorem q0c0 {g:TypeId->Option (List IntKind)}{cs:List Value}(hg:∀ t ks,g t=some ks->P.cellsOf t=ks.length):∀ (fs:List Field) (o:Nat) (ks:List IntKind),fieldsK g o fs=some ks ->
  (∀ f,f∈fs->∀ ks',g f.type=some ks'->GoodK ks' ((cs.drop f.offset).take (P.cellsOf f.type)))->∀ (i:Nat) (k:IntKind),ks[i]?=some k->∃ n,cs[o+i]?=some (.int k n)∧fits k n=true
 | [],o,ks,h,_,i,k,hi=>by
  simp only [fieldsK,Option.some.injEq] at h
  subst h
  simp at hi
 | f::fs,o,ks,h,hf,i,k,hi=>by
  simp only [fieldsK] at h
  split at h
  ·rename_i ks1 hk1
   cases hb:Nat.beq f.offset o with
   | false=>simp [hb] at h
   | true=>
    simp only [hb,cond_true] at h
    have ho:=Nat.eq_of_beq_eq_true hb
    split at h
    ·rename_i r hr
     simp only [Option.some.injEq] at h
     subst h
     by_cases hlt:i<ks1.length
     ·rw [List.getElem?_append_left hlt] at hi
      obtain ⟨n,h1,h2⟩:=hf f (by simp) ks1 hk1 i k hi
      rw [q0bz _ _ _ _ (by rw [hg _ _ hk1];exact hlt),ho] at h1
      exact ⟨n,h1,h2⟩
     ·rw [List.getElem?_append_right (by omega)] at hi
      obtain ⟨n,h1,h2⟩:=q0c0 hg fs _ r hr (fun f' hf'=>hf f' (by simp [hf'])) _ k hi
      rw [show o+ks1.length+(i-ks1.length)=o+i by omega] at h1
      exact ⟨n,h1,h2⟩
    ·cases h
  ·cases h
theorem q0c1:∀ (d:Nat) (t:TypeId) (ks:List IntKind),cellsK P d t=some ks->∀ (n:Nat) (cs:List Value) (y:DataW H×List MemPlace),DataW.trod enc P w base spare held n t cs=some y->GoodK ks cs
 | 0,t,ks,h,_,_,_,_=>by simp [cellsK] at h
 | d+1,t,ks,h,n,cs,y,hy=>by
  obtain ⟨h1,h2⟩:=q0bw h
  split at h1
  ·rename_i k hu
   simp only [Option.some.injEq] at h1
   subst h1
   obtain ⟨m,rfl,_,hw⟩:=DataW.trod_int hu hy
   intro i k' hi
   cases i with
   | zero=>
    simp only [List.getElem?_cons_zero,Option.some.injEq] at hi
    subst hi
    exact ⟨m,rfl,q0by hw⟩
   | succ i=>simp at hi
  ·rename_i a e hu
   split at h1
   ·rename_i ks1 hk1
    simp only [Option.some.injEq] at h1
    subst h1
    obtain ⟨xs,m,_,_,hl,hxl,hx⟩:=DataW.trod_array hu hy
    intro i k hi
    obtain ⟨q,j,hq,hj,rfl,hjk⟩:=repK _ _ _ _ hi
    have hc:=q0bx hk1
    have hxq:=hx q hq
    rw [List.getElem?_eq_getElem (by omega)] at hxq
    obtain ⟨v,h3,h4⟩:=q0c1 d e ks1 hk1 m _ _ hxq j k hjk
    rw [q0bz _ _ _ _ (by omega),hc] at h3
    exact ⟨v,h3,h4⟩
   ·cases h1
  ·rename_i fs hu
   obtain ⟨xs,m,_,_,hl,hxl,hx⟩:=DataW.trod_struct hu hy
   intro i k hi
   obtain ⟨v,h3,h4⟩:=q0c0 (P:=P) (cs:=cs) (fun t ks h=>q0bx h) fs.toList 0 ks h1 (fun f hf ks' hk'=>by
    obtain ⟨q,hq⟩:=List.getElem?_of_mem hf
    have hq':fs[q]?=some f:=by simpa using hq
    have hxq:=hx q f hq'
    have hlt:q<fs.size:=by
     have:=(List.getElem?_eq_some_iff.1 hq).1
     simpa using this
    rw [List.getElem?_eq_getElem (by omega)] at hxq
    exact q0c1 d f.type ks' hk' m _ _ hxq) i k hi
   rw [Nat.zero_add] at h3
   exact ⟨v,h3,h4⟩
  ·cases h1
def cellNum (w:World)(a:Addr)(o:Nat):Int:=match w.cell? (a.add o) with
 | some (.int _ n)=>n
 | _=>0
def cellNumV (w:World)(v:Value)(o:Nat):Int:=match v with
 | .slice (some a) _ _=>cellNum w a o
 | _=>0
def sliceLen (v:Value):Nat:=match v with
 | .slice _ l _=>l
 | _=>0
def sliceLoc (es:Nat)(v:Value):Loc:=match v with
 | .slice (some a) _ cap=>.at a.block a.off (cap*es)
 | _=>.none
structure SliceIn (W:World) (k:IntKind) (es:Nat) (v:Value):Prop where
 small:sliceLen v<=maxLen
 fit:∀ j,j<sliceLen v*es->fits k (cellNumV W v j)=true
 val:(∃ kb o cap,v=.slice (some ⟨kb,o,none⟩) (sliceLen v) cap∧sliceLen v<=cap∧kb<W.heap.size ∧
   (∀ i,i<cap*es->(∃ c,W.cell? ⟨kb,o+i,none⟩=some c)∧W.frozen? ⟨kb,o+i,none⟩=false) ∧
   ∀ i,i<sliceLen v*es->W.cell? ⟨kb,o+i,none⟩=some (.int k (cellNumV W v i)))∨v=.slice none 0 0
def allKind (k:IntKind)(ks:List IntKind):Bool:=allB (fun k'=>keq k k') ks
theorem SliceIn.open_ {W:World}{t e:TypeId}{k:IntKind}{es b0:Nat}{v:Value}{d:DataW H}{p:List MemPlace}(hu:P.underlying t=some (.slice e))
  (hk:(match cellsK P 8 e with | some ks=>allKind k ks&&(Nat.beq ks.length es&&Nat.blt 0 es) | none=>false)=true) (hval:Value.okWide P W .any b0 t v)
  (hd:DataW.Trod enc P W 0 (fun _=>true) true t v d p) (hfz:W.noneFrozen p):SliceIn W k es v:=by
 split at hk
 ·rename_i ks hks
  simp only [Bool.and_eq_true,Nat.blt_eq] at hk
  obtain ⟨hk1,hk2,hk3⟩:=hk
  have hlen:=Nat.eq_of_beq_eq_true hk2
  have hes:P.cellsOf e=es:=by rw [q0bx hks,hlen]
  have hkk:∀ j,j<es->ks[j]?=some k:=by
   intro j hj
   rw [List.getElem?_eq_getElem (by omega)]
   have:=q024 hk1 ks[j] (List.getElem_mem _)
   rw [q00z this]
  unfold Value.okWide at hval
  rw [hu] at hval
  have hval:Cell.ok P W .any b0 t v:=by
   unfold Cell.okWide at hval
   rw [hu] at hval
   exact hval
  obtain ⟨fuel,hd⟩:=hd
  rcases Deep.open_slice hu hd with ⟨h1,_⟩ | ⟨a,len,cap,m,n,D,Pl,h1,_,h3,h4,h5,h6,h7⟩
  ·have:v=.slice none 0 0:=by
    unfold Cell.ok at hval
    rw [hu] at hval
    cases v<;>simp [Value.cells] at h1 hval ⊢
    exact h1
   subst this
   exact ⟨Nat.zero_le _,fun j hj=>by simp [sliceLen] at hj,.inr rfl⟩
  ·have hv:v=.slice (some a) len cap:=by
    unfold Cell.ok at hval
    rw [hu] at hval
    cases v<;>simp [Value.cells] at h1 hval ⊢
    exact h1
   subst hv
   unfold Cell.ok at hval
   rw [hu] at hval
   obtain ⟨_,_,_,hsp,row,cells,hshape,_⟩:=hval
   obtain ⟨kb,o,spot⟩:=a
   have hkb:kb<W.heap.size:=by
    simp only [World.shape?] at hshape
    rcases Nat.lt_or_ge kb W.heap.size with h | h
    ·exact h
    ·rw [Array.getElem?_eq_none h] at hshape
     simp at hshape
   simp only at hsp
   subst hsp
   simp only [if_true] at h5
   subst h5
   have hp:p=MemPlace.row ⟨kb,o,none⟩ (m*P.cellsOf e)++(List.range m).flatMap Pl:=by
    simp only [Prod.mk.injEq] at h6
    exact h6.2
   have hcell:∀ q,q<m->∀ j,j<es->∃ n,W.cell? ⟨kb,o+(q*es+j),none⟩=some (.int k n)∧fits k n=true:=by
    intro q hq j hj
    obtain ⟨cs',g1,g2⟩:=h7 q hq
    obtain ⟨n',g3,g4⟩:=q0c1 8 e ks hks _ _ _ g2 j k (hkk j hj)
    refine ⟨n',?_,g4⟩
    obtain ⟨_,_,g6⟩:=World.cells?_some g1
    have:=g6 j (by omega)
    rw [g3,q00q,q00q,hes] at this
    rw [<- this,Nat.add_assoc]
   have hall:∀ i,i<m*es->∃ n,W.cell? ⟨kb,o+i,none⟩=some (.int k n)∧fits k n=true:=by
    intro i hi
    have e1:i=i / es*es+i%es:=by rw [Nat.mul_comm];exact (Nat.div_add_mod i es).symm
    have:=hcell (i / es) (Nat.div_lt_of_lt_mul (by rw [Nat.mul_comm];exact hi)) (i%es) (Nat.mod_lt _ hk3)
    rw [<- e1] at this
    exact this
   have hnum:∀ i,i<m*es->W.cell? ⟨kb,o+i,none⟩=some (.int k (cellNumV W (.slice (some ⟨kb,o,none⟩) len m) i))∧fits k (cellNumV W (.slice (some ⟨kb,o,none⟩) len m) i)=true:=by
    intro i hi
    obtain ⟨n',g1,g2⟩:=hall i hi
    have:cellNumV W (.slice (some ⟨kb,o,none⟩) len m) i=n':=by simp only [cellNumV,cellNum,q00q,g1]
    rw [this]
    exact ⟨g1,g2⟩
   have hle:len*es<=m*es:=Nat.mul_le_mul_right _ h3
   refine ⟨by simp only [sliceLen];omega,fun j hj=>(hnum j (by simp only [sliceLen] at hj;omega)).2,.inl ⟨kb,o,m,rfl,h3,hkb,fun i hi=>?_,fun i hi=>(hnum i (by simp only [sliceLen] at hi;omega)).1⟩⟩
   obtain ⟨n',g1,_⟩:=hall i hi
   refine ⟨⟨_,g1⟩,hfz kb (o+i) ?_⟩
   rw [hp]
   refine List.mem_append_left _ ?_
   unfold MemPlace.row
   exact List.mem_map.2 ⟨i,List.mem_range.2 (by rw [hes];exact hi),rfl⟩
 ·cases hk
end
end Go.AM
namespace Go.AM
open Go.ChangeShapes Go.WideShapes Go.RowKit
section
variable {P:Program}
structure BlkIn (W:World) (b:Blk) (loc:Loc):Prop where
 plain:poolOf b=none
 some_:loc≠.absent
 nil_:loc=.none->flat b=[]
 at_:∀ k base room,loc=.at k base room->k<W.heap.size∧(flat b).length<=room∧(∀ i,i<room->(∃ c,W.cell? ⟨k,base+i,none⟩=some c)∧W.frozen? ⟨k,base+i,none⟩=false) ∧
  ∀ (i:Nat) (v:AV),(flat b)[i]?=some v->∃ kd n,v=.int kd n∧fits kd n=true∧W.cell? ⟨k,base+i,none⟩=some (.int kd n)
 sc:∀ (i:Nat) (v:AV),(flat b)[i]?=some v->∃ kd n,v=.int kd n
def mapOf (l:List (Blk×Loc)):LMap:=fun b=>(l.getD b.b ([],.absent)).2
theorem q0c2 {l:List (Blk×Loc)}{b:Key}{x:Blk×Loc}(h:l[b.b]?=some x):mapOf l b=x.2:=by simp [mapOf,List.getD_eq_getElem?_getD,h]
theorem HR_of {W:World}{l:List (Blk×Loc)}(hl:∀ (i:Nat) (x:Blk×Loc),l[i]?=some x->BlkIn W x.1 x.2):HR l.length (l.map (·.1)) (mapOf l) W:=by
 have get:∀ (b:Key) (ss:Blk),blk? (l.map (·.1)) b=some ss->∃ x,l[b.b]?=some x∧x.1=ss:=by
  intro b ss hb
  rcases q00i hb with ⟨_,h1,_⟩ | ⟨r,k,rows,xs,_,h1,_,_⟩
  ·rw [List.getElem?_map,Option.map_eq_some_iff] at h1
   exact h1
  ·rw [List.getElem?_map,Option.map_eq_some_iff] at h1
   obtain ⟨x,h2,h3⟩:=h1
   have:=(hl _ x h2).plain
   rw [h3] at this
   cases this
 refine ⟨fun b ss hb hm=>?_,fun b ss k base room hb hm=>?_,fun b b' k base room base' room' h1 h2=>?_,fun b ss hb i v hv=>?_,by simp⟩
 ·obtain ⟨x,hx,rfl⟩:=get b ss hb
  rw [q0c2 hx] at hm
  exact (hl b.b x hx).nil_ hm
 ·obtain ⟨x,hx,rfl⟩:=get b ss hb
  rw [q0c2 hx] at hm
  obtain ⟨h1,h2,h3,h4⟩:=(hl b.b x hx).at_ k base room hm
  refine ⟨h1,h2,h3,fun i v hv=>?_⟩
  obtain ⟨kd,n,rfl,h5,h6⟩:=h4 i v hv
  exact ⟨_,h6,rfl,.int _ _ h5⟩
 ·have:=q00j h2
  simp at this
  omega
 ·obtain ⟨x,hx,rfl⟩:=get b ss hb
  obtain ⟨kd,n,rfl⟩:=(hl b.b x hx).sc i v hv
  exact .int _ _
theorem SliceIn.blk {W:World}{k:IntKind}{es:Nat}{v:Value}(h:SliceIn W k es v):BlkIn W [.ints k (sliceLen v*es) (cellNumV W v)] (sliceLoc es v):=by
 have hf:flat [AV.ints k (sliceLen v*es) (cellNumV W v)]=(List.range (sliceLen v*es)).map fun i=>.int k (cellNumV W v i):=by simp [flat,segValsOf]
 have hget:∀ (i:Nat) (u:AV),(flat [AV.ints k (sliceLen v*es) (cellNumV W v)])[i]?=some u->i<sliceLen v*es∧u=.int k (cellNumV W v i):=by
  intro i u hu
  rw [hf,List.getElem?_map,Option.map_eq_some_iff] at hu
  obtain ⟨j,h1,h2⟩:=hu
  rw [List.getElem?_eq_some_iff] at h1
  obtain ⟨h3,h4⟩:=h1
  simp only [List.length_range] at h3
  simp only [List.getElem_range] at h4
  subst h4
  exact ⟨h3,h2.symm⟩
 rcases h.val with ⟨kb,o,cap,hv,h1,h2,h3,h4⟩ | hv
 ·have hloc:sliceLoc es v=.at kb o (cap*es):=by rw [hv];rfl
  refine ⟨rfl,by rw [hloc];simp,fun e=>(by rw [hloc] at e;cases e),fun k' base room e=>?_,fun i u hu=>⟨k,_,(hget i u hu).2⟩⟩
  rw [hloc] at e
  cases e
  refine ⟨h2,by rw [hf];simp;exact Nat.mul_le_mul_right _ h1,h3,fun i u hu=>?_⟩
  obtain ⟨hi,rfl⟩:=hget i u hu
  exact ⟨k,_,rfl,h.fit i hi,h4 i hi⟩
 ·have h0:sliceLen v=0:=by rw [hv];rfl
  have hloc:sliceLoc es v=.none:=by rw [hv];rfl
  refine ⟨rfl,by rw [hloc];simp,fun _=>by rw [hf,h0];simp,fun k' base room e=>(by rw [hloc] at e;cases e),fun i u hu=>⟨k,_,(hget i u hu).2⟩⟩
theorem SliceIn.rel {W:World}{k:IntKind}{es:Nat}{v:Value}(h:SliceIn W k es v){H:Heap}{μ:LMap}{b:Nat}(hb:H[b]?=some [.ints k (sliceLen v*es) (cellNumV W v)])(hm:μ ⟨b,0⟩=sliceLoc es v):
  VR H μ (.slice ⟨⟨b,0⟩,0,0,sliceLen v*es⟩ (sliceLen v) (sliceLen v) es false) v:=by
 have hL:segLenAt H ⟨b,0⟩ 0=some (sliceLen v*es):=by
  unfold segLenAt
  rw [q00e rfl hb]
  rfl
 have ho:segOff H ⟨b,0⟩ 0=0:=by simp [segOff,lenOf]
 rcases h.val with ⟨kb,o,cap,hv,h1,h2,h3,h4⟩ | hv
 ·have hloc:sliceLoc es v=.at kb o (cap*es):=by rw [hv];rfl
  have:=VR.slice (h:=H) (μ:=μ) ⟨⟨b,0⟩,0,0,sliceLen v*es⟩ (sliceLen v) (sliceLen v) es false (some ⟨kb,o,none⟩) cap _ hL (Nat.le_refl _) ⟨Nat.le_refl _,fun _ e=>by cases e⟩ fun _=>
   ⟨h1,fun e=>(by cases e),.inl ⟨kb,o,cap*es,by rw [hm,hloc],by simp [ho],fun _=>by simp [ho]⟩⟩
  rw [<- hv] at this
  exact this
 ·have h0:sliceLen v=0:=by rw [hv];rfl
  have hloc:sliceLoc es v=.none:=by rw [hv];rfl
  have:=VR.slice (h:=H) (μ:=μ) ⟨⟨b,0⟩,0,0,sliceLen v*es⟩ (sliceLen v) (sliceLen v) es false none 0 _ hL (Nat.le_refl _) ⟨Nat.le_refl _,fun e=>by omega⟩ fun _=>
   ⟨by omega,fun e=>(by cases e),.inr ⟨by rw [hm,hloc],rfl,rfl⟩⟩
  rw [h0] at this ⊢
  rw [hv]
  exact this
theorem q0c3 (hm:P.follows .mixedOrders=true)(hnames:NamesOk P){E:Env (AV×Heap)}(hE:EnvOk P E){d:Nat}{f:FuncId}{args:List AV}{b:Bool}{h':Heap}{W:World}(l:List (Blk×Loc))
  (hl:∀ (i:Nat) (x:Blk×Loc),l[i]?=some x->BlkIn W x.1 x.2)
  (hk:callK P E d f l.length args (l.map (·.1)) (fun v h=>some (v,h))=some (.bool b,h')) {cs:Array Value} (hlen:args.length=cs.size) (hargs:∀ i,VR (l.map (·.1)) (mapOf l) (args.getD i .undef) (cs.getD i Go.undef)):
  Calls P f cs W fun e W'=>e=.returned (.bool b)∧Below W.heap.size W W'∧∀ a,W'.frozen? a=W.frozen? a:=by
 obtain ⟨v,h2,h3,_,hs⟩:=q0ar hm hnames hE d f l.length args _ _ _ hk
 simp only [Option.some.injEq,Prod.mk.injEq] at h3
 obtain ⟨rfl,rfl⟩:=h3
 refine (hs _ W cs hlen hargs (HR_of hl)).mono ?_
 rintro e W' ⟨c,rfl,μ',v1,_,v3⟩
 cases v1
 refine ⟨rfl,⟨v3.os,v3.tape,v3.output,v3.size,fun k hk=>v3.frame k hk fun b base room h1 h2=>by have:=q00j h2;simp at this;omega⟩,v3.froz⟩
theorem q0c4 {W:World}:∀ (i:Nat) (y:Blk×Loc),([]:List (Blk×Loc))[i]?=some y->BlkIn W y.1 y.2:=fun i y h=>by simp at h
theorem q0c5 {W:World}{x:Blk×Loc}{l:List (Blk×Loc)}(hx:BlkIn W x.1 x.2)(hl:∀ (i:Nat) (y:Blk×Loc),l[i]?=some y->BlkIn W y.1 y.2):
  ∀ (i:Nat) (y:Blk×Loc),(x::l)[i]?=some y->BlkIn W y.1 y.2:=fun i y h=>by
 cases i with
 | zero=>
  simp only [List.getElem?_cons_zero,Option.some.injEq] at h
  subst h
  exact hx
 | succ i=>exact hl i y (by simpa using h)
theorem SliceIn.bytes {W:World}{es:Nat}{v:Value}(h:SliceIn W .u8 es v):∀ j,j<sliceLen v*es->0<=cellNumV W v j∧cellNumV W v j<=255:=fun j hj=>by
 have:=h.fit j hj
 rw [q02k] at this
 exact this
theorem SliceIn.short {W:World}{k:IntKind}{es:Nat}{v:Value}(h:SliceIn W k es v):sliceLen v<=9223372036854775807:=Nat.le_trans h.small (by decide)
end
end Go.AM
namespace Go.AM
open Go.ChangeShapes Go.WideShapes Go.RowKit
section
variable {P:Program} {H:Type} {enc:TypeId×Value->H}
structure PairIn (W:World) (k0 k:IntKind) (es:Nat) (v:Value) (x:Int) (s:Value):Prop where
 eq:v=.agg #[.int k0 x,s]
 fit:fits k0 x=true
 sl:SliceIn W k es s
end
end Go.AM
