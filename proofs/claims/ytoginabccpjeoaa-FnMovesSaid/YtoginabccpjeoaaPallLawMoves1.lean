/- A part of a proof about the given program: an abstract machine, what the given functions come to, and plain laws. -/
import Derived.Test.YtoginabccpjeoaaMachB
import Derived.Test.YtoginabccpjeoaaDallLawMoves1
import Derived.Test.YtoginabccpjeoaaDallLawMoves2
set_option linter.unusedVariables false
set_option linter.unusedSimpArgs false
namespace Go.AM
section guards
variable {β:Type} {x y:β}
theorem c_and (a b:Bool):cond (a&&b) x y=cond a (cond b x y) y:=by cases a<;>rfl
theorem c_not (a:Bool):cond (!a) x y=cond a y x:=by cases a<;>rfl
theorem c_lt {a b:Int}(h:a<b):cond (decide (a<b)) x y=x:=by rw [decide_eq_true h];rfl
theorem c_nlt {a b:Int}(h:b<=a):cond (decide (a<b)) x y=y:=by rw [decide_eq_false (by omega)];rfl
theorem c_le {a b:Int}(h:a<=b):cond (decide (a<=b)) x y=x:=by rw [decide_eq_true h];rfl
theorem c_nle {a b:Int}(h:b<a):cond (decide (a<=b)) x y=y:=by rw [decide_eq_false (by omega)];rfl
theorem c_ne {a b:Int}(h:a≠b):cond (a != b) x y=x:=by rw [show (a != b)=true by simpa using h];rfl
theorem c_nne {a b:Int}(h:a=b):cond (a != b) x y=y:=by rw [show (a != b)=false by simpa using h];rfl
theorem c_eq {a b:Int}(h:a=b):cond (a==b) x y=x:=by rw [show (a==b)=true by simpa using h];rfl
theorem c_neq {a b:Int}(h:a≠b):cond (a==b) x y=y:=by rw [show (a==b)=false by simpa using h];rfl
theorem c_blt {a b:Nat}(h:a<b):cond (a.blt b) x y=x:=by rw [show a.blt b=true by rwa [Nat.blt_eq]];rfl
theorem c_ble {a b:Nat}(h:a<=b):cond (a.ble b) x y=x:=by rw [show a.ble b=true by rwa [Nat.ble_eq]];rfl
theorem q0i6 {a b:Nat}(h:b<a):cond (a.ble b) x y=y:=by rw [show a.ble b=false by rw [<- Bool.not_eq_true,Nat.ble_eq];omega];rfl
theorem c_beq {a b:Nat}(h:a=b):cond (a.beq b) x y=x:=by rw [show a.beq b=true by subst h;exact Nat.beq_refl a];rfl
theorem q0i7 {x:Int}(h:-9223372036854775808<=x∧x<=9223372036854775807):fits .i64 x=true:=by rw [q02k];exact h
theorem q0i8 {a:Int}(h:-9223372036854775808<=a∧a<=9223372036854775807):cond (fits .i64 a) x y=x:=by rw [q0i7 h];rfl
theorem q0i9:cond true x y=x:=rfl
theorem q0ia:cond false x y=y:=rfl
theorem c_dec (p:Prop) [Decidable p]:cond (decide p) x y=if p then x else y:=by by_cases h:p<;>simp [h]
end guards
section upd
variable {β:Type}
theorem q0ib (f:Nat->β)(i:Nat)(v:β)(j:Nat):upd f i v j=if j=i then v else f j:=by
 unfold upd
 by_cases h:j=i
 ·subst h;rw [Nat.beq_refl];simp
 ·rw [show Nat.beq j i=false by rw [<- Bool.not_eq_true];exact fun e=>h (Nat.eq_of_beq_eq_true e),if_neg h];rfl
end upd
section loops
variable {β σ ρ:Type}
def iter (f:Nat->σ->σ):Nat->Nat->σ->σ
 | 0,_,s=>s
 | d+1,i,s=>iter f d (i+1) (f i s)
theorem q0ic (f:Nat->σ->σ):∀ (d i:Nat) (s:σ),iter f (d+1) i s=f (i+d) (iter f d i s):=by
 intro d
 induction d with
 | zero=>intro i s;rfl
 | succ d ih=>intro i s;rw [iter,ih,iter];congr 1;omega
theorem q0id {f:Nat->σ->σ}{I:Nat->σ->Prop}{n:Nat}(h:∀ i s,i<n->I i s->I (i+1) (f i s)):∀ (d i:Nat) (s:σ),i+d<=n->I i s->I (i+d) (iter f d i s):=by
 intro d
 induction d with
 | zero=>intro i s _ h0;exact h0
 | succ d ih=>
  intro i s hn h0
  have:=ih (i+1) (f i s) (by omega) (h i s (by omega) h0)
  rw [show i+1+d=i+(d+1) by omega] at this
  exact this
theorem up_to {L:Nat->Nat->σ->β}{n:Nat}{out:σ->β}{f:Nat->σ->σ}{I:Nat->σ->Prop}
  (hs:∀ m i s,i<n->I i s->L (m+1) i s=L m (i+1) (f i s)∧I (i+1) (f i s)) (he:∀ m s,I n s->L (m+1) n s=out s):
  ∀ (d m i:Nat) (s:σ),i+d=n->d<m->I i s->L m i s=out (iter f d i s):=by
 intro d
 induction d with
 | zero=>
  intro m i s hi hm h0
  obtain ⟨m,rfl⟩:∃ m',m=m'+1:=⟨m-1,by omega⟩
  have:i=n:=by omega
  subst this
  exact he m s h0
 | succ d ih=>
  intro m i s hi hm h0
  obtain ⟨m,rfl⟩:∃ m',m=m'+1:=⟨m-1,by omega⟩
  obtain ⟨h1,h2⟩:=hs m i s (by omega) h0
  rw [h1]
  exact ih m (i+1) (f i s) (by omega) (by omega) h2
theorem q0ie {L:Nat->Nat->σ->β}{n:Nat}{out:σ->β}{I:Nat->σ->Prop}
  (hs:∀ i s,i<n->I i s->∃ s',(∀ m,L (m+1) i s=L m (i+1) s')∧I (i+1) s') (he:∀ m s,I n s->L (m+1) n s=out s):
  ∀ (d m i:Nat) (s:σ),i+d=n->d<m->I i s->∃ s',L m i s=out s'∧I n s':=by
 intro d
 induction d with
 | zero=>
  intro m i s hi hm h0
  obtain ⟨m,rfl⟩:∃ m',m=m'+1:=⟨m-1,by omega⟩
  have:i=n:=by omega
  subst this
  exact ⟨s,he m s h0,h0⟩
 | succ d ih=>
  intro m i s hi hm h0
  obtain ⟨m,rfl⟩:∃ m',m=m'+1:=⟨m-1,by omega⟩
  obtain ⟨s',h1,h2⟩:=hs i s (by omega) h0
  rw [h1]
  exact ih m (i+1) s' (by omega) (by omega) h2
def iterE (f:Nat->σ->σ ⊕ ρ):Nat->Nat->σ->σ ⊕ ρ
 | 0,_,s=>.inl s
 | d+1,i,s=>match f i s with
  | .inl s'=>iterE f d (i+1) s'
  | .inr r=>.inr r
def orOut (out:σ->β)(ex:ρ->β):σ ⊕ ρ->β
 | .inl s=>out s
 | .inr r=>ex r
theorem q0if {L:Nat->Nat->σ->β}{n:Nat}{out:σ->β}{ex:ρ->β}{f:Nat->σ->σ ⊕ ρ}{I:Nat->σ->Prop}
  (hs:∀ m i s,i<n->I i s->(∃ s',f i s=.inl s'∧L (m+1) i s=L m (i+1) s'∧I (i+1) s')∨∃ r,f i s=.inr r∧L (m+1) i s=ex r) (he:∀ m s,I n s->L (m+1) n s=out s):
  ∀ (d m i:Nat) (s:σ),i+d=n->d<m->I i s->L m i s=orOut out ex (iterE f d i s):=by
 intro d
 induction d with
 | zero=>
  intro m i s hi hm h0
  obtain ⟨m,rfl⟩:∃ m',m=m'+1:=⟨m-1,by omega⟩
  have:i=n:=by omega
  subst this
  exact he m s h0
 | succ d ih=>
  intro m i s hi hm h0
  obtain ⟨m,rfl⟩:∃ m',m=m'+1:=⟨m-1,by omega⟩
  rcases hs m i s (by omega) h0 with ⟨s',h1,h2,h3⟩ | ⟨r,h1,h2⟩
  ·rw [h2,iterE,h1]
   exact ih m (i+1) s' (by omega) (by omega) h3
  ·rw [h2,iterE,h1];rfl
def q0ig (p:Nat->Bool):Nat->Nat->Bool
 | 0,_=>true
 | d+1,i=>p i&&q0ig p d (i+1)
theorem q0ih {p:Nat->Bool}:∀ (d i:Nat),q0ig p d i=true↔∀ j,i<=j->j<i+d->p j=true:=by
 intro d
 induction d with
 | zero=>intro i;exact ⟨fun _ j h1 h2=>by omega,fun _=>rfl⟩
 | succ d ih=>
  intro i
  rw [q0ig,Bool.and_eq_true,ih]
  refine ⟨fun ⟨h1,h2⟩ j h3 h4=>?_,fun h=>⟨h i (by omega) (by omega),fun j h3 h4=>h j (by omega) (by omega)⟩⟩
  by_cases e:j=i
  ·subst e;exact h1
  ·exact h2 j (by omega) (by omega)
theorem q0ii {L:Nat->Nat->β}{n:Nat}{kt kf:β}{p:Nat->Bool}
  (hs:∀ m i,i<n->L (m+1) i=cond (p i) (L m (i+1)) kf) (he:∀ m,L (m+1) n=kt):
  ∀ (d m i:Nat),i+d=n->d<m->L m i=cond (q0ig p d i) kt kf:=by
 intro d
 induction d with
 | zero=>
  intro m i hi hm
  obtain ⟨m,rfl⟩:∃ m',m=m'+1:=⟨m-1,by omega⟩
  have:i=n:=by omega
  subst this
  exact he m
 | succ d ih=>
  intro m i hi hm
  obtain ⟨m,rfl⟩:∃ m',m=m'+1:=⟨m-1,by omega⟩
  rw [hs m i (by omega),q0ig]
  cases p i with
  | false=>rfl
  | true=>exact ih m (i+1) (by omega) (by omega)
theorem q0ij {γ:Type}(g:Nat->γ):∀ (d i:Nat) (h:Nat->γ),iter (fun i h=>upd h i (g i)) d i h=fun j=>if i<=j∧j<i+d then g j else h j:=by
 intro d
 induction d with
 | zero=>intro i h;funext j;rw [if_neg (by omega)];rfl
 | succ d ih=>
  intro i h
  rw [iter,ih]
  funext j
  simp only [q0ib]
  by_cases e:j=i
  ·subst e;rw [if_neg (by omega),if_pos (by omega)];simp
  ·by_cases e2:i+1<=j∧j<i+1+d
   ·rw [if_pos e2,if_pos (by omega)]
   ·rw [if_neg e2,if_neg e,if_neg (by omega)]
end loops
end Go.AM
namespace Go.AM
theorem q0ik:∀ (n:Nat) (f:Nat->Nat),(∀ i,i<n->f i<n)->(∀ i j,i<n->j<n->f i=f j->i=j)->∀ r,r<n->∃ i,i<n∧f i=r:=by
 intro n
 induction n with
 | zero=>intro f _ _ r hr;omega
 | succ n ih=>
  intro f hf hi r hr
  have hg:=ih (fun i=>if f i=n then f n else f i) (fun i h=>by
   try simp only
   split
   ·rename_i e
    have h1:=hf n (by omega)
    have h2:f n≠n:=fun e2=>by have:=hi i n (by omega) (by omega) (by omega);omega
    omega
   ·have:=hf i (by omega);omega) (fun i j h1 h2 e=>by
   try simp only at e
   split at e<;>split at e
   ·exact hi i j (by omega) (by omega) (by omega)
   ·have:=hi n j (by omega) (by omega) e;omega
   ·have:=hi i n (by omega) (by omega) e;omega
   ·exact hi i j (by omega) (by omega) e)
  by_cases e:r=n
  ·subst e
   by_cases e2:f r=r
   ·exact ⟨r,by omega,e2⟩
   ·obtain ⟨i,h1,h2⟩:=hg (f r) (by have:=hf r (by omega);omega)
    try simp only at h2
    split at h2
    ·rename_i e3;exact ⟨i,by omega,e3⟩
    ·have:=hi i r (by omega) (by omega) h2;omega
  ·obtain ⟨i,h1,h2⟩:=hg r (by omega)
   try simp only at h2
   split at h2
   ·exact ⟨n,by omega,h2⟩
   ·exact ⟨i,by omega,h2⟩
theorem q0il (n:Nat)(f:Nat->Nat)(hf:∀ i,i<n->f i<n)(hs:∀ r,r<n->∃ i,i<n∧f i=r):∀ i j,i<n->j<n->f i=f j->i=j:=by
 have hc:∀ r,∃ i,r<n->i<n∧f i=r:=fun r=>by
  by_cases h:r<n
  ·obtain ⟨i,hi⟩:=hs r h;exact ⟨i,fun _=>hi⟩
  ·exact ⟨0,fun h'=>absurd h' h⟩
 obtain ⟨g,hg⟩:=Classical.axiomOfChoice hc
 have hgs:=q0ik n g (fun i h=>(hg i h).1) (fun i j h1 h2 e=>by have a:=(hg i h1).2;have b:=(hg j h2).2;rw [e] at a;omega)
 intro i j hi hj e
 obtain ⟨r,h1,h2⟩:=hgs i hi
 obtain ⟨s,h3,h4⟩:=hgs j hj
 have a:=(hg r h1).2
 have b:=(hg s h3).2
 rw [h2] at a
 rw [h4] at b
 have:r=s:=by omega
 rw [<- h2,<- h4,this]
theorem q0im {a b:Nat}(ha:a<2 ^ 63)(hb:b<2 ^ 63):bitI .or .i64 (a:Int) (b:Int)=((a ||| b:Nat):Int):=by
 have e:bitI .or .i64 (a:Int) (b:Int)=IntKind.wrap .i64 ((BitVec.ofInt 64 a ||| BitVec.ofInt 64 b).toNat:Int):=rfl
 rw [e,BitVec.ofInt_natCast,BitVec.ofInt_natCast,BitVec.toNat_or,BitVec.toNat_ofNat,BitVec.toNat_ofNat,Nat.mod_eq_of_lt (by omega),Nat.mod_eq_of_lt (by omega)]
 apply q02l
 have:=Nat.or_lt_two_pow ha hb
 exact q0i7 (by omega)
theorem q0in (x:Nat):shlI 1 (x:Int)=((2 ^ x:Nat):Int):=by
 unfold shlI
 simp
def PermP (w n:Nat)(p:Nat->Int):Prop:=(∀ j,n<=j->j<w->p j=0)∧(∀ j,j<n->p j<n)∧∀ i j,i<n->j<n->p i=p j->i=j
noncomputable def permB (w n:Nat)(p:Nat->Int):Bool:=@decide (PermP w n p) (Classical.propDecidable _)
theorem q0io {w n:Nat}{p:Nat->Int}:permB w n p=true↔PermP w n p:=by
 unfold permB;exact @decide_eq_true_iff _ (Classical.propDecidable _)
theorem q0ip {w n:Nat}{p:Nat->Int}{b:Bool}(h:b=true↔PermP w n p):b=permB w n p:=by
 cases b<;>cases hq:permB w n p<;>simp_all [q0io,<- q0io]
section order
variable {β:Type}
def ordS (w:Nat)(z:β)(n:Int)(h0:Nat->Int)(seen:Int)(t10:Int)(kn:Int->Int->β)(k0:β)(k1:Int->β):β:=
 cond (decide (t10<(w:Int))) (cond (decide (0<=t10)&&decide (t10<(↑w:Int))) (cond (t10.toNat.blt w) (cond (decide (n<=t10)) (cond (h0 t10.toNat != 0) (k0) (cond (decide (n<=h0 t10.toNat)) (k0) (cond (decide (t10<n)) (cond (decide (0<=h0 t10.toNat)&&decide (h0 t10.toNat<(↑64:Int))) (cond (fits .i64 (shlI 1 (h0 t10.toNat))) (cond (fits .i64 (t10+1)) (kn (bitI BinOp.or IntKind.i64 seen (shlI 1 (h0 t10.toNat))) (t10+1)) (z)) (z)) (z)) (cond (fits .i64 (t10+1)) (kn seen (t10+1)) (z))))) (cond (decide (n<=h0 t10.toNat)) (k0) (cond (decide (t10<n)) (cond (decide (0<=h0 t10.toNat)&&decide (h0 t10.toNat<(↑64:Int))) (cond (fits .i64 (shlI 1 (h0 t10.toNat))) (cond (fits .i64 (t10+1)) (kn (bitI BinOp.or IntKind.i64 seen (shlI 1 (h0 t10.toNat))) (t10+1)) (z)) (z)) (z)) (cond (fits .i64 (t10+1)) (kn seen (t10+1)) (z))))) (z)) (z)) (k1 seen)
def ordL (w:Nat)(z:β)(n:Int)(h0:Nat->Int):Nat->Int->Int->β->(Int->β)->β
 | 0,_,_,_,_=>z
 | m+1,seen,t10,k0,k1=>ordS w z n h0 seen t10 (fun seen t10=>ordL w z n h0 m seen t10 k0 k1) k0 k1
def ordF (n:Nat)(p:Nat->Int)(i s:Nat):Nat ⊕ Unit:=
 if n<=i then (if p i=0 then .inl s else .inr ()) else if p i<n then .inl (s ||| 2 ^ (p i).toNat) else .inr ()
theorem q0iq (w:Nat)(hw:w<=64)(z:β)(n:Nat)(hn:1<=n)(hn8:n<=8)(p:Nat->Int)(hp:∀ j,0<=p j)(k0:β)(k1:Int->β){N:Nat}(hN:w<N):
  ordL w z n p N 0 0 k0 k1=orOut (fun s:Nat=>k1 (s:Int)) (fun _=>k0) (iterE (ordF n p) w 0 0):=by
 refine q0if (L:=fun m i (s:Nat)=>ordL w z n p m (s:Int) (i:Int) k0 k1) (n:=w) (out:=fun s:Nat=>k1 (s:Int)) (ex:=fun _=>k0) (f:=ordF n p) (I:=fun _ s=>s<256) ?_ ?_ w N 0 0 (by omega) hN (by omega)
 ·intro m i s hi hs
  have h0:=hp i
  simp only [ordL,ordS,c_and,Int.toNat_natCast]
  by_cases h1:n<=i
  ·by_cases h2:p i=0
   ·left
    refine ⟨s,by unfold ordF;rw [if_pos h1,if_pos h2],?_,hs⟩
    simp (disch:=omega) only [c_lt,c_nlt,c_le,c_nle,c_blt,c_nne,q0i8]
    rfl
   ·right
    refine ⟨(),by unfold ordF;rw [if_pos h1,if_neg h2],?_⟩
    simp (disch:=omega) only [c_lt,c_nlt,c_le,c_nle,c_blt,c_ne,q0i8]
  ·by_cases h2:p i<n
   ·left
    have hs2:s ||| 2 ^ (p i).toNat<256:=Nat.or_lt_two_pow (n:=8) hs (Nat.pow_lt_pow_right (by omega) (by omega))
    refine ⟨s ||| 2 ^ (p i).toNat,by unfold ordF;rw [if_neg h1,if_pos h2],?_,hs2⟩
    obtain ⟨v,hv⟩:∃ v:Nat,p i=(v:Int):=⟨(p i).toNat,by omega⟩
    have hv8:v<8:=by omega
    have hpow:2 ^ v<256:=Nat.pow_lt_pow_right (n:=8) (by omega) hv8
    simp only [hv,Int.toNat_natCast,q0in] at *
    generalize 2 ^ v=q at *
    simp (disch:=omega) only [c_lt,c_nlt,c_le,c_nle,c_blt,c_ne,q0i8]
    rw [q0im (by omega) (by omega)]
    rfl
   ·right
    refine ⟨(),by unfold ordF;rw [if_neg h1,if_neg h2],?_⟩
    simp (disch:=omega) only [c_lt,c_nlt,c_le,c_nle,c_blt,c_ne,q0i8]
 ·intro m s _
  simp (disch:=omega) only [ordL,ordS,c_nlt]
def q0ir (w n:Nat)(p:Nat->Int)(i:Nat):Prop:=∀ j,i<=j->j<w->(n<=j->p j=0)∧(j<n->p j<n)
theorem q0ir.step {w n i:Nat}{p:Nat->Int}(hi:i<w):q0ir w n p i↔((n<=i->p i=0)∧(i<n->p i<n))∧q0ir w n p (i+1):=by
 refine ⟨fun h=>⟨h i (by omega) hi,fun j h1 h2=>h j (by omega) h2⟩,fun ⟨h1,h2⟩ j h3 h4=>?_⟩
 by_cases e:j=i
 ·subst e;exact h1
 ·exact h2 j (by omega) h4
theorem q0is {w n:Nat}{p:Nat->Int}:∀ (d i s:Nat),i+d=w ->
  (∃ s',iterE (ordF n p) d i s=.inl s'∧q0ir w n p i∧∀ r,s'.testBit r=true↔s.testBit r=true∨∃ j,i<=j∧j<n∧j<w∧(p j).toNat=r)∨(iterE (ordF n p) d i s=.inr ()∧¬ q0ir w n p i):=by
 intro d
 induction d with
 | zero=>
  intro i s hi
  left
  refine ⟨s,rfl,fun j h1 h2=>by omega,fun r=>⟨.inl,fun h=>?_⟩⟩
  rcases h with h | ⟨j,h1,_,h2,_⟩
  ·exact h
  ·omega
 | succ d ih=>
  intro i s hi
  rw [q0ir.step (by omega)]
  have key:∀ s',ordF n p i s=.inl s'->((n<=i->p i=0)∧(i<n->p i<n))->(∀ r,s'.testBit r=true↔s.testBit r=true∨(i<n∧(p i).toNat=r)) ->
    (∃ s',iterE (ordF n p) (d+1) i s=.inl s'∧(((n<=i->p i=0)∧(i<n->p i<n))∧q0ir w n p (i+1))∧∀ r,s'.testBit r=true↔s.testBit r=true∨∃ j,i<=j∧j<n∧j<w∧(p j).toNat=r) ∨
    (iterE (ordF n p) (d+1) i s=.inr ()∧¬ (((n<=i->p i=0)∧(i<n->p i<n))∧q0ir w n p (i+1))):=by
   intro s' h1 h2 h3
   rcases ih (i+1) s' (by omega) with ⟨s2,h4,h5,h6⟩ | ⟨h4,h5⟩
   ·left
    refine ⟨s2,by rw [iterE,h1];exact h4,⟨h2,h5⟩,fun r=>?_⟩
    rw [h6,h3]
    constructor
    ·rintro ((h | ⟨h,h'⟩) | ⟨j,g1,g2,g3,g4⟩)
     ·exact .inl h
     ·exact .inr ⟨i,by omega,h,by omega,h'⟩
     ·exact .inr ⟨j,by omega,g2,g3,g4⟩
    ·rintro (h | ⟨j,g1,g2,g3,g4⟩)
     ·exact .inl (.inl h)
     ·by_cases e:j=i
      ·subst e;exact .inl (.inr ⟨g2,g4⟩)
      ·exact .inr ⟨j,by omega,g2,g3,g4⟩
   ·right
    exact ⟨by rw [iterE,h1];exact h4,fun h=>h5 h.2⟩
  by_cases h1:n<=i
  ·by_cases h2:p i=0
   ·exact key s (by unfold ordF;rw [if_pos h1,if_pos h2]) ⟨fun _=>h2,fun h=>by omega⟩ fun r=>⟨.inl,fun h=>h.elim id fun h=>by omega⟩
   ·right
    refine ⟨?_,fun h=>h2 (h.1.1 h1)⟩
    rw [iterE]
    have:ordF n p i s=.inr ():=by unfold ordF;rw [if_pos h1,if_neg h2]
    rw [this]
  ·by_cases h2:p i<n
   ·refine key (s ||| 2 ^ (p i).toNat) (by unfold ordF;rw [if_neg h1,if_pos h2]) ⟨fun h=>by omega,fun _=>h2⟩ fun r=>?_
    rw [Nat.testBit_or,Nat.testBit_two_pow,Bool.or_eq_true,decide_eq_true_eq]
    exact ⟨fun h=>h.imp id fun h=>⟨by omega,h⟩,fun h=>h.imp id fun h=>h.2⟩
   ·right
    refine ⟨?_,fun h=>h2 (h.1.2 (by omega))⟩
    rw [iterE]
    have:ordF n p i s=.inr ():=by unfold ordF;rw [if_neg h1,if_neg h2]
    rw [this]
theorem q0it (w:Nat)(hw:w<=64)(z:β)(n:Nat)(hn:1<=n)(hn8:n<=8)(hnw:n<=w)(p:Nat->Int)(hp:∀ j,0<=p j)(k:Bool->β){N:Nat}(hN:w<N):
  ordL w z n p N 0 0 (k false) (fun q5=>cond (decide (0<=(n:Int))&&decide ((n:Int)<(↑64:Int))) (cond (fits .i64 (shlI 1 n)) (cond (fits .i64 (shlI 1 n-1)) (k (q5==shlI 1 n-1)) (z)) (z)) (z))=k (permB w n p):=by
 rw [q0iq w hw z n hn hn8 p hp _ _ hN]
 have hpow:2 ^ n<=256:=Nat.pow_le_pow_right (n:=2) (by omega) hn8
 have hpos:0<2 ^ n:=Nat.two_pow_pos n
 rcases q0is (w:=w) (n:=n) (p:=p) w 0 0 (by omega) with ⟨s,h1,h2,h3⟩ | ⟨h1,h2⟩
 ·rw [h1]
  simp only [orOut,q0in,c_and]
  simp (disch:=omega) only [c_lt,c_le,q0i8]
  refine congrArg k (q0ip ?_)
  have hb:∀ r,s.testBit r=true↔∃ j,j<n∧(p j).toNat=r:=fun r=>by
   rw [h3]
   simp only [Nat.zero_testBit,Bool.false_eq_true,false_or]
   exact ⟨fun ⟨j,_,a,_,b⟩=>⟨j,a,b⟩,fun ⟨j,a,b⟩=>⟨j,by omega,a,by omega,b⟩⟩
  have hf:∀ i,i<n->(p i).toNat<n:=fun i hi=>by have:=(h2 i (by omega) (by omega)).2 hi;omega
  have e1:((s:Int)==((2 ^ n:Nat):Int)-1)=true↔∀ r,r<n->∃ j,j<n∧(p j).toNat=r:=by
   constructor
   ·intro h r hr
    have:s=2 ^ n-1:=by simp only [beq_iff_eq] at h;omega
    rw [<- hb,this,Nat.testBit_two_pow_sub_one]
    exact decide_eq_true hr
   ·intro h
    have:s=2 ^ n-1:=by
     apply Nat.eq_of_testBit_eq
     intro r
     rw [Nat.testBit_two_pow_sub_one]
     by_cases hr:r<n
     ·rw [decide_eq_true hr,hb];exact h r hr
     ·rw [decide_eq_false hr,<- Bool.not_eq_true,hb]
      rintro ⟨j,a,b⟩
      have:=hf j a
      omega
    simp only [beq_iff_eq]
    omega
  rw [e1]
  constructor
  ·intro h
   refine ⟨fun j a b=>(h2 j (by omega) b).1 a,fun j a=>(h2 j (by omega) (by omega)).2 a,fun i j a b e=>q0il n (fun i=>(p i).toNat) hf h i j a b (by rw [e])⟩
  ·rintro ⟨_,_,h⟩
   exact q0ik n (fun i=>(p i).toNat) hf fun i j a b e=>h i j a b (by have:=hp i;have:=hp j;omega)
 ·rw [h1]
  simp only [orOut]
  refine congrArg k (q0ip ⟨fun h=>(by cases h),fun h=>absurd (fun j _ b=>⟨fun a=>h.1 j a b,fun a=>h.2.1 j a⟩) h2⟩)
end order
end Go.AM
namespace Go.AM
section perm
variable {β:Type}
def permS (w:Nat)(z:β)(n:Int)(h0:Nat->Int)(i:Int)(h1:Nat->Bool)(kn:Int->(Nat->Bool)->β)(k0:(Nat->Bool)->β)(k1:(Nat->Bool)->β):β:=
 cond (decide (i<(w:Int))) (cond (decide (n<=i)) (cond (decide (0<=i)&&decide (i<(↑w:Int))) (cond (i.toNat.blt w) (cond (h0 i.toNat != 0) (k0 h1) (cond (fits .i64 (i+1)) (kn (i+1) h1) (z))) (z)) (z)) (cond (decide (0<=i)&&decide (i<(↑w:Int))) (cond (i.toNat.blt w) (cond (decide (n<=h0 i.toNat)) (k0 h1) (cond (decide (0<=i)&&decide (i<(↑w:Int))) (cond (i.toNat.blt w) (cond (decide (0<=h0 i.toNat)&&decide (h0 i.toNat<(↑w:Int))) (cond ((h0 i.toNat).toNat.blt w) (cond (h1 (h0 i.toNat).toNat) (k0 h1) (cond (decide (0<=i)&&decide (i<(↑w:Int))) (cond (i.toNat.blt w) (cond (decide (0<=h0 i.toNat)&&decide (h0 i.toNat<(↑w:Int))) (cond ((h0 i.toNat).toNat.blt w) (cond (fits .i64 (i+1)) (kn (i+1) (upd h1 (h0 i.toNat).toNat true)) (z)) (z)) (z)) (z)) (z))) (z)) (z)) (z)) (z))) (z)) (z))) (k1 h1)
def permL (w:Nat)(z:β)(n:Int)(h0:Nat->Int):Nat->Int->(Nat->Bool)->((Nat->Bool)->β)->((Nat->Bool)->β)->β
 | 0,_,_,_,_=>z
 | m+1,i,h1,k0,k1=>permS w z n h0 i h1 (fun i h1=>permL w z n h0 m i h1 k0 k1) k0 k1
def permF (n:Nat)(p:Nat->Int)(i:Nat)(met:Nat->Bool):(Nat->Bool) ⊕ Unit:=
 if n<=i then (if p i=0 then .inl met else .inr ()) else if p i<n then (if met (p i).toNat=true then .inr () else .inl (upd met (p i).toNat true)) else .inr ()
theorem q0iu (w:Nat)(hw:w<=64)(z:β)(n:Nat)(hnw:n<=w)(p:Nat->Int)(hp:∀ j,0<=p j)(kf kt:β){N:Nat}(hN:w<N)(met:Nat->Bool):
  permL w z n p N 0 met (fun _=>kf) (fun _=>kt)=orOut (fun _=>kt) (fun _=>kf) (iterE (permF n p) w 0 met):=by
 refine q0if (L:=fun m i (s:Nat->Bool)=>permL w z n p m (i:Int) s (fun _=>kf) (fun _=>kt)) (n:=w) (out:=fun _=>kt) (ex:=fun _=>kf) (f:=permF n p) (I:=fun _ _=>True) ?_ ?_ w N 0 met (by omega) hN trivial
 ·intro m i s hi _
  have h0:=hp i
  simp only [permL,permS,c_and,Int.toNat_natCast]
  by_cases h1:n<=i
  ·by_cases h2:p i=0
   ·left
    refine ⟨s,by unfold permF;rw [if_pos h1,if_pos h2],?_,trivial⟩
    simp (disch:=omega) only [c_lt,c_nlt,c_le,c_nle,c_blt,c_nne,q0i8]
    rfl
   ·right
    refine ⟨(),by unfold permF;rw [if_pos h1,if_neg h2],?_⟩
    simp (disch:=omega) only [c_lt,c_nlt,c_le,c_nle,c_blt,c_ne,q0i8]
  ·by_cases h2:p i<n
   ·cases h3:s (p i).toNat with
    | true=>
     right
     refine ⟨(),by unfold permF;rw [if_neg h1,if_pos h2,if_pos h3],?_⟩
     simp (disch:=omega) only [c_lt,c_nlt,c_le,c_nle,c_blt,c_ne,q0i8,h3,q0i9]
    | false=>
     left
     refine ⟨upd s (p i).toNat true,by unfold permF;rw [if_neg h1,if_pos h2,if_neg (by simp [h3])],?_,trivial⟩
     simp (disch:=omega) only [c_lt,c_nlt,c_le,c_nle,c_blt,c_ne,q0i8,h3,q0ia]
     rfl
   ·right
    refine ⟨(),by unfold permF;rw [if_neg h1,if_neg h2],?_⟩
    simp (disch:=omega) only [c_lt,c_nlt,c_le,c_nle,c_blt,c_ne,q0i8]
 ·intro m s _
  simp (disch:=omega) only [permL,permS,c_nlt]
def q0iv (w n:Nat)(p:Nat->Int)(i:Nat)(met:Nat->Bool):Prop:=
 q0ir w n p i∧(∀ j,i<=j->j<n->j<w->met (p j).toNat=false)∧∀ a b,i<=a->a<b->b<n->b<w->(p a).toNat≠(p b).toNat
theorem q0iw {w n:Nat}{p:Nat->Int}:∀ (d i:Nat) (met:Nat->Bool),i+d=w ->
  ((∃ m,iterE (permF n p) d i met=.inl m)∧q0iv w n p i met)∨(iterE (permF n p) d i met=.inr ()∧¬ q0iv w n p i met):=by
 intro d
 induction d with
 | zero=>
  intro i met hi
  left
  exact ⟨⟨met,rfl⟩,fun j h1 h2=>by omega,fun j h1 _ h2=>by omega,fun a b h1 h2 _ h3=>by omega⟩
 | succ d ih=>
  intro i met hi
  have bad:permF n p i met=.inr ()->¬ q0iv w n p i met->((∃ m,iterE (permF n p) (d+1) i met=.inl m)∧q0iv w n p i met)∨(iterE (permF n p) (d+1) i met=.inr ()∧¬ q0iv w n p i met):=by
   intro h1 h2
   right
   exact ⟨by rw [iterE,h1],h2⟩
  have good:∀ met',permF n p i met=.inl met'->(q0iv w n p i met↔q0iv w n p (i+1) met')->((∃ m,iterE (permF n p) (d+1) i met=.inl m)∧q0iv w n p i met)∨(iterE (permF n p) (d+1) i met=.inr ()∧¬ q0iv w n p i met):=by
   intro met' h1 h2
   rw [h2,iterE,h1]
   exact ih (i+1) met' (by omega)
  by_cases h1:n<=i
  ·by_cases h2:p i=0
   ·refine good met (by unfold permF;rw [if_pos h1,if_pos h2]) ?_
    unfold q0iv
    rw [q0ir.step (by omega)]
    exact ⟨fun ⟨⟨_,a⟩,b,c⟩=>⟨a,fun j g1 g2 g3=>b j (by omega) g2 g3,fun x y g1 g2 g3 g4=>c x y (by omega) g2 g3 g4⟩,
     fun ⟨a,b,c⟩=>⟨⟨⟨fun _=>h2,fun h=>by omega⟩,a⟩,fun j g1 g2 g3=>by omega,fun x y g1 g2 g3 g4=>by omega⟩⟩
   ·exact bad (by unfold permF;rw [if_pos h1,if_neg h2]) fun h=>h2 ((h.1 i (by omega) (by omega)).1 h1)
  ·by_cases h2:p i<n
   ·cases h3:met (p i).toNat with
    | true=>exact bad (by unfold permF;rw [if_neg h1,if_pos h2,if_pos h3]) fun h=>by have:=h.2.1 i (by omega) (by omega) (by omega);rw [h3] at this;cases this
    | false=>
     refine good (upd met (p i).toNat true) (by unfold permF;rw [if_neg h1,if_pos h2,if_neg (by simp [h3])]) ?_
     unfold q0iv
     rw [q0ir.step (by omega)]
     constructor
     ·rintro ⟨⟨_,a⟩,b,c⟩
      refine ⟨a,fun j g1 g2 g3=>?_,fun x y g1 g2 g3 g4=>c x y (by omega) g2 g3 g4⟩
      rw [q0ib,if_neg (fun e=>c i j (by omega) (by omega) g2 g3 e.symm)]
      exact b j (by omega) g2 g3
     ·rintro ⟨a,b,c⟩
      have b':∀ j,i+1<=j->j<n->j<w->(p j).toNat≠(p i).toNat∧met (p j).toNat=false:=by
       intro j g1 g2 g3
       have:=b j g1 g2 g3
       rw [q0ib] at this
       split at this
       ·cases this
       ·rename_i e;exact ⟨e,this⟩
      refine ⟨⟨⟨fun h=>by omega,fun _=>h2⟩,a⟩,fun j g1 g2 g3=>?_,fun x y g1 g2 g3 g4=>?_⟩
      ·by_cases e:j=i
       ·subst e;exact h3
       ·exact (b' j (by omega) g2 g3).2
      ·by_cases e:x=i
       ·subst e;exact fun e=>(b' y (by omega) g3 g4).1 e.symm
       ·exact c x y (by omega) g2 g3 g4
   ·exact bad (by unfold permF;rw [if_neg h1,if_neg h2]) fun h=>h2 ((h.1 i (by omega) (by omega)).2 (by omega))
theorem q0ix (w:Nat)(hw:w<=64)(z:β)(n:Nat)(hnw:n<=w)(p:Nat->Int)(hp:∀ j,0<=p j)(k:Bool->β){N:Nat}(hN:w<N):
  permL w z n p N 0 (fun _=>false) (fun _=>k false) (fun _=>k true)=k (permB w n p):=by
 rw [q0iu w hw z n hnw p hp _ _ hN]
 rcases q0iw (w:=w) (n:=n) (p:=p) w 0 (fun _=>false) (by omega) with ⟨⟨m,h1⟩,h2,_,h3⟩ | ⟨h1,h2⟩
 ·rw [h1]
  refine congrArg k (q0ip ⟨fun _=>⟨fun j a b=>(h2 j (by omega) b).1 a,fun j a=>(h2 j (by omega) (by omega)).2 a,fun i j a b e=>?_⟩,fun _=>rfl⟩)
  rcases Nat.lt_trichotomy i j with g | g | g
  ·exact absurd (by rw [e]) (h3 i j (by omega) g b (by omega))
  ·exact g
  ·exact absurd (by rw [e]) (h3 j i (by omega) g a (by omega))
 ·rw [h1]
  refine congrArg k (q0ip ⟨fun h=>(by cases h),fun h=>absurd ⟨fun j _ b=>⟨fun a=>h.1 j a b,fun a=>h.2.1 j a⟩,fun _ _ _ _=>rfl,fun a b _ g1 g2 _ e=>?_⟩ h2⟩)
  have:=h.2.2 a b (by omega) g2 (by have:=hp a;have:=hp b;omega)
  omega
end perm
end Go.AM
namespace Go.AM
section
variable {β:Type}
theorem q0iy (z:β)(N:Nat)(x lo hi:Int)(k:Bool->β):q0c7 z N x lo hi k=k (decide (lo<=x∧x<=hi)):=by
 unfold q0c7
 by_cases h:lo<=x
 ·rw [c_le h];congr 1;exact decide_eq_decide.2 ⟨fun h2=>⟨h,h2⟩,fun h2=>h2.2⟩
 ·rw [c_nle (by omega),decide_eq_false (fun h2=>h h2.1)]
theorem q0iz (z:β)(N:Nat)(x lo hi:Int)(k:Bool->β):q0c6 z N x lo hi k=k (decide (lo<=x∧x<=hi)):=by
 unfold q0c6
 by_cases h:lo<=x
 ·rw [c_le h];congr 1;exact decide_eq_decide.2 ⟨fun h2=>⟨h,h2⟩,fun h2=>h2.2⟩
 ·rw [c_nle (by omega),decide_eq_false (fun h2=>h h2.1)]
end
end Go.AM
namespace Go.AM
section
variable {β:Type}
theorem q0j0 (z:β)(n a:Int)(h g:Nat->Int):∀ m s t k0 k1,q0cg z n a h g m s t k0 k1=ordL 8 z n h m s t k0 k1:=by
 intro m
 induction m with
 | zero=>intros;rfl
 | succ m ih=>intro s t k0 k1;simp only [q0cg,ordL,ih];rfl
theorem q0j1 (z:β)(n a:Int)(h g:Nat->Int):∀ m s t k0 k1,q0cj z n a h g m s t k0 k1=ordL 8 z n g m s t k0 k1:=by
 intro m
 induction m with
 | zero=>intros;rfl
 | succ m ih=>intro s t k0 k1;simp only [q0cj,ordL,ih];rfl
theorem q0j2 (z:β)(n:Int)(h:Nat->Int):∀ m i s k0 k1,q0c9 z n h m i s k0 k1=permL 8 z n h m i s k0 k1:=by
 intro m
 induction m with
 | zero=>intros;rfl
 | succ m ih=>intro s t k0 k1;simp only [q0c9,permL,ih];rfl
theorem q0j3 (z:β){N:Nat}(hN:8<N){m:Nat}(hm:m<=8)(X:Nat->Int)(hX:∀ j,0<=X j)(k:Bool->β):q0ca z N X m k=k (permB 8 m X):=by
 unfold q0ca
 rw [q0j2]
 exact q0ix 8 (by omega) z m hm X hX k hN
theorem q0j4 (z:β){N:Nat}(hN:8<N){m:Nat}(h1:1<=m)(hm:m<=8)(a:Int)(X O:Nat->Int)(hX:∀ j,0<=X j)(k:Bool->β):q0ch z N m a X O k=k (permB 8 m X):=by
 unfold q0ch
 rw [q0j0]
 exact q0it 8 (by omega) z m h1 hm hm X hX k hN
theorem q0j5 (z:β){N:Nat}(hN:8<N){m:Nat}(h1:1<=m)(hm:m<=8)(a:Int)(X O:Nat->Int)(hO:∀ j,0<=O j)(k:Bool->β):q0ck z N m a X O k=k (permB 8 m O):=by
 unfold q0ck
 rw [q0j1]
 exact q0it 8 (by omega) z m h1 hm hm O hO k hN
def q0j6 (n:Nat)(X O:Nat->Int):Bool:=q0ig (fun i=>!(X i==O i)) n 0
noncomputable def gridB (n:Int)(X O:Nat->Int):Bool:=decide (2<=n∧n<=8)&&(permB 8 n.toNat X&&(permB 8 n.toNat O&&q0j6 n.toNat X O))
structure GridP (n:Nat) (X O:Nat->Int):Prop where
 lo:2<=n
 hi:n<=8
 px:PermP 8 n X
 po:PermP 8 n O
 ne:∀ i,i<n->X i≠O i
theorem q0j7 {n:Int}{X O:Nat->Int}:gridB n X O=true↔∃ m:Nat,n=m∧GridP m X O:=by
 unfold gridB
 simp only [Bool.and_eq_true,decide_eq_true_eq,q0io,q0j6,q0ih]
 constructor
 ·rintro ⟨⟨h1,h2⟩,h3,h4,h5⟩
  refine ⟨n.toNat,by omega,by omega,by omega,h3,h4,fun i hi=>?_⟩
  have:=h5 i (by omega) (by omega)
  simpa using this
 ·rintro ⟨m,rfl,g⟩
  have:=g.lo
  have:=g.hi
  refine ⟨by omega,g.px,g.po,fun j _ h=>?_⟩
  have:=g.ne j (by simpa using h)
  simpa using this
theorem q0j8 {n:Int}{X O:Nat->Int}(h:¬ (2<=n∧n<=8)):gridB n X O=false:=by unfold gridB;rw [decide_eq_false h];rfl
theorem q0j9 (z:β){N:Nat}(hN:8<N)(n:Int)(X O:Nat->Int)(hX:∀ j,0<=X j)(hO:∀ j,0<=O j)(k:Bool->β):q0cd z N n X O k=k (gridB n X O):=by
 unfold q0cd
 rw [q0iz]
 by_cases h:2<=n∧n<=8
 ·obtain ⟨m,rfl⟩:∃ m:Nat,n=(m:Int):=⟨n.toNat,by omega⟩
  simp only [decide_eq_true h,Bool.not_true,q0ia]
  rw [q0j3 z hN (by omega) X hX]
  unfold gridB
  rw [decide_eq_true h,Int.toNat_natCast]
  cases permB 8 m X with
  | false=>rfl
  | true=>
   simp only [Bool.not_true,q0ia,Bool.true_and]
   rw [q0j3 z hN (by omega) O hO]
   cases permB 8 m O with
   | false=>rfl
   | true=>
    simp only [Bool.not_true,q0ia,Bool.true_and]
    have:=q0ii (L:=fun j i=>q0cc z m X O j (i:Int) (k false) (k true)) (n:=m) (kt:=k true) (kf:=k false) (p:=fun i=>!(X i==O i))
     (fun j i hi=>by
      simp only [q0cc,q0cb,c_and,Int.toNat_natCast]
      simp (disch:=omega) only [c_lt,c_le,c_blt,q0i8,c_not]
      rfl)
     (fun j=>by simp (disch:=omega) only [q0cc,q0cb,c_nlt]) m N 0 (by omega) (by omega)
    refine this.trans ?_
    unfold q0j6
    cases q0ig (fun i=>!(X i==O i)) m 0<;>rfl
 ·simp only [decide_eq_false h,Bool.not_false,q0i9]
  rw [q0j8 h]
theorem q0ja (z:β){N:Nat}(hN:8<N)(n:Int)(X O:Nat->Int)(hX:∀ j,0<=X j)(hO:∀ j,0<=O j)(k:Bool->β):q0cn z N n X O k=k (gridB n X O):=by
 unfold q0cn
 rw [q0iy]
 by_cases h:2<=n∧n<=8
 ·obtain ⟨m,rfl⟩:∃ m:Nat,n=(m:Int):=⟨n.toNat,by omega⟩
  simp only [decide_eq_true h,Bool.not_true,q0ia,q0ce]
  rw [q0j4 z hN (by omega) (by omega) _ X O hX]
  unfold gridB
  rw [decide_eq_true h,Int.toNat_natCast]
  cases permB 8 m X with
  | false=>rfl
  | true=>
   simp only [Bool.not_true,q0ia,Bool.true_and]
   rw [q0j5 z hN (by omega) (by omega) _ X O hO]
   cases permB 8 m O with
   | false=>rfl
   | true=>
    simp only [Bool.not_true,q0ia,Bool.true_and]
    have:=q0ii (L:=fun j i=>q0cm z m m X O j (i:Int) (k false) (k true)) (n:=m) (kt:=k true) (kf:=k false) (p:=fun i=>!(X i==O i))
     (fun j i hi=>by
      simp only [q0cm,q0cl,c_and,Int.toNat_natCast]
      simp (disch:=omega) only [c_lt,c_le,c_blt,q0i8,c_not]
      rfl)
     (fun j=>by simp (disch:=omega) only [q0cm,q0cl,c_nlt]) m N 0 (by omega) (by omega)
    refine this.trans ?_
    unfold q0j6
    cases q0ig (fun i=>!(X i==O i)) m 0<;>rfl
 ·simp only [decide_eq_false h,Bool.not_false,q0i9]
  rw [q0j8 h]
end
end Go.AM
namespace Go.AM
section
variable {β:Type}
def q0jb (X O:Nat->Int)(i:Nat)(h:(Nat->Int)×(Nat->Int)):(Nat->Int)×(Nat->Int):=
 (upd h.1 (O i).toNat (wrapU .u8 i),upd h.2 (X i).toNat (wrapU .u8 i))
def q0jc (n:Nat)(X O:Nat->Int):(Nat->Int)×(Nat->Int):=iter (q0jb X O) n 0 (fun _=>0,fun _=>0)
end
end Go.AM
namespace Go.AM
section
variable {β:Type}
theorem q0jd {n:Nat}{X:Nat->Int}(h:PermP 8 n X)(hX:∀ j,0<=X j){r:Nat}(hr:r<n):∃ i,i<n∧X i=r:=by
 obtain ⟨i,h1,h2⟩:=q0ik n (fun i=>(X i).toNat) (fun i hi=>by have:=h.2.1 i hi;have:=hX i;omega) (fun i j hi hj e=>h.2.2 i j hi hj (by have:=hX i;have:=hX j;omega)) r hr
 exact ⟨i,h1,by have:=hX i;omega⟩
noncomputable def rowOf (n:Nat)(X:Nat->Int)(r:Nat):Nat:=@dite _ (∃ i,i<n∧X i=r) (Classical.propDecidable _) (fun h=>Classical.choose h) (fun _=>0)
theorem q0je {n:Nat}{X:Nat->Int}(h:PermP 8 n X)(hX:∀ j,0<=X j){r:Nat}(hr:r<n):rowOf n X r<n∧X (rowOf n X r)=r:=by
 have hx:=q0jd h hX hr
 unfold rowOf
 rw [dif_pos hx]
 exact Classical.choose_spec hx
theorem q0jf {n:Nat}{X:Nat->Int}(h:PermP 8 n X)(hX:∀ j,0<=X j){r i:Nat}(hi:i<n)(hr:X i=r):rowOf n X r=i:=by
 have:=h.2.1 i hi
 have h2:=q0je h hX (r:=r) (by omega)
 exact h.2.2 _ _ h2.1 hi (by omega)
theorem q0jg (z:β){N:Nat}(hN:8<N){n:Nat}(h8:n<=8){X:Nat->Int}(h:PermP 8 n X)(hX:∀ j,0<=X j){r:Nat}(hr:r<n)(k:Int->β):q0cq z N X n r k=k (rowOf n X r):=by
 unfold q0cq
 obtain ⟨h1,h2⟩:=q0je h hX hr
 have key:∀ (d i m:Nat),i+d=rowOf n X r->d<m->q0cp z n r X m (i:Int) k (k 0)=k (rowOf n X r):=by
  intro d
  induction d with
  | zero=>
   intro i m hi hm
   obtain ⟨m,rfl⟩:∃ m',m=m'+1:=⟨m-1,by omega⟩
   have e:i=rowOf n X r:=by omega
   subst e
   simp only [q0cp,q0co,c_and,Int.toNat_natCast]
   simp (disch:=omega) only [c_lt,c_le,c_blt,c_eq]
  | succ d ih=>
   intro i m hi hm
   obtain ⟨m,rfl⟩:∃ m',m=m'+1:=⟨m-1,by omega⟩
   have hne:X i≠(r:Int):=fun e=>by have:=q0jf h hX (by omega) e;omega
   simp only [q0cp,q0co,c_and,Int.toNat_natCast]
   simp (disch:=omega) only [c_lt,c_le,c_blt,c_neq,q0i8]
   exact ih (i+1) m (by omega) (by omega)
 exact key (rowOf n X r) 0 N (by omega) (by omega)
def plc (n:Nat)(X:Nat->Int):Nat->Int:=iter (fun i h=>upd h (X i).toNat (i:Int)) n 0 (fun _=>0)
theorem q0jh {n:Nat}{X:Nat->Int}(h:PermP 8 n X)(hX:∀ j,0<=X j){r:Nat}(hr:r<n):plc n X r=rowOf n X r:=by
 have:=q0id (f:=fun i (h:Nat->Int)=>upd h (X i).toNat (i:Int)) (I:=fun i h=>∀ j,j<i->h (X j).toNat=j) (n:=n)
  (fun i s hi hs j hj=>by
   simp only [q0ib]
   by_cases e:(X j).toNat=(X i).toNat
   ·rw [if_pos e]
    have:=h.2.2 j i (by omega) hi (by have:=hX i;have:=hX j;omega)
    omega
   ·rw [if_neg e]
    exact hs j (by by_cases e2:j=i;(· subst e2;exact absurd rfl e);omega)) n 0 (fun _=>0) (by omega) (fun j hj=>by omega)
 rw [Nat.zero_add] at this
 obtain ⟨h1,h2⟩:=q0je h hX hr
 have h3:=this _ h1
 rw [h2,Int.toNat_natCast] at h3
 exact h3
theorem q0ji (z:β){N:Nat}(hN:8<N){n:Nat}(h8:n<=8){Y:Nat->Int}(h:PermP 8 n Y)(hY:∀ j,0<=Y j)(X O:Nat->Int)(k:(Nat->Int)->β):q0cy z N n X O Y k=k (plc n Y):=by
 unfold q0cy q0ce
 refine up_to (L:=fun m i h=>q0cx z n n X O Y (fun _=>0) m (i:Int) h k) (n:=n) (out:=k) (f:=fun i h=>upd h (Y i).toNat (i:Int)) (I:=fun _ _=>True)
  (fun m i s hi _=>⟨?_,trivial⟩) (fun m s _=>by simp (disch:=omega) only [q0cx,q0cw,c_nlt]) n N 0 (fun _=>0) (by omega) (by omega) trivial
 have h1:=hY i
 have h3:=h.2.1 i hi
 simp only [q0cx,q0cw,c_and,Int.toNat_natCast]
 simp (disch:=omega) only [c_lt,c_le,c_blt,q0i8]
 rfl
end
end Go.AM
namespace Go.AM
section
variable {β:Type}
end
end Go.AM
namespace Go.AM
section
variable {β:Type}
theorem q0jj {a b:Int}(ha:0<=a):a.tmod b=a%b:=Int.tmod_eq_emod_of_nonneg ha
theorem q0jk {a b:Int}(hb:0<b):-b<a.tmod b∧a.tmod b<b:=by
 refine ⟨?_,Int.tmod_lt_of_pos a hb⟩
 have:=Int.tmod_lt_of_pos (-a) hb
 rw [Int.neg_tmod] at this
 omega
theorem q0jl (a:Int){n:Int}(hn:0<n):(a.tmod n+n).tmod n=a%n:=by
 have h:=q0jk (a:=a) hn
 rw [q0jj (by omega),Int.add_emod_right]
 have h1:a.tmod n=a-n*a.tdiv n:=by have:=Int.mul_tdiv_add_tmod a n;omega
 rw [h1]
 have:a-n*a.tdiv n=a+n*(-(a.tdiv n)):=by rw [Int.mul_neg];omega
 rw [this,Int.add_mul_emod_self_left]
theorem q0jm (a:Int){n:Int}(hn:0<n):0<=a%n∧a%n<n:=⟨Int.emod_nonneg a (by omega),Int.emod_lt_of_pos a hn⟩
def rollF (n:Nat)(X O:Nat->Int)(v u:Int)(i:Nat)(h:(Nat->Int)×(Nat->Int)):(Nat->Int)×(Nat->Int):=
 (upd h.1 ((i+u)%(n:Int)).toNat (wrapU .u8 ((X i+v)%(n:Int))),upd h.2 ((i+u)%(n:Int)).toNat (wrapU .u8 ((O i+v)%(n:Int))))
def rollP (n:Nat)(X O:Nat->Int)(v u:Int):(Nat->Int)×(Nat->Int):=iter (rollF n X O v u) n 0 (fun _=>0,fun _=>0)
theorem q0jn (z:β){N:Nat}(hN:8<N){n:Nat}{X O:Nat->Int}(h2:2<=n)(h8:n<=8)(hX:∀ j,0<=X j∧X j<=255)(hO:∀ j,0<=O j∧O j<=255){v u:Int}(hv:-1000<=v∧v<=1000)(hu:-1000<=u∧u<=1000)(k0:(Nat->Int)->(Nat->Int)->β):
  q0da z N n X O v u k0=k0 (rollP n X O v u).1 (rollP n X O v u).2:=by
 unfold q0da
 refine up_to (L:=fun m i (h:(Nat->Int)×(Nat->Int))=>q0d9 z v u n n X O 0 (fun _=>0) (fun _=>0) n m (i:Int) h.1 h.2 k0) (n:=n) (out:=fun h=>k0 h.1 h.2) (f:=rollF n X O v u) (I:=fun _ _=>True)
  (fun m i s hi _=>⟨?_,trivial⟩) (fun m s _=>by simp (disch:=omega) only [q0d9,q0d8,c_nlt]) n N 0 (fun _=>0,fun _=>0) (by omega) (by omega) trivial
 have h1:=hX i
 have h3:=hO i
 have hn:(0:Int)<n:=by omega
 have b1:=q0jk (a:=(i:Int)+u) hn
 have b2:=q0jk (a:=X i+v) hn
 have b3:=q0jk (a:=O i+v) hn
 have b4:=q0jm ((i:Int)+u) hn
 simp only [q0d9,q0d8,c_and,c_not,Int.toNat_natCast,q0jl _ hn]
 simp (disch:=omega) only [c_lt,c_le,c_blt,q0i8,c_neq]
 rfl
end
end Go.AM
namespace Go.AM
section
variable {β:Type}
def upm (n:Nat)(p:Nat->Int)(left:Nat)(b:Int)(k:Nat):Int:=(p (((left:Int)+k)%n).toNat-b+n)%n
def cntF (n:Nat)(p:Nat->Int)(left:Nat)(b h:Int)(k:Nat)(c:Int):Int:=if upm n p left b k<h then c+1 else c
def cntM (n:Nat)(p:Nat->Int)(left:Nat)(b h:Int)(w:Nat):Int:=iter (cntF n p left b h) w 0 0
def rectL (n:Nat)(X O x:Nat->Int)(left w:Nat):List Int:=
 [(left:Int),x left,(w:Int),upm n x left (x left) w,cntM n X left (x left) (upm n x left (x left) w) w,cntM n O left (x left) (upm n x left (x left) w) w]
end
end Go.AM
namespace Go.AM
section
variable {β:Type}
def recs (n:Nat)(X O x:Nat->Int)(ps:List (Nat×Nat)):List Int:=ps.flatMap fun p=>rectL n X O x p.1 p.2
end
end Go.AM
namespace Go.AM
section
variable {β:Type}
theorem GridP.swap {n:Nat}{X O:Nat->Int}(g:GridP n X O):GridP n O X:=⟨g.lo,g.hi,g.po,g.px,fun i hi=>(g.ne i hi).symm⟩
end
end Go.AM
namespace Go.AM
section
variable {β:Type}
def walkH (nxt:Nat->Nat)(c:Int):Nat->Nat->(Nat->Int)->Nat->Int
 | 0,_,h=>h
 | d+1,k,h=>if h k<0 then walkH nxt c d (nxt k) (upd h k c) else h
def cntU (n:Nat)(h:Nat->Int):Nat:=(List.range n).countP fun j=>decide (h j<0)
theorem q0jo (n:Nat)(h:Nat->Int):cntU n h<=n:=by
 have:=List.countP_le_length (p:=fun j=>decide (h j<0)) (l:=List.range n)
 simpa [cntU] using this
theorem q0jp {n:Nat}{h:Nat->Int}(e:cntU n h=0){k:Nat}(hk:k<n):0<=h k:=by
 unfold cntU at e
 rw [List.countP_eq_zero] at e
 have:=e k (by simpa using hk)
 simpa using this
theorem q0jq {n:Nat}{h:Nat->Int}{k:Nat}(hk:k<n)(hu:h k<0){c:Int}(hc:0<=c):cntU n (upd h k c)+1<=cntU n h:=by
 unfold cntU
 have key:∀ (l:List Nat),k∈l->(l.countP fun j=>decide (upd h k c j<0))+1<=l.countP fun j=>decide (h j<0):=by
  intro l
  have hle:∀ l:List Nat,(l.countP fun j=>decide (upd h k c j<0))<=l.countP fun j=>decide (h j<0):=fun l=>
   List.countP_mono_left fun j _ hj=>by
    rw [decide_eq_true_eq,q0ib] at hj
    split at hj
    ·omega
    ·simpa using hj
  induction l with
  | nil=>intro h;simp at h
  | cons x xs ih=>
   intro hm
   rw [List.countP_cons,List.countP_cons]
   by_cases e:x=k
   ·subst e
    have:=hle xs
    rw [decide_eq_false (show ¬ upd h x c x<0 by rw [q0ib,if_pos rfl];omega),decide_eq_true hu]
    simp
    exact this
   ·have:=ih (by simpa [Ne.symm e] using hm)
    rw [show upd h k c x=h x by rw [q0ib,if_neg e]]
    omega
 exact key _ (by simpa using hk)
theorem q0jr {L:Nat->Nat->(Nat->Int)->β}{out:(Nat->Int)->β}{n:Nat}{nxt:Nat->Nat}{c:Int}(hc:0<=c)(hn:∀ k,k<n->nxt k<n){I:(Nat->Int)->Prop}
  (hI:∀ k h,k<n->I h->h k<0->I (upd h k c))
  (h1:∀ m k h,k<n->I h->h k<0->L (m+1) k h=L m (nxt k) (upd h k c)) (h2:∀ m k h,k<n->I h->0<=h k->L (m+1) k h=out h):
  ∀ (d m k:Nat) (h:Nat->Int),cntU n h<=d->d<m->k<n->I h->L m k h=out (walkH nxt c d k h):=by
 intro d
 induction d with
 | zero=>
  intro m k h hd hm hk hi
  obtain ⟨m,rfl⟩:∃ m',m=m'+1:=⟨m-1,by omega⟩
  exact h2 m k h hk hi (q0jp (by omega) hk)
 | succ d ih=>
  intro m k h hd hm hk hi
  obtain ⟨m,rfl⟩:∃ m',m=m'+1:=⟨m-1,by omega⟩
  simp only [walkH]
  by_cases hu:h k<0
  ·rw [if_pos hu,h1 m k h hk hi hu]
   have:=q0jq hk hu hc
   exact ih m (nxt k) _ (by omega) (by omega) (hn k hk) (hI k h hk hi hu)
  ·rw [if_neg hu]
   exact h2 m k h hk hi (by omega)
theorem q0js (nxt:Nat->Nat)(c:Int):∀ (d k:Nat) (h:Nat->Int) (j:Nat),walkH nxt c d k h j=h j∨(h j<0∧walkH nxt c d k h j=c):=by
 intro d
 induction d with
 | zero=>exact fun k h j=>.inl rfl
 | succ d ih=>
  intro k h j
  simp only [walkH]
  split
  ·rename_i hu
   rcases ih (nxt k) (upd h k c) j with e | ⟨e1,e2⟩
   ·rw [e,q0ib]
    split
    ·rename_i hj;subst hj;exact .inr ⟨hu,rfl⟩
    ·exact .inl rfl
   ·rw [q0ib] at e1
    split at e1
    ·rename_i hj;subst hj;exact .inr ⟨hu,e2⟩
    ·exact .inr ⟨e1,e2⟩
  ·exact .inl rfl
theorem q0jt (nxt:Nat->Nat){c:Int}(hc:0<=c)(d k:Nat)(h:Nat->Int):0<=walkH nxt c (d+1) k h k:=by
 simp only [walkH]
 split
 ·rcases q0js nxt c d (nxt k) (upd h k c) k with e | ⟨_,e⟩
  ·rw [e,q0ib,if_pos rfl];exact hc
  ·rw [e];exact hc
 ·omega
theorem q0ju {nxt:Nat->Nat}{c:Int}{n:Nat}(hn:∀ k,k<n->nxt k<n):∀ (d k:Nat) (h:Nat->Int),k<n->∀ j,n<=j->walkH nxt c d k h j=h j:=by
 intro d
 induction d with
 | zero=>exact fun k h _ j _=>rfl
 | succ d ih=>
  intro k h hk j hj
  simp only [walkH]
  split
  ·rw [ih _ _ (hn k hk) j hj,q0ib,if_neg (by omega)]
  ·rfl
def compF (nxt:Nat->Nat)(n i:Nat)(s:(Nat->Int)×Int):(Nat->Int)×Int:=if s.1 i<0 then (walkH nxt s.2 n i s.1,s.2+1) else s
def compS (nxt:Nat->Nat)(n:Nat):(Nat->Int)×Int:=iter (compF nxt n) n 0 ((fun j=>if j<8 then -1 else 0),0)
structure CompI (n i:Nat) (s:(Nat->Int)×Int):Prop where
 nn:0<=s.2
 le:s.2<=i
 set:∀ j,j<i->0<=s.1 j
 bd:∀ j,j<8->-1<=s.1 j∧s.1 j<s.2∨s.1 j=-1
 rest:∀ j,n<=j->j<8->s.1 j=-1
theorem q0jv {nxt:Nat->Nat}{n i:Nat}(hn:∀ k,k<n->nxt k<n)(hi:i<n){s:(Nat->Int)×Int}(h:CompI n i s):CompI n (i+1) (compF nxt n i s):=by
 unfold compF
 obtain ⟨n',rfl⟩:∃ n',n=n'+1:=⟨n-1,by omega⟩
 split
 ·rename_i hu
  refine ⟨by have:=h.nn;simp only;omega,by have:=h.le;simp only;omega,fun j hj=>?_,fun j hj=>?_,fun j h1 h2=>?_⟩
  ·simp only
   by_cases e:j=i
   ·subst e;exact q0jt nxt h.nn n' j s.1
   ·rcases q0js nxt s.2 (n'+1) i s.1 j with e2 | ⟨_,e2⟩
    ·rw [e2];exact h.set j (by omega)
    ·rw [e2];exact h.nn
  ·simp only
   have h1:=h.bd j hj
   have h2:=h.nn
   rcases q0js nxt s.2 (n'+1) i s.1 j with e2 | ⟨_,e2⟩
   ·rw [e2];omega
   ·rw [e2];omega
  ·simp only
   rw [q0ju hn _ _ _ hi j h1]
   exact h.rest j h1 h2
 ·rename_i hu
  refine ⟨h.nn,by have:=h.le;omega,fun j hj=>?_,h.bd,h.rest⟩
  by_cases e:j=i
  ·subst e;omega
  ·exact h.set j (by omega)
theorem q0jw {nxt:Nat->Nat}{n:Nat}(hn:∀ k,k<n->nxt k<n):CompI n n (compS nxt n):=by
 have:=q0id (f:=compF nxt n) (I:=fun i s=>CompI n i s) (n:=n) (fun i s hi h=>q0jv hn hi h) n 0 ((fun j=>if j<8 then -1 else 0),0) (by omega)
  ⟨Int.le_refl _,Int.le_refl _,fun j hj=>by omega,fun j hj=>by simp [hj],fun j _ hj=>by simp [hj]⟩
 rwa [Nat.zero_add] at this
noncomputable def nxtC (n:Nat)(X O:Nat->Int)(i:Nat):Nat:=rowOf n X (O i).toNat
theorem q0jx {n:Nat}{X O:Nat->Int}(g:GridP n X O)(hX:∀ j,0<=X j)(hO:∀ j,0<=O j):∀ k,k<n->nxtC n X O k<n:=fun k hk=>by
 have o1:=g.po.2.1 k hk
 have o2:=hO k
 exact (q0je g.px hX (by omega)).1
end
end Go.AM
namespace Go.AM
section
variable {β:Type}
end
end Go.AM
namespace Go.AM
section
variable {β:Type}
def betB (x a b:Int):Bool:=decide ((bif decide (b<a) then b else a)<x)&&decide (x<bif decide (a<b) then b else a)
theorem q0jy (z:β)(N:Nat)(x a b:Int)(k:Bool->β):q0de z N x a b k=k (betB x a b):=by
 unfold q0de betB
 cases decide ((bif decide (b<a) then b else a)<x)<;>rfl
noncomputable def q0jz (n:Nat)(X O:Nat->Int)(i r:Nat):Int:=
 cond (betB r (X i) (O i)) (cond (betB i (rowOf n X r) (rowOf n O r)) (cond (decide (X i<O i)==decide ((rowOf n X r:Int)<rowOf n O r)) 1 (-1)) 0) 0
theorem q0k0 (n:Nat)(X O:Nat->Int)(i r:Nat):q0jz n X O i r=0∨q0jz n X O i r=1∨q0jz n X O i r=-1:=by
 unfold q0jz
 cases betB r (X i) (O i)<;>cases betB i (rowOf n X r) (rowOf n O r)<;>cases (decide (X i<O i)==decide ((rowOf n X r:Int)<rowOf n O r))<;>simp
theorem GridP.bdX {n:Nat}{X O:Nat->Int}(g:GridP n X O)(hX:∀ j,0<=X j){i:Nat}(hi:i<n):0<=X i∧X i<n:=by
 have:=g.px.2.1 i hi
 have:=hX i
 omega
noncomputable def q0k1 (n:Nat)(X O:Nat->Int)(i r:Nat)(s:List Int):List Int:=cond (q0jz n X O i r != 0) (s++[(i:Int),(r:Int),q0jz n X O i r]) s
noncomputable def q0k2 (n:Nat)(X O:Nat->Int)(i:Nat)(s:List Int):List Int:=iter (q0k1 n X O i) n 0 s
noncomputable def q0k3 (n:Nat)(X O:Nat->Int):List Int:=iter (q0k2 n X O) n 0 []
structure CrossI (m:Nat) (s:List Int):Prop where
 len:s.length=3*(s.length / 3)
 le:s.length / 3<=m
 sg:∀ j,j<s.length / 3->s[j*3+2]?.getD 0=1∨s[j*3+2]?.getD 0=-1
theorem CrossI.step {m n i r:Nat}{X O:Nat->Int}{s:List Int}(h:CrossI m s):CrossI (m+1) (q0k1 n X O i r s):=by
 unfold q0k1
 have h1:=h.len
 have h2:=h.le
 have hv:=q0k0 n X O i r
 generalize q0jz n X O i r=v at *
 by_cases e:v=0
 ·rw [show (v != 0)=false by simpa using e,q0ia]
  exact ⟨h1,by omega,h.sg⟩
 ·rw [show (v != 0)=true by simpa using e,q0i9]
  have hl:(s++[(i:Int),(r:Int),v]).length=s.length+3:=by simp
  refine ⟨by omega,by omega,fun j hj=>?_⟩
  by_cases e2:j<s.length / 3
  ·rw [List.getElem?_append_left (by omega)];exact h.sg j e2
  ·rw [List.getElem?_append_right (by omega),show j*3+2-s.length=2 by omega]
   simp
   omega
theorem CrossI.row {m n i:Nat}{X O:Nat->Int}{s:List Int}(h:CrossI m s):∀ d,CrossI (m+d) (iter (q0k1 n X O i) d 0 s):=by
 intro d
 induction d with
 | zero=>exact h
 | succ d ih=>rw [q0ic];exact ih.step
theorem CrossI.all {n:Nat}{X O:Nat->Int}:∀ d,CrossI (n*d) (iter (q0k2 n X O) d 0 []):=by
 intro d
 induction d with
 | zero=>exact ⟨by simp [iter],by simp [iter],fun j hj=>by simp [iter] at hj⟩
 | succ d ih=>rw [q0ic,Nat.mul_succ];exact ih.row n
theorem rec3 (i r v:Int):List.map (upd (upd (upd (fun _=>0) 0 i) 1 r) 2 v) (List.range 3)=[i,r,v]:=rfl
theorem q0k4 (z:β){N:Nat}(hN:8<N){n:Nat}{X O:Nat->Int}(g:GridP n X O)(hX:∀ j,0<=X j)(hO:∀ j,0<=O j){i m0:Nat}(hi:i<n)(hm0:m0<=1000){s0:List Int}(h0:CrossI m0 s0)(a b:Int)(k:Nat->Nat->Nat->List Int->β):
  q0dg z N i a b n n X O (plc n X) (plc n O) N s0.length (s0.length / 3) (s0.length / 3) 0 s0 k=k (q0k2 n X O i s0).length ((q0k2 n X O i s0).length / 3) ((q0k2 n X O i s0).length / 3) (q0k2 n X O i s0):=by
 have h8:=g.hi
 exact up_to (L:=fun m r (s:List Int)=>q0dg z N i a b n n X O (plc n X) (plc n O) m s.length (s.length / 3) (s.length / 3) (r:Int) s k) (n:=n) (out:=fun s=>k s.length (s.length / 3) (s.length / 3) s) (f:=q0k1 n X O i) (I:=fun r s=>CrossI (m0+r) s)
  (fun m r s hr hs=>⟨by
   have h1:=hs.len
   have h2:=hs.le
   have hl:∀ v,(s++[(i:Int),(r:Int),v]).length=s.length+3:=by simp
   have p1:=q0jh g.px hX hr
   have p2:=q0jh g.po hO hr
   have hne:(rowOf n X r:Int)≠rowOf n O r:=fun e=>by
    have e1:=q0je g.px hX hr
    have e2:=q0je g.po hO hr
    have:=g.ne (rowOf n X r) e1.1
    rw [e1.2,show rowOf n X r=rowOf n O r by omega,e2.2] at this
    exact this rfl
   have hd:(decide (X i<O i) != decide ((rowOf n O r:Int)<rowOf n X r))=(decide (X i<O i)==decide ((rowOf n X r:Int)<rowOf n O r)):=by
    by_cases e:(rowOf n X r:Int)<rowOf n O r
    ·rw [decide_eq_true e,decide_eq_false (show ¬ (rowOf n O r:Int)<rowOf n X r by omega)];cases decide (X i<O i)<;>rfl
    ·rw [decide_eq_false e,decide_eq_true (show (rowOf n O r:Int)<rowOf n X r by omega)];cases decide (X i<O i)<;>rfl
   simp only [q0dg,q0df,c_and,Int.toNat_natCast,p1,p2,q0jy,hd]
   simp (disch:=omega) only [c_lt,c_le,c_blt]
   unfold q0k1 q0jz
   cases betB r (X i) (O i) with
   | false=>
    simp only [Bool.not_false,q0i9,q0ia]
    rw [q0i8 (by omega)]
    rfl
   | true=>
    cases betB i (rowOf n X r) (rowOf n O r) with
    | false=>
     simp only [Bool.not_false,Bool.not_true,q0i9,q0ia]
     rw [q0i8 (by omega)]
     rfl
    | true=>
     cases (decide (X i<O i)==decide ((rowOf n X r:Int)<rowOf n O r)) with
     | true=>
      simp only [Bool.not_true,q0i9,q0ia,rec3,show ((1:Int) != 0)=true from rfl]
      simp (disch:=omega) only [c_ble,q0i6,c_beq,q0i8]
      rw [hl,show (s.length+3) / 3=s.length / 3+1 by omega]
      rfl
     | false=>
      simp only [Bool.not_true,q0i9,q0ia,rec3,show ((-1:Int) != 0)=true from rfl]
      simp (disch:=omega) only [c_ble,q0i6,c_beq,q0i8]
      rw [hl,show (s.length+3) / 3=s.length / 3+1 by omega]
      rfl,hs.step⟩)
  (fun m s _=>by simp (disch:=omega) only [q0dg,q0df,c_nlt]) n N 0 s0 (by omega) (by omega) h0
theorem q0k5 (z:β){N:Nat}(hN:8<N){n:Nat}{X O:Nat->Int}(g:GridP n X O)(hX:∀ j,0<=X j)(hO:∀ j,0<=O j)(k:Nat->Nat->Nat->List Int->β):
  q0dj z N n X O k=k (q0k3 n X O).length ((q0k3 n X O).length / 3) ((q0k3 n X O).length / 3) (q0k3 n X O):=by
 have h8:=g.hi
 unfold q0dj q0ce
 rw [q0ji z hN h8 g.px hX,q0ji z hN h8 g.po hO]
 exact up_to (L:=fun m i (s:List Int)=>q0di z N n n X O (plc n X) (plc n O) m s.length (s.length / 3) (s.length / 3) (i:Int) s k) (n:=n) (out:=fun s=>k s.length (s.length / 3) (s.length / 3) s) (f:=q0k2 n X O) (I:=fun i s=>CrossI (n*i) s)
  (fun m i s hi hs=>⟨by
   have:n*i<=8*8:=Nat.mul_le_mul h8 (by omega)
   simp only [q0di,q0dh,q0ce]
   rw [c_lt (by omega),q0k4 z hN g hX hO hi (by omega) hs,q0i8 (by omega)]
   rfl,by rw [Nat.mul_succ];exact hs.row n⟩)
  (fun m s _=>by simp (disch:=omega) only [q0di,q0dh,c_nlt]) n N 0 [] (by omega) (by omega) (CrossI.all (X:=X) (O:=O) 0)
theorem q0k6 {n:Nat}(X O:Nat->Int)(h8:n<=8):CrossI 64 (q0k3 n X O):=by
 have h:CrossI (n*n) (q0k3 n X O):=CrossI.all (n:=n) (X:=X) (O:=O) n
 have:n*n<=8*8:=Nat.mul_le_mul h8 h8
 exact ⟨h.len,by have:=h.le;omega,h.sg⟩
theorem q0k7 {x m:Int}(h:-m<=x∧x<=m):-m<=x.tdiv 2∧x.tdiv 2<=m:=by
 cases x with
 | ofNat a=>
  have:(Int.ofNat a).tdiv 2=((a / 2:Nat):Int):=rfl
  have e:Int.ofNat a=(a:Int):=rfl
  rw [this]
  rw [e] at h
  omega
 | negSucc a=>
  have:(Int.negSucc a).tdiv 2=-(((a+1) / 2:Nat):Int):=rfl
  have e:Int.negSucc a=-((a:Int)+1):=rfl
  rw [this]
  rw [e] at h
  omega
end
end Go.AM
namespace Go.AM
section
variable {β:Type}
def upH (h:Nat->Int):Nat->Int:=fun j=>if j<8 then h j+1 else 0
theorem q0k8 {h:Nat->Int}{k:Nat}(hk:k<8)(c:Int):upd (upH h) k (c+1)=upH (upd h k c):=by
 funext j
 unfold upH
 simp only [q0ib]
 by_cases e:j=k
 ·subst e;rw [if_pos rfl,if_pos rfl,if_pos hk]
 ·rw [if_neg e,if_neg e]
theorem q0k9 (z:β){N:Nat}(hN:8<N){n:Nat}{X O:Nat->Int}(g:GridP n X O)(hX:∀ j,0<=X j)(hO:∀ j,0<=O j)(k:(Nat->Int)->Int->β):
  q0dq z N n X O k=k (fun j=>if j<n then (compS (nxtC n X O) n).1 j else 0) (compS (nxtC n X O) n).2:=by
 have h8:=g.hi
 unfold q0dq q0ce
 rw [q0ji z hN h8 g.px hX]
 have hlt:=q0jx g hX hO
 have inv:=q0jw hlt
 have main:∀ kk:Int->(Nat->Int)->β,q0dn z N n n X O (fun _=>0) (plc n X) N 0 0 (fun _=>0) kk=kk (compS (nxtC n X O) n).2 (upH (compS (nxtC n X O) n).1):=by
  intro kk
  have e0:(fun _:Nat=>(0:Int))=upH fun j=>if j<8 then -1 else 0:=by
   funext j
   unfold upH
   by_cases e:j<8
   ·simp only [if_pos e];rfl
   ·simp only [if_neg e]
  have hst:=up_to (L:=fun m i s=>q0dn z N n n X O (fun _=>0) (plc n X) m s.2 (i:Int) (upH s.1) kk) (n:=n) (out:=fun s=>kk s.2 (upH s.1)) (f:=compF (nxtC n X O) n) (I:=CompI n)
   (fun m i s hi hI=>⟨?_,q0jv hlt hi hI⟩) (fun m s _=>by simp (disch:=omega) only [q0dn,q0dm,c_nlt]) n N 0 ((fun j=>if j<8 then -1 else 0),0) (by omega) (by omega)
   ⟨Int.le_refl _,Int.le_refl _,fun j hj=>by omega,fun j hj=>by simp [hj],fun j _ hj=>by simp [hj]⟩
  ·rw [<- e0] at hst
   exact hst
  have h1:=hI.nn
  have h2:=hI.le
  have walk:∀ kk:(Nat->Int)->β,q0dl z (s.2+1) n i n X O (fun _=>0) (plc n X) N (i:Int) (upH s.1) kk=kk (upH (walkH (nxtC n X O) s.2 n i s.1)):=by
   intro kk
   refine q0jr (L:=fun m k h=>q0dl z (s.2+1) n i n X O (fun _=>0) (plc n X) m (k:Int) (upH h) kk) (out:=fun h=>kk (upH h)) (n:=n) (nxt:=nxtC n X O) (c:=s.2) h1 hlt (I:=fun h=>∀ j,j<8->-1<=h j) (fun k h hk hI hu j hj=>by
     rw [q0ib];split
     ·omega
     ·exact hI j hj)
    (fun m k h hk hh hu=>?_) (fun m k h hk hh hu=>?_) n N i s.1 (q0jo _ _) (by omega) hi (fun j hj=>by have:=hI.bd j hj;omega)
   ·have o1:=g.swap.bdX hO hk
    have e:upH h k=0:=by unfold upH;rw [if_pos (by omega)];have:=hh k (by omega);omega
    have ep:plc n X (O k).toNat=(nxtC n X O k:Int):=q0jh g.px hX (by omega)
    simp only [q0dl,q0dk,c_and,Int.toNat_natCast,e,ep]
    simp (disch:=omega) only [c_lt,c_le,c_blt,c_eq]
    rw [q0k8 (by omega)]
   ·have e:upH h k≠0:=by unfold upH;rw [if_pos (by omega)];omega
    simp only [q0dl,q0dk,c_and,Int.toNat_natCast]
    simp (disch:=omega) only [c_lt,c_le,c_blt,c_neq]
  have e:upH s.1 i=s.1 i+1:=by unfold upH;rw [if_pos (by omega)]
  simp only [q0dn,q0dm,c_and,Int.toNat_natCast,walk,e]
  simp (disch:=omega) only [c_lt,c_le,c_blt,q0i8]
  unfold compF
  by_cases hu:s.1 i<0
  ·rw [c_nlt (by omega),if_pos hu]
   rfl
  ·rw [c_lt (by omega),if_neg hu]
   rfl
 rw [main]
 generalize hs:compS (nxtC n X O) n=s at *
 refine (up_to (L:=fun m i h=>q0dp z s.2 n n X O (fun _=>0) (plc n X) m (i:Int) h fun q9=>k q9 s.2) (n:=n) (out:=fun h=>k h s.2) (f:=fun i h=>upd h i (h i-1)) (I:=fun i h=>∀ j,h j=if j<i then s.1 j else upH s.1 j)
  (fun m i h hi hh=>⟨by
   have e1:=hh i
   have e2:=inv.bd i (by omega)
   have e3:=inv.le
   rw [if_neg (by omega)] at e1
   unfold upH at e1
   rw [if_pos (by omega)] at e1
   simp only [q0dp,q0do,c_and,Int.toNat_natCast]
   simp (disch:=omega) only [c_lt,c_le,c_blt,q0i8]
   rfl,fun j=>by
   rw [q0ib]
   by_cases e:j=i
   ·subst e
    rw [if_pos rfl,if_pos (by omega),hh j,if_neg (by omega)]
    unfold upH
    rw [if_pos (by omega)]
    omega
   ·rw [if_neg e,hh j]
    by_cases e2:j<i
    ·rw [if_pos e2,if_pos (by omega)]
    ·rw [if_neg e2,if_neg (by omega)]⟩)
  (fun m s _=>by simp (disch:=omega) only [q0dp,q0do,c_nlt]) n N 0 (upH s.1) (by omega) (by omega) (fun j=>by rw [if_neg (by omega)])).trans ?_
 congr 1
 have key:=q0id (f:=fun i (h:Nat->Int)=>upd h i (h i-1)) (n:=n) (I:=fun i h=>∀ j,h j=if j<i then s.1 j else upH s.1 j) (fun i h hi hh j=>by
   rw [q0ib]
   by_cases e:j=i
   ·subst e
    rw [if_pos rfl,if_pos (by omega),hh j,if_neg (by omega)]
    unfold upH
    rw [if_pos (by omega)]
    omega
   ·rw [if_neg e,hh j]
    by_cases e2:j<i
    ·rw [if_pos e2,if_pos (by omega)]
    ·rw [if_neg e2,if_neg (by omega)]) n 0 (upH s.1) (by omega) (fun j=>by rw [if_neg (by omega)])
 funext j
 rw [Nat.zero_add] at key
 rw [key j]
 by_cases e:j<n
 ·rw [if_pos e,if_pos e]
 ·rw [if_neg e,if_neg e]
  unfold upH
  by_cases e2:j<8
  ·rw [if_pos e2,inv.rest j (by omega) e2];rfl
  ·rw [if_neg e2]
end
end Go.AM
namespace Go.AM
section
variable {β:Type}
abbrev idAt (ids:List (Nat×Nat))(i:Nat):Nat×Nat:=ids[i]?.getD (0,0)
abbrev rowAt (T:List (List Int))(i:Nat):List Int:=T[i]?.getD []
structure TabP (ids:List (Nat×Nat)) (pool T:List (List Int)):Prop where
 len:T.length<=ids.length
 lt:∀ i,i<T.length->(idAt ids i).1<pool.length
 sz:∀ i,i<T.length->(idAt ids i).2=(rowAt T i).length
 row:∀ i,i<T.length->rowAt pool (idAt ids i).1=rowAt T i
 inj:∀ i j,i<T.length->j<T.length->(idAt ids i).1=(idAt ids j).1->i=j
def total (T:List (List Int)):Nat->Nat
 | 0=>0
 | i+1=>total T i+(rowAt T i).length
structure SmallT (N:Nat) (T:List (List Int)):Prop where
 rows:T.length<N∧T.length<=1000
 cols:∀ i,i<T.length->(rowAt T i).length<N∧(rowAt T i).length<=1000
def MarkR (k0:Int)(L:Nat)(xs:List Int):Prop:=xs.length=L∧∀ j,j<L->xs[j]?.getD 0=k0+j
theorem q0ka {P:List (List Int)}{a:Nat}{ys:List Int}(ha:a<P.length)(b:Nat):rowAt (P.set a ys) b=if b=a then ys else rowAt P b:=by
 unfold rowAt
 rw [List.getElem?_set]
 by_cases e:b=a
 ·subst e;rw [if_pos rfl,if_pos ha,if_pos rfl];rfl
 ·rw [if_neg (Ne.symm e),if_neg e]
structure TabM (ids:List (Nat×Nat)) (P T:List (List Int)):Prop where
 len:T.length<=ids.length
 sz:∀ i,i<T.length->(idAt ids i).2=(rowAt T i).length
 row:∀ i,i<T.length->MarkR (1+total T i) (rowAt T i).length (rowAt P (idAt ids i).1)
def idsOf (T:List (List Int)):List (Nat×Nat):=(List.range T.length).map fun i=>(i,(rowAt T i).length)
theorem q0kb (T:List (List Int)):(idsOf T).length=T.length:=by simp [idsOf]
theorem q0kc (T:List (List Int)){i:Nat}(hi:i<T.length):idAt (idsOf T) i=(i,(rowAt T i).length):=by
 simp [idAt,idsOf,hi]
theorem q0kd (T:List (List Int))(x:List Int):idsOf (T++[x])=idsOf T++[(T.length,x.length)]:=by
 unfold idsOf
 rw [List.length_append,List.length_singleton,List.range_succ,List.map_append]
 congr 1
 ·refine List.map_congr_left fun i hi=>?_
  rw [List.mem_range] at hi
  unfold rowAt
  rw [List.getElem?_append_left hi]
 ·simp [rowAt]
end
end Go.AM
namespace Go.AM
abbrev Mat:=Nat->Nat->Int
structure TabF (ids:List (Nat×Nat)) (pool:List (List Int)) (R W:Nat) (m:Mat):Prop where
 len:R<=ids.length
 lt:∀ i,i<R->(idAt ids i).1<pool.length
 sz:∀ i,i<R->(idAt ids i).2=W
 wide:∀ i,i<R->(rowAt pool (idAt ids i).1).length=W
 cell:∀ i j,i<R->j<W->(rowAt pool (idAt ids i).1)[j]?.getD 0=m i j
 inj:∀ i j,i<R->j<R->(idAt ids i).1=(idAt ids j).1->i=j
def putM (m:Mat)(i j:Nat)(v:Int):Mat:=fun i' j'=>if i'=i∧j'=j then v else m i' j'
def putP (ids:List (Nat×Nat))(pool:List (List Int))(i j:Nat)(v:Int):List (List Int):=pool.set (idAt ids i).1 ((rowAt pool (idAt ids i).1).set j v)
theorem TabF.put {ids:List (Nat×Nat)}{pool:List (List Int)}{R W:Nat}{m:Mat}(h:TabF ids pool R W m){i j:Nat}(hi:i<R)(hj:j<W)(v:Int):TabF ids (putP ids pool i j v) R W (putM m i j v):=by
 have hlt:=h.lt i hi
 have e:=fun b=>q0ka (P:=pool) (ys:=(rowAt pool (idAt ids i).1).set j v) hlt b
 unfold putP
 refine ⟨h.len,fun i' hi'=>by rw [List.length_set];exact h.lt i' hi',h.sz,fun i' hi'=>?_,fun i' j' hi' hj'=>?_,h.inj⟩
 ·rw [e];split
  ·rw [List.length_set];exact h.wide i hi
  ·exact h.wide i' hi'
 ·rw [e]
  unfold putM
  by_cases e1:i'=i
  ·subst e1
   rw [if_pos rfl,List.getElem?_set]
   by_cases e2:j'=j
   ·subst e2;rw [if_pos rfl,if_pos (by rw [h.wide i' hi'];exact hj),if_pos ⟨rfl,rfl⟩];rfl
   ·rw [if_neg (Ne.symm e2),if_neg (fun hh=>e2 hh.2)];exact h.cell i' j' hi' hj'
  ·rw [if_neg (fun hh=>e1 (h.inj _ _ hi' hi hh)),if_neg (fun hh=>e1 hh.1)];exact h.cell i' j' hi' hj'
theorem TabF.of_app {T:List (List Int)}{R W:Nat}{m:Mat}(hl:T.length=R)(hw:∀ i,i<R->(rowAt T i).length=W)(hc:∀ i j,i<R->j<W->(rowAt T i)[j]?.getD 0=m i j):TabF (idsOf T) T R W m:=by
 refine ⟨by rw [q0kb];omega,fun i hi=>?_,fun i hi=>?_,fun i hi=>?_,fun i j hi hj=>?_,fun i j hi hj e=>?_⟩
 ·rw [q0kc T (by omega)];show i<T.length;omega
 ·rw [q0kc T (by omega)];exact hw i hi
 ·rw [q0kc T (by omega)];exact hw i hi
 ·rw [q0kc T (by omega)];exact hc i j hi hj
 ·rw [q0kc T (by omega),q0kc T (by omega)] at e;exact e
end Go.AM
namespace Go.AM
section
variable {β:Type}
def q0ke (n:Nat)(s:List Int):Prop:=∀ j,j<s.length / 3->∃ i r:Nat,i<n∧r<n∧s[j*3]?.getD 0=i∧s[j*3+1]?.getD 0=r
theorem q0ke.step {m n i r:Nat}{X O:Nat->Int}{s:List Int}(h:CrossI m s)(hb:q0ke n s)(hi:i<n)(hr:r<n):q0ke n (q0k1 n X O i r s):=by
 unfold q0k1
 have h1:=h.len
 generalize q0jz n X O i r=v at *
 by_cases e:v=0
 ·rw [show (v != 0)=false by simpa using e,q0ia];exact hb
 ·rw [show (v != 0)=true by simpa using e,q0i9]
  have hl:(s++[(i:Int),(r:Int),v]).length=s.length+3:=by simp
  intro j hj
  by_cases e2:j<s.length / 3
  ·rw [List.getElem?_append_left (by omega),List.getElem?_append_left (by omega)];exact hb j e2
  ·rw [List.getElem?_append_right (by omega),List.getElem?_append_right (by omega),show j*3-s.length=0 by omega,show j*3+1-s.length=1 by omega]
   exact ⟨i,r,hi,hr,rfl,rfl⟩
theorem q0ke.row {m n i:Nat}{X O:Nat->Int}{s:List Int}(h:CrossI m s)(hb:q0ke n s)(hi:i<n):∀ d,d<=n->q0ke n (iter (q0k1 n X O i) d 0 s):=by
 intro d
 induction d with
 | zero=>exact fun _=>hb
 | succ d ih=>intro hd;rw [q0ic];exact q0ke.step (h.row d) (ih (by omega)) hi (by omega)
theorem q0ke.all {n:Nat}{X O:Nat->Int}:∀ d,d<=n->q0ke n (iter (q0k2 n X O) d 0 []):=by
 intro d
 induction d with
 | zero=>exact fun _ j hj=>by simp [iter] at hj
 | succ d ih=>intro hd;rw [q0ic];exact q0ke.row (CrossI.all d) (ih (by omega)) (by omega) n (Nat.le_refl n)
structure LinkP (n cnt:Nat) (X:Nat->Int) (wh:Nat->Nat) (xs:List Int):Prop where
 c:CrossI 64 xs
 b:q0ke n xs
 wh:∀ i,i<n->wh i<cnt
 cn:cnt<=n
 h8:n<=8
noncomputable def lA (wh:Nat->Nat)(xs:List Int)(j:Nat):Nat:=wh (xs[j*3]?.getD 0).toNat
noncomputable def lB (n:Nat)(X:Nat->Int)(wh:Nat->Nat)(xs:List Int)(j:Nat):Nat:=wh (rowOf n X (xs[j*3+1]?.getD 0).toNat)
structure DiagP (ids:List (Nat×Nat)) (pool:List (List Int)) (cnt:Nat) (D:Nat->Int):Prop where
 len:ids.length=cnt
 sz:∀ i,i<cnt->(idAt ids i).2=cnt
 wide:∀ i,i<cnt->(rowAt pool (idAt ids i).1).length=cnt
 cell:∀ i,i<cnt->(rowAt pool (idAt ids i).1)[i]?.getD 0=D i
theorem q0kf {T:List (List Int)}{x:List Int}{a:Nat}(h:a<T.length):rowAt (T++[x]) a=rowAt T a:=by
 unfold rowAt;rw [List.getElem?_append_left h]
theorem q0kg {T:List (List Int)}{x:List Int}:rowAt (T++[x]) T.length=x:=by
 unfold rowAt;rw [List.getElem?_append_right (Nat.le_refl _)];simp
end
end Go.AM
namespace Go.AM
section
variable {β:Type}
theorem len1 {γ:Type}(s:List γ)(x:γ):(s++[x]).length=s.length+1:=by simp
end
end Go.AM
namespace Go.AM
section
variable {β:Type}
structure WInv (nxt:Nat->Nat) (n st:Nat) (h:Nat->Int) (k:Nat):Prop where
 lt:k<n
 fresh:h k<0
 back:∀ x,x<n->0<=h (nxt x)->nxt x=st∨0<=h x
 prev:k=st∨∃ p,p<n∧0<=h p∧nxt p=k
 stv:k=st∨0<=h st
def BackC (nxt:Nat->Nat)(n:Nat)(h:Nat->Int):Prop:=∀ x,x<n->0<=h (nxt x)->0<=h x
theorem WInv.start {nxt:Nat->Nat}{n k:Nat}{h:Nat->Int}(hk:k<n)(hf:h k<0)(hb:BackC nxt n h):WInv nxt n k h k:=
 ⟨hk,hf,fun x hx hv=>.inr (hb x hx hv),.inl rfl,.inl rfl⟩
theorem WInv.step {nxt:Nat->Nat}{n st k:Nat}{h:Nat->Int}{c:Int}(hn:∀ k,k<n->nxt k<n)(hi:∀ a b,a<n->b<n->nxt a=nxt b->a=b)(hc:0<=c)(w:WInv nxt n st h k)(hne:nxt k≠st):
  WInv nxt n st (upd h k c) (nxt k):=by
 have hk:=w.lt
 have hfr:=w.fresh
 have hself:nxt k≠k:=fun e=>by
  rcases w.prev with e2 | ⟨p,hp,hv,e2⟩
  ·exact hne (e.trans e2)
  ·have:=hi p k hp hk (e2.trans e.symm)
   subst this
   omega
 refine ⟨hn k hk,?_,fun x hx hv=>?_,.inr ⟨k,hk,?_,rfl⟩,.inr ?_⟩
 ·rw [q0ib,if_neg hself]
  rcases Int.lt_or_le (h (nxt k)) 0 with h1 | h1
  ·exact h1
  ·rcases w.back k hk h1 with e | e
   ·exact absurd e hne
   ·omega
 ·rw [q0ib] at hv
  rw [q0ib]
  by_cases ex:x=k
  ·right;rw [if_pos ex];exact hc
  ·rw [if_neg ex]
   by_cases e:nxt x=k
   ·rcases w.prev with e2 | ⟨p,hp,hpv,e2⟩
    ·exact .inl (e.trans e2)
    ·have:=hi p x hp hx (e2.trans e.symm)
     subst this
     exact .inr hpv
   ·rw [if_neg e] at hv
    exact w.back x hx hv
 ·rw [q0ib,if_pos rfl];exact hc
 ·rw [q0ib]
  split
  ·exact hc
  ·rename_i e
   rcases w.stv with e2 | e2
   ·exact absurd e2.symm e
   ·exact e2
theorem WInv.done {nxt:Nat->Nat}{n st k:Nat}{h:Nat->Int}{c:Int}(hi:∀ a b,a<n->b<n->nxt a=nxt b->a=b)(hc:0<=c)(w:WInv nxt n st h k)(he:nxt k=st):BackC nxt n (upd h k c):=by
 intro x hx hv
 rw [q0ib] at hv ⊢
 by_cases ex:x=k
 ·rw [if_pos ex];exact hc
 ·rw [if_neg ex]
  by_cases e:nxt x=k
  ·rcases w.prev with e2 | ⟨p,hp,hpv,e2⟩
   ·exact absurd (hi x k hx w.lt ((e.trans e2).trans he.symm)) ex
   ·have:=hi p x hp hx (e2.trans e.symm)
    subst this
    exact hpv
  ·rw [if_neg e] at hv
   rcases w.back x hx hv with e3 | e3
   ·exact absurd (hi x k hx w.lt (e3.trans he.symm)) ex
   ·exact e3
theorem WInv.stSet {nxt:Nat->Nat}{n st k:Nat}{h:Nat->Int}{c:Int}(hc:0<=c)(w:WInv nxt n st h k):0<=upd h k c st:=by
 rw [q0ib]
 split
 ·exact hc
 ·rename_i e
  rcases w.stv with e2 | e2
  ·exact absurd e2.symm e
  ·exact e2
theorem q0kh {nxt:Nat->Nat}{n st:Nat}{c:Int}(hn:∀ k,k<n->nxt k<n)(hi:∀ a b,a<n->b<n->nxt a=nxt b->a=b)(hc:0<=c):
  ∀ (d k:Nat) (h:Nat->Int),cntU n h<=d->WInv nxt n st h k->BackC nxt n (walkH nxt c d k h):=by
 intro d
 induction d with
 | zero=>
  intro k h hd w
  have:=q0jp (by omega:cntU n h=0) w.lt
  have:=w.fresh
  omega
 | succ d ih=>
  intro k h hd w
  have hcn:=q0jq w.lt w.fresh hc
  simp only [walkH]
  rw [if_pos w.fresh]
  by_cases e:nxt k=st
  ·have hs:walkH nxt c d (nxt k) (upd h k c)=upd h k c:=by
    have:=w.stSet hc
    rw [<- e] at this
    cases d with
    | zero=>rfl
    | succ d=>simp only [walkH];rw [if_neg (by omega)]
   rw [hs]
   exact w.done hi hc e
  ·exact ih _ _ (by omega) (w.step hn hi hc e)
def q0ki (nxt:Nat->Nat)(n i:Nat)(s:((Nat->Int)×Int)×List Nat):((Nat->Int)×Int)×List Nat:=(compF nxt n i s.1,if s.1.1 i<0 then s.2++[i] else s.2)
def q0kj (nxt:Nat->Nat)(n:Nat):((Nat->Int)×Int)×List Nat:=iter (q0ki nxt n) n 0 (((fun j=>if j<8 then -1 else 0),0),[])
theorem q0kk (nxt:Nat->Nat)(n:Nat):(q0kj nxt n).1=compS nxt n:=by
 have key:∀ (d i:Nat) (s:((Nat->Int)×Int)×List Nat),(iter (q0ki nxt n) d i s).1=iter (compF nxt n) d i s.1:=by
  intro d
  induction d with
  | zero=>exact fun i s=>rfl
  | succ d ih=>exact fun i s=>ih (i+1) _
 exact key n 0 _
structure StartI (nxt:Nat->Nat) (n i:Nat) (s:((Nat->Int)×Int)×List Nat):Prop where
 comp:CompI n i s.1
 back:BackC nxt n s.1.1
 len:(s.2.length:Int)=s.1.2
 lt:∀ q,q<s.2.length->s.2[q]?.getD 0<i
 own:∀ q,q<s.2.length->s.1.1 (s.2[q]?.getD 0)=q
 first:∀ q,q<s.2.length->∀ j,j<s.2[q]?.getD 0->s.1.1 j≠q
theorem StartI.step {nxt:Nat->Nat}{n i:Nat}(h8:n<=8)(hn:∀ k,k<n->nxt k<n)(hinj:∀ a b,a<n->b<n->nxt a=nxt b->a=b)(hi:i<n){s:((Nat->Int)×Int)×List Nat}(h:StartI nxt n i s):StartI nxt n (i+1) (q0ki nxt n i s):=by
 have hcomp:=q0jv hn hi h.comp
 obtain ⟨n',rfl⟩:∃ n',n=n'+1:=⟨n-1,by omega⟩
 unfold q0ki
 by_cases hu:s.1.1 i<0
 ·rw [if_pos hu]
  have hcf:compF nxt (n'+1) i s.1=(walkH nxt s.1.2 (n'+1) i s.1.1,s.1.2+1):=by unfold compF;rw [if_pos hu]
  have hnn:=h.comp.nn
  have hlen:=h.len
  have hval:=fun j=>q0js nxt s.1.2 (n'+1) i s.1.1 j
  have hbk:=q0kh (st:=i) (c:=s.1.2) hn hinj hnn (n'+1) i s.1.1 (q0jo _ _) (WInv.start hi hu h.back)
  have hold:∀ j,0<=s.1.1 j->walkH nxt s.1.2 (n'+1) i s.1.1 j=s.1.1 j:=fun j hj=>by
   rcases hval j with e | ⟨e,_⟩
   ·exact e
   ·omega
  have hnew:walkH nxt s.1.2 (n'+1) i s.1.1 i=s.1.2:=by
   have h1:=q0jt nxt hnn n' i s.1.1
   rcases hval i with e | ⟨_,e⟩
   ·omega
   ·exact e
  refine ⟨hcomp,?_,?_,fun q hq=>?_,fun q hq=>?_,fun q hq j hj=>?_⟩
  ·rw [hcf];exact hbk
  ·rw [hcf];simp only [List.length_append,List.length_singleton];omega
  ·rw [len1] at hq
   by_cases e:q=s.2.length
   ·subst e;simp
   ·simp only;rw [List.getElem?_append_left (by omega)];have:=h.lt q (by omega);omega
  ·rw [len1] at hq
   rw [hcf]
   by_cases e:q=s.2.length
   ·subst e;simp only [List.getElem?_append_right (Nat.le_refl _),Nat.sub_self,List.getElem?_cons_zero,Option.getD_some];rw [hnew];omega
   ·simp only;rw [List.getElem?_append_left (by omega),hold _ (by rw [h.own q (by omega)];omega)];exact h.own q (by omega)
  ·rw [len1] at hq
   rw [hcf]
   by_cases e:q=s.2.length
   ·subst e
    simp only [List.getElem?_append_right (Nat.le_refl _),Nat.sub_self,List.getElem?_cons_zero,Option.getD_some] at hj
    simp only
    have hset:=h.comp.set j hj
    rw [hold j hset]
    have:=h.comp.bd j (by omega)
    omega
   ·simp only at hj ⊢
    rw [List.getElem?_append_left (by omega)] at hj
    have hlt:=h.lt q (by omega)
    rw [hold j (h.comp.set j (by omega))]
    exact h.first q (by omega) j hj
 ·rw [if_neg hu]
  have hcf:compF nxt (n'+1) i s.1=s.1:=by unfold compF;rw [if_neg hu]
  rw [hcf] at hcomp ⊢
  exact ⟨hcomp,h.back,h.len,fun q hq=>by have:=h.lt q hq;simp only;omega,h.own,h.first⟩
theorem StartI.zero {nxt:Nat->Nat}{n:Nat}(h8:n<=8)(hn:∀ k,k<n->nxt k<n):StartI nxt n 0 (((fun j=>if j<8 then -1 else 0),0),[]):=
 ⟨⟨Int.le_refl _,Int.le_refl _,fun j hj=>by omega,fun j hj=>by simp [hj],fun j _ hj=>by simp [hj]⟩,fun x hx hv=>by
  simp only at hv
  have:=hn x hx
  rw [if_pos (by omega)] at hv
  omega,rfl,fun q hq=>by simp at hq,fun q hq=>by simp at hq,fun q hq=>by simp at hq⟩
theorem q0kl {nxt:Nat->Nat}{n:Nat}(h8:n<=8)(hn:∀ k,k<n->nxt k<n)(hinj:∀ a b,a<n->b<n->nxt a=nxt b->a=b):StartI nxt n n (q0kj nxt n):=by
 have:=q0id (f:=q0ki nxt n) (n:=n) (I:=fun i s=>StartI nxt n i s) (fun i s hi h=>h.step h8 hn hinj hi) n 0 _ (by omega) (StartI.zero h8 hn)
 rwa [Nat.zero_add] at this
end
end Go.AM
namespace Go.AM
section
variable {β:Type}
theorem q0km {n:Nat}{X O:Nat->Int}(g:GridP n X O)(hX:∀ j,0<=X j)(hO:∀ j,0<=O j):∀ a b,a<n->b<n->nxtC n X O a=nxtC n X O b->a=b:=by
 intro a b ha hb e
 have o1:=g.swap.bdX hO ha
 have o2:=g.swap.bdX hO hb
 unfold nxtC at e
 have e1:=(q0je g.px hX (r:=(O a).toNat) (by omega)).2
 have e2:=(q0je g.px hX (r:=(O b).toNat) (by omega)).2
 rw [e,e2] at e1
 exact g.po.2.2 a b ha hb (by omega)
end
end Go.AM
namespace Go.AM
section
end
end Go.AM
namespace Go.AM
section
def sumI (f:Nat->Int):Nat->Int
 | 0=>0
 | d+1=>sumI f d+f d
theorem q0kn {f g:Nat->Int}:∀ {n:Nat},(∀ i,i<n->f i=g i)->sumI f n=sumI g n:=by
 intro n
 induction n with
 | zero=>intro _;rfl
 | succ n ih=>intro h;rw [sumI,sumI,ih fun i hi=>h i (by omega),h n (by omega)]
theorem q0ko {f g:Nat->Int}{k:Nat}{a:Int}:∀ {n:Nat},k<n->f k=g k+a->(∀ i,i<n->i≠k->f i=g i)->sumI f n=sumI g n+a:=by
 intro n
 induction n with
 | zero=>intro h;omega
 | succ n ih=>
  intro hk h1 h2
  rw [sumI,sumI]
  by_cases e:k=n
  ·subst e
   rw [q0kn fun i hi=>h2 i (by omega) (by omega),h1]
   omega
  ·rw [ih (by omega) h1 fun i hi=>h2 i (by omega),h2 n (by omega) (by omega)]
   omega
theorem q0kp:∀ n,sumI (fun _=>0) n=0:=by
 intro n
 induction n with
 | zero=>rfl
 | succ n ih=>rw [sumI,ih];rfl
theorem q0kq (f g:Nat->Int):∀ n,sumI (fun i=>f i-g i) n=sumI f n-sumI g n:=by
 intro n
 induction n with
 | zero=>rfl
 | succ n ih=>rw [sumI,sumI,sumI,ih];omega
end
end Go.AM
namespace Go.AM
section
theorem q0kr (f g:Nat->Int):∀ n,sumI (fun i=>f i+g i) n=sumI f n+sumI g n:=by
 intro n
 induction n with
 | zero=>rfl
 | succ n ih=>rw [sumI,sumI,sumI,ih];omega
theorem q0ks (f:Nat->Nat->Int)(m:Nat):∀ n,sumI (fun i=>sumI (fun k=>f i k) m) n=sumI (fun k=>sumI (fun i=>f i k) n) m:=by
 intro n
 induction n with
 | zero=>exact (q0kp m).symm
 | succ n ih=>
  rw [sumI,ih,<- q0kr]
  exact q0kn fun k _=>by rw [sumI]
theorem q0kt {n j:Nat}(hj:j<n)(f:Nat->Int):sumI (fun i=>if i=j then f i else 0) n=f j:=by
 rw [q0ko (g:=fun _=>0) (a:=f j) hj (by rw [if_pos rfl];omega) (fun i _ hi=>by rw [if_neg hi]),q0kp]
 omega
theorem q0ku {n:Nat}{σ τ:Nat->Nat}(f:Nat->Int)(h1:∀ i,i<n->σ i<n∧τ (σ i)=i)(h2:∀ j,j<n->τ j<n∧σ (τ j)=j):sumI (fun i=>f (σ i)) n=sumI f n:=by
 have a:sumI (fun i=>f (σ i)) n=sumI (fun i=>sumI (fun j=>if j=σ i then f j else 0) n) n:=q0kn fun i hi=>(q0kt (h1 i hi).1 f).symm
 rw [a,q0ks]
 refine q0kn fun j hj=>?_
 rw [q0kn (g:=fun i=>if i=τ j then f j else 0) fun i hi=>?_,q0kt (h2 j hj).1 fun _=>f j]
 by_cases e:i=τ j
 ·rw [if_pos e,if_pos (by rw [e,(h2 j hj).2])]
 ·rw [if_neg e,if_neg (fun e2=>e (by rw [e2,(h1 i hi).2]))]
theorem q0kv {n:Nat}{X:Nat->Int}(h:PermP 8 n X)(hX:∀ j,0<=X j)(f:Nat->Int):sumI (fun r=>f (rowOf n X r)) n=sumI f n:=by
 refine q0ku (τ:=fun k=>(X k).toNat) f (fun r hr=>?_) (fun k hk=>?_)
 ·obtain ⟨a,b⟩:=q0je h hX hr
  exact ⟨a,by rw [b];omega⟩
 ·have a:=h.2.1 k hk
  have b:=hX k
  exact ⟨by omega,q0jf h hX hk (by omega)⟩
def ind (p:Prop) [Decidable p]:Int:=if p then 1 else 0
theorem q0kw {p:Prop} [Decidable p] (h:p):ind p=1:=if_pos h
theorem q0kx {p:Prop} [Decidable p] (h:¬ p):ind p=0:=if_neg h
theorem q0ky {p q:Prop} [Decidable p] [Decidable q] (h:p↔q):ind p=ind q:=by
 unfold ind
 by_cases hp:p
 ·rw [if_pos hp,if_pos (h.1 hp)]
 ·rw [if_neg hp,if_neg (fun hq=>hp (h.2 hq))]
end
end Go.AM
namespace Go.AM
theorem q0kz {f g:Nat->Int}:∀ {n:Nat},(∀ i,i<n->(f i-g i)%2=0)->(sumI f n-sumI g n)%2=0:=by
 intro n
 induction n with
 | zero=>intro _;rfl
 | succ n ih=>
  intro h
  have h1:=ih fun i hi=>h i (by omega)
  have h2:=h n (by omega)
  rw [sumI,sumI]
  omega
def Bet (x a b:Int):Prop:=(a<x∧x<b)∨(b<x∧x<a)
instance (x a b:Int):Decidable (Bet x a b):=by unfold Bet;infer_instance
theorem q0l0 (x a b:Int):betB x a b=true↔Bet x a b:=by
 unfold betB Bet
 rw [Bool.and_eq_true,decide_eq_true_iff,decide_eq_true_iff]
 rcases Int.lt_or_le b a with h | h
 ·rw [show decide (b<a)=true by simpa using h,show decide (a<b)=false by simp;omega]
  simp only [cond_true,cond_false]
  omega
 ·rw [show decide (b<a)=false by simpa using h]
  by_cases e:a<b
  ·rw [show decide (a<b)=true by simpa using e]
   simp only [cond_true,cond_false]
   omega
  ·rw [show decide (a<b)=false by simpa using e]
   simp only [cond_false]
   omega
theorem q0l1 {x a b:Int}(h1:x≠a)(h2:x≠b):(ind (Bet x a b)-(ind (a<x)+ind (b<x)))%2=0:=by
 by_cases p:a<x<;>by_cases q:b<x
 ·rw [q0kw p,q0kw q,q0kx (by unfold Bet;omega)];rfl
 ·rw [q0kw p,q0kx q,q0kw (by unfold Bet;omega)];rfl
 ·rw [q0kx p,q0kw q,q0kw (by unfold Bet;omega)];rfl
 ·rw [q0kx p,q0kx q,q0kx (by unfold Bet;omega)];rfl
section
variable {n:Nat} {X O:Nat->Int} {wh:Nat->Nat} {a b:Nat}
noncomputable def crI (n:Nat)(X O:Nat->Int)(i r:Nat):Int:=if Bet r (X i) (O i) then ind (Bet i (rowOf n X r) (rowOf n O r)) else 0
theorem q0l2 (i r:Nat):(q0jz n X O i r-crI n X O i r)%2=0:=by
 unfold q0jz crI
 by_cases h1:Bet r (X i) (O i)
 ·rw [(q0l0 _ _ _).2 h1,if_pos h1,q0i9]
  by_cases h2:Bet i (rowOf n X r) (rowOf n O r)
  ·rw [(q0l0 _ _ _).2 h2,q0kw h2,q0i9]
   cases (decide (X i<O i)==decide ((rowOf n X r:Int)<rowOf n O r))<;>rfl
  ·rw [show betB i (rowOf n X r) (rowOf n O r)=false from by rw [<- Bool.not_eq_true,q0l0];exact h2,q0kx h2];rfl
 ·rw [show betB r (X i) (O i)=false from by rw [<- Bool.not_eq_true,q0l0];exact h1,if_neg h1];rfl
noncomputable def leftF (n:Nat)(X O:Nat->Int)(wh:Nat->Nat)(a:Nat)(i r:Nat):Int:=sumI (fun j=>if wh j=a∧j<i then ind (Bet r (X j) (O j)) else 0) n
noncomputable def downF (n:Nat)(X O:Nat->Int)(wh:Nat->Nat)(a:Nat)(i r:Nat):Int:=sumI (fun s=>if wh (rowOf n X s)=a∧s<r then ind (Bet i (rowOf n X s) (rowOf n O s)) else 0) n
theorem q0l3 (g:GridP n X O)(hX:∀ j,0<=X j)(hO:∀ j,0<=O j)(hw:∀ i,i<n->wh (nxtC n X O i)=wh i){r:Nat}(hr:r<n):wh (rowOf n O r)=wh (rowOf n X r):=by
 obtain ⟨h1,h2⟩:=q0je g.po hO hr
 have:=hw _ h1
 rw [<- this,nxtC,h2,Int.toNat_natCast]
theorem q0l4 (g:GridP n X O)(hX:∀ j,0<=X j)(hO:∀ j,0<=O j)(hw:∀ i,i<n->wh (nxtC n X O i)=wh i){i r:Nat}(hi:i<n)(hr:r<n)
  (h1:wh i≠a) (h2:wh (rowOf n X r)≠a):(leftF n X O wh a i r-downF n X O wh a i r)%2=0:=by
 have c1:(leftF n X O wh a i r-sumI (fun j=>(if wh j=a∧j<i then ind (X j<r) else 0)+(if wh j=a∧j<i then ind (O j<r) else 0)) n)%2=0:=by
  refine q0kz fun j hj=>?_
  by_cases e:wh j=a∧j<i
  ·rw [if_pos e,if_pos e,if_pos e]
   refine q0l1 (fun h=>h2 ?_) (fun h=>h2 ?_)
   ·rw [q0jf g.px hX hj h.symm];exact e.1
   ·rw [<- q0l3 g hX hO hw hr,q0jf g.po hO hj h.symm];exact e.1
  ·rw [if_neg e,if_neg e,if_neg e];rfl
 have c2:(downF n X O wh a i r-sumI (fun s=>(if wh (rowOf n X s)=a∧s<r then ind ((rowOf n X s:Int)<i) else 0)+(if wh (rowOf n X s)=a∧s<r then ind ((rowOf n O s:Int)<i) else 0)) n)%2=0:=by
  refine q0kz fun s hs=>?_
  by_cases e:wh (rowOf n X s)=a∧s<r
  ·rw [if_pos e,if_pos e,if_pos e]
   refine q0l1 (fun h=>h1 ?_) (fun h=>h1 ?_)
   ·rw [Int.ofNat.inj h];exact e.1
   ·rw [Int.ofNat.inj h,q0l3 g hX hO hw hs];exact e.1
  ·rw [if_neg e,if_neg e,if_neg e];rfl
 rw [q0kr] at c1 c2
 have e1:sumI (fun s=>if wh (rowOf n X s)=a∧s<r then ind ((rowOf n X s:Int)<i) else 0) n=sumI (fun j=>if wh j=a∧j<i then ind (X j<r) else 0) n:=by
  rw [<- q0kv g.px hX fun j=>if wh j=a∧j<i then ind (X j<r) else 0]
  refine q0kn fun s hs=>?_
  have:=(q0je g.px hX hs).2
  by_cases e:wh (rowOf n X s)=a
  ·by_cases p:s<r<;>by_cases q:rowOf n X s<i
   ·rw [if_pos ⟨e,p⟩,if_pos ⟨e,q⟩,q0kw (by omega),q0kw (by omega)]
   ·rw [if_pos ⟨e,p⟩,if_neg (fun h=>q h.2),q0kx (by omega)]
   ·rw [if_neg (fun h=>p h.2),if_pos ⟨e,q⟩,q0kx (by omega)]
   ·rw [if_neg (fun h=>p h.2),if_neg (fun h=>q h.2)]
  ·rw [if_neg (fun h=>e h.1),if_neg (fun h=>e h.1)]
 have e2:sumI (fun s=>if wh (rowOf n X s)=a∧s<r then ind ((rowOf n O s:Int)<i) else 0) n=sumI (fun j=>if wh j=a∧j<i then ind (O j<r) else 0) n:=by
  rw [<- q0kv g.po hO fun j=>if wh j=a∧j<i then ind (O j<r) else 0]
  refine q0kn fun s hs=>?_
  have:=(q0je g.po hO hs).2
  rw [<- q0l3 g hX hO hw hs]
  by_cases e:wh (rowOf n O s)=a
  ·by_cases p:s<r<;>by_cases q:rowOf n O s<i
   ·rw [if_pos ⟨e,p⟩,if_pos ⟨e,q⟩,q0kw (by omega),q0kw (by omega)]
   ·rw [if_pos ⟨e,p⟩,if_neg (fun h=>q h.2),q0kx (by omega)]
   ·rw [if_neg (fun h=>p h.2),if_pos ⟨e,q⟩,q0kx (by omega)]
   ·rw [if_neg (fun h=>p h.2),if_neg (fun h=>q h.2)]
  ·rw [if_neg (fun h=>e h.1),if_neg (fun h=>e h.1)]
 rw [e1,e2] at c2
 omega
theorem q0l5 (g:GridP n X O)(hX:∀ j,0<=X j)(hO:∀ j,0<=O j)(hw:∀ i,i<n->wh (nxtC n X O i)=wh i){i:Nat}(hi:i<n)(h1:wh i≠a):
  (sumI (fun r=>if wh (rowOf n X r)=a then crI n X O i r else 0) n-(leftF n X O wh a i (O i).toNat-leftF n X O wh a i (X i).toNat))%2=0:=by
 have bx:=g.bdX hX hi
 have bo:=g.swap.bdX hO hi
 have rx:rowOf n X (X i).toNat=i:=q0jf g.px hX hi (by omega)
 have ro:rowOf n O (O i).toNat=i:=q0jf g.po hO hi (by omega)
 have d1:=q0l4 (a:=a) g hX hO hw hi (r:=(X i).toNat) (by omega) h1 (by rw [rx];exact h1)
 have d2:=q0l4 (a:=a) g hX hO hw hi (r:=(O i).toNat) (by omega) h1 (by rw [<- q0l3 g hX hO hw (by omega),ro];exact h1)
 have key:(sumI (fun r=>if wh (rowOf n X r)=a then crI n X O i r else 0) n-(downF n X O wh a i (O i).toNat-downF n X O wh a i (X i).toNat))%2=0:=by
  rw [downF,downF,<- q0kq]
  refine q0kz fun s hs=>?_
  by_cases e:wh (rowOf n X s)=a
  ·rw [if_pos e]
   have n1:(s:Int)≠X i:=fun h=>h1 (by rw [<- q0jf g.px hX hi h.symm];exact e)
   have n2:(s:Int)≠O i:=fun h=>h1 (by rw [<- q0jf g.po hO hi h.symm,q0l3 g hX hO hw hs];exact e)
   unfold crI
   generalize ind (Bet i (rowOf n X s) (rowOf n O s))=v
   by_cases p:s<(X i).toNat<;>by_cases q:s<(O i).toNat
   ·rw [if_neg (by unfold Bet;omega),if_pos ⟨e,q⟩,if_pos ⟨e,p⟩];omega
   ·rw [if_pos (by unfold Bet;omega),if_neg (fun h=>q h.2),if_pos ⟨e,p⟩];omega
   ·rw [if_pos (by unfold Bet;omega),if_pos ⟨e,q⟩,if_neg (fun h=>p h.2)];omega
   ·rw [if_neg (by unfold Bet;omega),if_neg (fun h=>q h.2),if_neg (fun h=>p h.2)];rfl
  ·rw [if_neg e,if_neg (fun h=>e h.1),if_neg (fun h=>e h.1)];rfl
 omega
theorem q0l6 (g:GridP n X O)(hX:∀ j,0<=X j)(hO:∀ j,0<=O j)(hw:∀ i,i<n->wh (nxtC n X O i)=wh i){r:Nat}(hr:r<n)(h1:wh (rowOf n X r)≠a):
  (sumI (fun i=>if wh i=a then crI n X O i r else 0) n-(leftF n X O wh a (rowOf n X r) r-leftF n X O wh a (rowOf n O r) r))%2=0:=by
 rw [leftF,leftF,<- q0kq]
 refine q0kz fun j hj=>?_
 by_cases e:wh j=a
 ·rw [if_pos e]
  have n1:j≠rowOf n X r:=fun h=>h1 (by rw [<- h];exact e)
  have n2:j≠rowOf n O r:=fun h=>h1 (by rw [<- q0l3 g hX hO hw hr,<- h];exact e)
  unfold crI
  by_cases v:Bet r (X j) (O j)
  ·rw [if_pos v,q0kw v]
   by_cases p:j<rowOf n X r<;>by_cases q:j<rowOf n O r
   ·rw [q0kx (by unfold Bet;omega),if_pos ⟨e,p⟩,if_pos ⟨e,q⟩];rfl
   ·rw [q0kw (by unfold Bet;omega),if_pos ⟨e,p⟩,if_neg (fun h=>q h.2)];rfl
   ·rw [q0kw (by unfold Bet;omega),if_neg (fun h=>p h.2),if_pos ⟨e,q⟩];rfl
   ·rw [q0kx (by unfold Bet;omega),if_neg (fun h=>p h.2),if_neg (fun h=>q h.2)];rfl
  ·rw [if_neg v,q0kx v,ite_self,ite_self];rfl
 ·rw [if_neg e,if_neg (fun h=>e h.1),if_neg (fun h=>e h.1)];rfl
noncomputable def lnk (n:Nat)(X O:Nat->Int)(wh:Nat->Nat)(a b:Nat):Int:=sumI (fun i=>sumI (fun r=>if wh i=a∧wh (rowOf n X r)=b then q0jz n X O i r else 0) n) n
theorem q0l7 (g:GridP n X O)(hX:∀ j,0<=X j)(hO:∀ j,0<=O j)(hw:∀ i,i<n->wh (nxtC n X O i)=wh i)(hab:a≠b):
  (lnk n X O wh a b+lnk n X O wh b a)%2=0:=by
 have c1:(lnk n X O wh b a-sumI (fun i=>if wh i=b then leftF n X O wh a i (O i).toNat-leftF n X O wh a i (X i).toNat else 0) n)%2=0:=by
  refine q0kz fun i hi=>?_
  by_cases e:wh i=b
  ·rw [if_pos e]
   have k1:=q0l5 g hX hO hw hi (a:=a) (by rw [e];exact fun h=>hab h.symm)
   have k2:(sumI (fun r=>if wh i=b∧wh (rowOf n X r)=a then q0jz n X O i r else 0) n-sumI (fun r=>if wh (rowOf n X r)=a then crI n X O i r else 0) n)%2=0:=by
    refine q0kz fun r hr=>?_
    by_cases p:wh (rowOf n X r)=a
    ·rw [if_pos ⟨e,p⟩,if_pos p];exact q0l2 i r
    ·rw [if_neg (fun h=>p h.2),if_neg p];rfl
   omega
  ·rw [if_neg e,q0kn (g:=fun _=>0) fun r _=>if_neg (fun h=>e h.1),q0kp];rfl
 have c2:(lnk n X O wh a b-sumI (fun r=>if wh (rowOf n X r)=b then leftF n X O wh a (rowOf n X r) r-leftF n X O wh a (rowOf n O r) r else 0) n)%2=0:=by
  unfold lnk
  rw [q0ks]
  refine q0kz fun r hr=>?_
  by_cases e:wh (rowOf n X r)=b
  ·rw [if_pos e]
   have k1:=q0l6 g hX hO hw hr (a:=a) (by rw [e];exact fun h=>hab h.symm)
   have k2:(sumI (fun i=>if wh i=a∧wh (rowOf n X r)=b then q0jz n X O i r else 0) n-sumI (fun i=>if wh i=a then crI n X O i r else 0) n)%2=0:=by
    refine q0kz fun i hi=>?_
    by_cases p:wh i=a
    ·rw [if_pos ⟨p,e⟩,if_pos p];exact q0l2 i r
    ·rw [if_neg (fun h=>p h.1),if_neg p];rfl
   omega
  ·rw [if_neg e,q0kn (g:=fun _=>0) fun r _=>if_neg (fun h=>e h.2),q0kp];rfl
 have e1:sumI (fun r=>if wh (rowOf n X r)=b then leftF n X O wh a (rowOf n X r) r-leftF n X O wh a (rowOf n O r) r else 0) n=sumI (fun i=>if wh i=b then leftF n X O wh a i (X i).toNat else 0) n-sumI (fun i=>if wh i=b then leftF n X O wh a i (O i).toNat else 0) n:=by
  rw [<- q0kv g.px hX fun i=>if wh i=b then leftF n X O wh a i (X i).toNat else 0,<- q0kv g.po hO fun i=>if wh i=b then leftF n X O wh a i (O i).toNat else 0,<- q0kq]
  refine q0kn fun r hr=>?_
  rw [(q0je g.px hX hr).2,(q0je g.po hO hr).2,q0l3 g hX hO hw hr,Int.toNat_natCast]
  by_cases e:wh (rowOf n X r)=b
  ·rw [if_pos e,if_pos e,if_pos e]
  ·rw [if_neg e,if_neg e,if_neg e];rfl
 have e2:sumI (fun i=>if wh i=b then leftF n X O wh a i (O i).toNat-leftF n X O wh a i (X i).toNat else 0) n=sumI (fun i=>if wh i=b then leftF n X O wh a i (O i).toNat else 0) n-sumI (fun i=>if wh i=b then leftF n X O wh a i (X i).toNat else 0) n:=by
  rw [<- q0kq]
  refine q0kn fun i _=>?_
  by_cases e:wh i=b
  ·rw [if_pos e,if_pos e,if_pos e]
  ·rw [if_neg e,if_neg e,if_neg e];rfl
 rw [e2] at c1
 rw [e1] at c2
 omega
end
end Go.AM
namespace Go.AM
section
variable {n:Nat} {X O:Nat->Int}
def colAt (s:List Int)(j:Nat):Int:=s[j*3]?.getD 0
def rowCt (s:List Int)(j:Nat):Int:=s[j*3+1]?.getD 0
def sgnAt (s:List Int)(j:Nat):Int:=s[j*3+2]?.getD 0
structure KeyI (n:Nat) (X O:Nat->Int) (b:Nat) (s:List Int):Prop where
 len:s.length=3*(s.length / 3)
 lt:∀ j,j<s.length / 3->colAt s j*8+rowCt s j<b
 inc:∀ j k,j<k->k<s.length / 3->colAt s j*8+rowCt s j<colAt s k*8+rowCt s k
 mem:∀ j,j<s.length / 3->∃ i r:Nat,i<n∧r<n∧colAt s j=i∧rowCt s j=r∧q0jz n X O i r≠0∧sgnAt s j=q0jz n X O i r
 all:∀ i r:Nat,i<n->r<n->i*8+r<b->q0jz n X O i r≠0->∃ j,j<s.length / 3∧colAt s j=i∧rowCt s j=r
end
end Go.AM
namespace Go.AM
section
variable {n:Nat} {X O:Nat->Int} {xs:List Int}
end
end Go.AM
namespace Go.AM
section
variable {β:Type}
end
end Go.AM
namespace Go.AM
section
variable {β:Type}
variable {z:β} {N:Nat} {P:List (List Int)} {r:Nat} {acc d a:List Int}
end
end Go.AM
namespace Go.AM
section
variable {β:Type}
end
end Go.AM
namespace Go.AM
section
variable {n:Nat} {X O:Nat->Int} {xs:List Int}
end
end Go.AM
namespace Go.AM
section
variable {β:Type} {n:Nat} {X O:Nat->Int}
end
end Go.AM
namespace Go.AM
section
variable {β:Type}
end
end Go.AM
namespace Go.AM
section
variable {β:Type}
end
end Go.AM
namespace Go.AM
section
variable {β:Type} {n:Nat} {X O:Nat->Int}
end
end Go.AM
namespace Go.AM
section
variable {β:Type}
theorem q0l8 {σ κ:Type}{L:κ->Nat->Nat->σ->β}{n:Nat}{out:κ->σ->β}{I:Nat->σ->Prop}
  (hs:∀ i s,i<n->I i s->∃ s',(∀ k m,L k (m+1) i s=L k m (i+1) s')∧I (i+1) s') (he:∀ k m s,I n s->L k (m+1) n s=out k s):
  ∀ (d i:Nat) (s:σ),i+d=n->I i s->∃ s',I n s'∧∀ k m,d<m->L k m i s=out k s':=by
 intro d
 induction d with
 | zero=>
  intro i s hi h0
  have:i=n:=by omega
  subst this
  refine ⟨s,h0,fun k m hm=>?_⟩
  obtain ⟨m,rfl⟩:∃ m',m=m'+1:=⟨m-1,by omega⟩
  exact he k m s h0
 | succ d ih=>
  intro i s hi h0
  obtain ⟨s',h1,h2⟩:=hs i s (by omega) h0
  obtain ⟨s'',h3,h4⟩:=ih (i+1) s' (by omega) h2
  refine ⟨s'',h3,fun k m hm=>?_⟩
  obtain ⟨m,rfl⟩:∃ m',m=m'+1:=⟨m-1,by omega⟩
  rw [h1]
  exact h4 k m (by omega)
def zRow (n:Nat):List Int:=List.map (fun (_:Nat)=>(0:Int)) (List.range n)
theorem q0l9 (n:Nat):(zRow n).length=n:=by simp [zRow]
theorem q0la (n j:Nat):(zRow n)[j]?.getD 0=0:=by
 unfold zRow
 by_cases h:j<n<;>simp [h]
theorem q0lb (z:β){N cnt:Nat}(hN:100<N)(h8:cnt<=8)(h00:Int)(h01 h02 h1 h2:Nat->Int)(k:Nat->Nat->Nat->List (List Int)->List (Nat×Nat)->β):
  ∃ pool,TabF (idsOf pool) pool cnt cnt (fun _ _=>0)∧(idsOf pool).length=cnt∧q0dw z cnt cnt h00 h01 h02 h1 h2 N 0 0 0 0 (List.replicate 0 []) (List.map (fun (i:Nat)=>(i,0)) (List.range 0)) k=k cnt cnt cnt pool (idsOf pool):=by
 obtain ⟨pool,e,i1,i2⟩:=q0ie (L:=fun M a (s:List (List Int))=>q0dw z cnt cnt h00 h01 h02 h1 h2 M a a a (a:Int) s (idsOf s) k) (n:=cnt) (out:=fun s=>k cnt cnt cnt s (idsOf s))
  (I:=fun a s=>s.length=a∧∀ b,b<a->rowAt s b=zRow cnt)
  (fun a s ha ⟨i1,i2⟩=>by
   have hid:=q0kb s
   refine ⟨s++[zRow cnt],fun M=>?_,by simp [i1],fun b hb=>?_⟩
   ·have zl:(List.map (fun (_:Nat)=>(0:Int)) (List.range cnt)).length=cnt:=q0l9 cnt
    rw [q0dw,q0dv]
    simp only [c_and,q0i9,Int.toNat_natCast,zl]
    simp (disch:=omega) only [c_lt,c_le,c_beq,c_ble,q0i6,q0i8]
    rw [q0kd,q0l9,List.length_append,List.length_singleton,hid,i1]
    rfl
   ·rcases Nat.lt_or_ge b a with hba | hba
    ·rw [q0kf (by omega)];exact i2 b hba
    ·have:b=s.length:=by omega
     subst this
     rw [q0kg])
  (fun M s ⟨i1,_⟩=>by rw [q0dw,q0dv,c_nlt (by omega)]) cnt N 0 [] (by omega) (by omega) ⟨rfl,fun b hb=>by omega⟩
 exact ⟨pool,TabF.of_app i1 (fun i hi=>by rw [i2 i hi,q0l9]) (fun i j hi hj=>by rw [i2 i hi,q0la]),by rw [q0kb,i1],e⟩
noncomputable def cmpN (n:Nat)(X O:Nat->Int)(i:Nat):Nat:=((compS (nxtC n X O) n).1 i).toNat
noncomputable def cmpC (n:Nat)(X O:Nat->Int):Nat:=(compS (nxtC n X O) n).2.toNat
theorem q0lc {n:Nat}{X O:Nat->Int}(g:GridP n X O)(hX:∀ j,0<=X j)(hO:∀ j,0<=O j):
  LinkP n (cmpC n X O) X (cmpN n X O) (q0k3 n X O)∧(compS (nxtC n X O) n).2=cmpC n X O∧∀ i,i<n->(compS (nxtC n X O) n).1 i=cmpN n X O i:=by
 have inv:=q0jw (q0jx g hX hO)
 have h8:=g.hi
 unfold cmpN cmpC
 generalize compS (nxtC n X O) n=s at *
 have h1:=inv.nn
 have h2:=inv.le
 refine ⟨⟨q0k6 X O h8,q0ke.all n (Nat.le_refl n),fun i hi=>?_,by omega,h8⟩,by omega,fun i hi=>?_⟩
 ·have:=inv.set i hi
  have:=inv.bd i (by omega)
  omega
 ·have:=inv.set i hi
  omega
end
end Go.AM
namespace Go.AM
section
variable {β:Type} {n cnt:Nat} {X O:Nat->Int} {wh:Nat->Nat} {xs:List Int}
noncomputable def pF (n:Nat)(X:Nat->Int)(wh:Nat->Nat)(xs:List Int)(a b j:Nat)(s:Int):Int:=if lA wh xs j=a∧lB n X wh xs j=b then s+xs[j*3+2]?.getD 0 else s
noncomputable def pS (n:Nat)(X:Nat->Int)(wh:Nat->Nat)(xs:List Int)(m a b:Nat):Int:=iter (pF n X wh xs a b) m 0 0
theorem q0ld (m a b:Nat):pS n X wh xs (m+1) a b=if lA wh xs m=a∧lB n X wh xs m=b then pS n X wh xs m a b+xs[m*3+2]?.getD 0 else pS n X wh xs m a b:=by
 unfold pS
 rw [q0ic,Nat.zero_add]
 rfl
theorem pS_bd {c:Nat}(h:CrossI c xs)(a b:Nat):∀ m,m<=xs.length / 3->-(m:Int)<=pS n X wh xs m a b∧pS n X wh xs m a b<=m:=by
 intro m
 induction m with
 | zero=>exact fun _=>by simp [pS,iter]
 | succ m ih=>
  intro hm
  have:=ih (by omega)
  have sg:=h.sg m (by omega)
  rw [q0ld]
  split<;>omega
noncomputable def linkD (n:Nat)(X:Nat->Int)(wh:Nat->Nat)(xs:List Int)(a b:Nat):Int:=if a=b then pS n X wh xs (xs.length / 3) a a else (pS n X wh xs (xs.length / 3) a b+pS n X wh xs (xs.length / 3) b a).tdiv 2
noncomputable def linkS (n:Nat)(X:Nat->Int)(wh:Nat->Nat)(xs:List Int)(m a b:Nat):Int:=if a=b then pS n X wh xs m a a else pS n X wh xs m a b+pS n X wh xs m b a
theorem q0le (z:β){N n cnt:Nat}(hN:200<N){X O:Nat->Int}(g:GridP n X O)(hX:∀ j,0<=X j){wh:Nat->Nat}{h1 h2:Nat->Int}{xs:List Int}(L:LinkP n cnt X wh xs)(hw:∀ i,i<n->h1 i=wh i)(hp:∀ r,r<n->h2 r=rowOf n X r)
  {ids:List (Nat×Nat)} {pool0:List (List Int)} (hl:ids.length=cnt) (t0:TabF ids pool0 cnt cnt (fun _ _=>0)) (k:List (List Int)->β):
  ∃ pool,q0dy z cnt cnt cnt xs.length (xs.length / 3) (xs.length / 3) ((xs.length / 3:Nat):Int) n X O h1 h2 ids xs N 0 pool0 k=k pool∧∃ M,TabF ids pool cnt cnt M∧∀ a b,a<cnt->b<cnt->M a b=linkS n X wh xs (xs.length / 3) a b:=by
 have hc:=L.c
 have h8:=L.h8
 have hcn:=L.cn
 have hle:=hc.le
 have hlen:=hc.len
 refine q0ie (L:=fun m j (s:List (List Int))=>q0dy z cnt cnt cnt xs.length (xs.length / 3) (xs.length / 3) ((xs.length / 3:Nat):Int) n X O h1 h2 ids xs m (j:Int) s k) (n:=xs.length / 3) (out:=k)
  (I:=fun j s=>∃ M,TabF ids s cnt cnt M∧∀ a b,a<cnt->b<cnt->M a b=linkS n X wh xs j a b)
  (fun j s hj ⟨M,t,hd⟩=>?_)
  (fun m s _=>by rw [q0dy,q0dx,c_nlt (by omega)]) (xs.length / 3) N 0 pool0 (by omega) (by omega) ⟨_,t0,fun a b _ _=>by unfold linkS pS;simp [iter]⟩
 obtain ⟨i,r,q1,q2,q3,q4⟩:=L.b j hj
 have sg:=hc.sg j hj
 have hro:=(q0je g.px hX q2).1
 have ha:=L.wh _ q1
 have hbb:=L.wh _ hro
 have w1:=hw _ q1
 have w2:=hw _ hro
 have wp:=hp _ q2
 have eA:lA wh xs j=wh i:=by unfold lA;rw [q3];rfl
 have eB:lB n X wh xs j=wh (rowOf n X r):=by unfold lB;rw [q4];rfl
 have eo:∀ c d,pS n X wh xs (j+1) c d=if wh i=c∧wh (rowOf n X r)=d then pS n X wh xs j c d+xs[j*3+2]?.getD 0 else pS n X wh xs j c d:=fun c d=>by rw [q0ld,eA,eB]
 have bd:∀ c d,-(j:Int)<=pS n X wh xs j c d∧pS n X wh xs j c d<=j:=fun c d=>pS_bd hc c d j (by omega)
 generalize hga:wh i=a at *
 generalize hgb:wh (rowOf n X r)=b at *
 generalize hgv:xs[j*3+2]?.getD 0=v at *
 have b1:-200<=M a b∧M a b<=200:=by rw [hd a b ha hbb];unfold linkS;have:=bd a a;have:=bd a b;have:=bd b a;split<;>omega
 have b2:-200<=M b a∧M b a<=200:=by rw [hd b a hbb ha];unfold linkS;have:=bd b b;have:=bd a b;have:=bd b a;split<;>omega
 have t1:=t.put ha hbb (M a b+v)
 have sa:=t.sz a ha
 have sb:=t.sz b hbb
 have wa:=t.wide a ha
 have ca:=t.cell a b ha hbb
 have wb:=t1.wide b hbb
 have cb:=t1.cell b a hbb ha
 unfold putP at t1 wb cb
 unfold idAt at sa sb t1 wa ca wb cb
 unfold rowAt at wa ca t1 wb cb
 by_cases e:a=b
 ·subst e
  refine ⟨_,fun m=>?_,putM M a a (M a a+v),t1,fun c d hcc hdd=>?_⟩
  ·rw [q0dy,q0dx]
   simp only [c_and,Int.toNat_natCast,q010,Nat.add_zero,q3,q4,w1,wp,w2,sa,wa,ca,hl,hgv]
   simp (disch:=omega) only [c_lt,c_le,c_ble,c_blt,c_beq,q0i8,c_nne]
   rfl
  ·unfold putM
   have h1:=hd c d hcc hdd
   unfold linkS at h1 ⊢
   rw [eo,eo,eo]
   by_cases q:c=a∧d=a
   ·obtain ⟨rfl,rfl⟩:=q
    rw [if_pos rfl] at h1
    rw [if_pos ⟨rfl,rfl⟩,if_pos rfl,if_pos ⟨rfl,rfl⟩,h1]
   ·rw [if_neg q,h1]
    by_cases q2:c=d
    ·rw [if_pos q2,if_pos q2,if_neg (by omega)]
    ·rw [if_neg q2,if_neg q2,if_neg (by omega),if_neg (by omega)]
 ·have hm:putM M a b (M a b+v) b a=M b a:=by unfold putM;rw [if_neg (fun h=>e h.1.symm)]
  rw [hm] at cb
  have t2:=t1.put hbb ha (M b a+v)
  unfold putP idAt rowAt at t2
  refine ⟨_,fun m=>?_,putM (putM M a b (M a b+v)) b a (M b a+v),t2,fun c d hcc hdd=>?_⟩
  ·rw [q0dy,q0dx]
   simp only [c_and,Int.toNat_natCast,q010,Nat.add_zero,q3,q4,w1,wp,w2,sa,sb,wa,ca,hl,hgv,wb,cb]
   simp (disch:=omega) only [c_lt,c_le,c_ble,c_blt,c_beq,q0i8,c_ne]
   rfl
  ·unfold putM
   have h1:=hd c d hcc hdd
   have h2:=hd a b ha hbb
   have h3:=hd b a hbb ha
   unfold linkS at h1 h2 h3 ⊢
   rw [if_neg e] at h2
   rw [if_neg (Ne.symm e)] at h3
   rw [eo,eo,eo]
   by_cases q:c=b∧d=a
   ·obtain ⟨rfl,rfl⟩:=q
    rw [if_pos ⟨rfl,rfl⟩,if_neg (Ne.symm e),if_neg (by omega),if_pos ⟨rfl,rfl⟩,h3]
    omega
   ·rw [if_neg q]
    by_cases p:c=a∧d=b
    ·obtain ⟨rfl,rfl⟩:=p
     rw [if_pos ⟨rfl,rfl⟩,if_neg e,if_pos ⟨rfl,rfl⟩,if_neg (by omega),h2]
     omega
    ·rw [if_neg p,h1]
     by_cases q2:c=d
     ·rw [if_pos q2,if_pos q2,if_neg (by omega)]
     ·rw [if_neg q2,if_neg q2,if_neg (by omega),if_neg (by omega)]
theorem q0lf (z:β){N cnt a:Nat}(hN:100<N)(h8:cnt<=8)(ha:a<cnt){ids:List (Nat×Nat)}{pool0:List (List Int)}(hl:ids.length=cnt){M0:Mat}(t0:TabF ids pool0 cnt cnt M0)(hM:∀ b,b<cnt->-200<=M0 a b∧M0 a b<=200)(t76:Int)(h00:Int)(h01 h02 h1 h2:Nat->Int)(xs:List Int):
  ∃ pool,(∃ M,TabF ids pool cnt cnt M∧∀ c d,c<cnt->d<cnt->M c d=if c=a∧d≠a then (M0 c d).tdiv 2 else M0 c d)∧∀ (k:List (List Int)->β) (m:Nat),cnt<m->q0e0 z cnt cnt cnt a t76 a cnt h00 h01 h02 h1 h2 ids xs m 0 pool0 k=k pool:=by
 obtain ⟨pool,⟨M,t,hd⟩,e⟩:=q0l8 (κ:=List (List Int)->β) (L:=fun k m j (s:List (List Int))=>q0e0 z cnt cnt cnt a t76 a cnt h00 h01 h02 h1 h2 ids xs m (j:Int) s k) (n:=cnt) (out:=fun k=>k)
  (I:=fun j s=>∃ M,TabF ids s cnt cnt M∧∀ c d,c<cnt->d<cnt->M c d=if c=a∧d≠a∧d<j then (M0 c d).tdiv 2 else M0 c d)
  (fun b s hb ⟨M,t,hd⟩=>by
   have h0:=hd a b ha hb
   rw [if_neg (by omega)] at h0
   by_cases e:a=b
   ·refine ⟨s,fun k m=>?_,M,t,fun c d hcc hdd=>?_⟩
    ·rw [q0e0,q0dz]
     simp (disch:=omega) only [c_lt,c_nne,q0i8]
     rfl
    ·rw [hd c d hcc hdd]
     by_cases q:c=a∧d≠a∧d<b
     ·rw [if_pos q,if_pos (by omega)]
     ·rw [if_neg q,if_neg (by omega)]
   ·have sa:=t.sz a ha
    have wa:=t.wide a ha
    have ca:=t.cell a b ha hb
    have b1:=hM b hb
    rw [<- h0] at b1
    have b2:=q0k7 (x:=M a b) (m:=200) b1
    have t1:=t.put ha hb ((M a b).tdiv 2)
    unfold putP at t1
    unfold idAt at sa t1 wa ca
    unfold rowAt at wa ca t1
    refine ⟨_,fun k m=>?_,putM M a b ((M a b).tdiv 2),t1,fun c d hcc hdd=>?_⟩
    ·rw [q0e0,q0dz]
     simp only [c_and,Int.toNat_natCast,sa,wa,ca,hl]
     simp (disch:=omega) only [c_lt,c_le,c_ble,c_blt,c_beq,q0i8,c_ne]
     rfl
    ·unfold putM
     by_cases q:c=a∧d=b
     ·obtain ⟨rfl,rfl⟩:=q
      rw [if_pos ⟨rfl,rfl⟩,if_pos ⟨rfl,Ne.symm e,Nat.lt_succ_self _⟩,h0]
     ·rw [if_neg q,hd c d hcc hdd]
      by_cases p:c=a∧d≠a∧d<b
      ·rw [if_pos p,if_pos (by omega)]
      ·rw [if_neg p,if_neg (by omega)])
  (fun k m s _=>by rw [q0e0,q0dz,c_nlt (by omega)]) cnt 0 pool0 (by omega) ⟨M0,t0,fun c d _ _=>by rw [if_neg (by omega)]⟩
 refine ⟨pool,⟨M,t,fun c d hcc hdd=>?_⟩,e⟩
 rw [hd c d hcc hdd]
 by_cases q:c=a∧d≠a
 ·rw [if_pos ⟨q.1,q.2,hdd⟩,if_pos q]
 ·rw [if_neg (by omega),if_neg q]
theorem q0lg (z:β){N cnt:Nat}(hN:100<N)(h8:cnt<=8){ids:List (Nat×Nat)}{pool0:List (List Int)}(hl:ids.length=cnt){M0:Mat}(t0:TabF ids pool0 cnt cnt M0)(hM:∀ a b,a<cnt->b<cnt->-200<=M0 a b∧M0 a b<=200)(h00:Int)(h01 h02 h1 h2:Nat->Int)(xs:List Int)(k:List (List Int)->β):
  ∃ pool,q0e2 z N cnt cnt cnt cnt h00 h01 h02 h1 h2 ids xs N 0 pool0 k=k pool∧∃ M,TabF ids pool cnt cnt M∧∀ c d,c<cnt->d<cnt->M c d=if c≠d then (M0 c d).tdiv 2 else M0 c d:=by
 obtain ⟨pool,e,M,t,hd⟩:=q0ie (L:=fun m j (s:List (List Int))=>q0e2 z N cnt cnt cnt cnt h00 h01 h02 h1 h2 ids xs m (j:Int) s k) (n:=cnt) (out:=k)
  (I:=fun j s=>∃ M,TabF ids s cnt cnt M∧∀ c d,c<cnt->d<cnt->M c d=if c≠d∧c<j then (M0 c d).tdiv 2 else M0 c d)
  (fun a s ha ⟨M,t,hd⟩=>by
   have sa:(ids[a]?.getD (0,0)).2=cnt:=t.sz a ha
   obtain ⟨pool,⟨M',t2,hd2⟩,e⟩:=q0lf z (N:=N) hN h8 ha hl t (fun b hb=>by
    have:=hM a b ha hb
    rw [hd a b ha hb,if_neg (by omega)]
    exact this) cnt h00 h01 h02 h1 h2 xs
   refine ⟨pool,fun m=>?_,M',t2,fun c d hcc hdd=>?_⟩
   ·rw [q0e2,q0e1]
    simp only [c_and,Int.toNat_natCast,sa,hl]
    simp (disch:=omega) only [c_lt,c_le,c_ble,c_blt,c_beq]
    rw [e _ N (by omega)]
    simp (disch:=omega) only [q0i8]
    rfl
   ·rw [hd2 c d hcc hdd,hd c d hcc hdd]
    by_cases q:c=a
    ·subst q
     rw [if_neg (show ¬ (c≠d∧c<c) by omega)]
     by_cases p:d=c
     ·rw [if_neg (by omega),if_neg (by omega)]
     ·rw [if_pos ⟨rfl,p⟩,if_pos (by omega)]
    ·rw [if_neg (fun h=>q h.1)]
     by_cases p:c≠d∧c<a
     ·rw [if_pos p,if_pos (by omega)]
     ·rw [if_neg p,if_neg (by omega)])
  (fun m s _=>by rw [q0e2,q0e1,c_nlt (by omega)]) cnt N 0 pool0 (by omega) (by omega) ⟨M0,t0,fun c d _ _=>by rw [if_neg (by omega)]⟩
 refine ⟨pool,e,M,t,fun c d hcc hdd=>?_⟩
 rw [hd c d hcc hdd]
 by_cases q:c≠d
 ·rw [if_pos ⟨q,hcc⟩,if_pos q]
 ·rw [if_neg (fun h=>q h.1),if_neg q]
theorem q0lh (z:β){N:Nat}(hN:200<N){n:Nat}{X O:Nat->Int}(g:GridP n X O)(hX:∀ j,0<=X j)(hO:∀ j,0<=O j)(k:Nat->Nat->Nat->List (Nat×Nat)->List (List Int)->β):
  ∃ ids pool,(∃ M,TabF ids pool (cmpC n X O) (cmpC n X O) M∧ids.length=cmpC n X O∧∀ a b,a<cmpC n X O->b<cmpC n X O->M a b=linkD n X (cmpN n X O) (q0k3 n X O) a b)∧q0e3 z N n X O k=k (cmpC n X O) (cmpC n X O) (cmpC n X O) ids pool:=by
 obtain ⟨L,e1,e2⟩:=q0lc g hX hO
 have h8:=L.h8
 have hcn:=L.cn
 have hc:=L.c
 have hle:=hc.le
 have hlo:=g.lo
 unfold q0e3
 rw [q0k9 z (by omega) g hX hO,q0ji z (by omega) h8 g.px hX,e1]
 generalize hwf:(fun j=>if j<n then (compS (nxtC n X O) n).1 j else 0)=wf
 have hw:∀ i,i<n->wf i=cmpN n X O i:=fun i hi=>by rw [<- hwf];show (if i<n then _ else _)=_;rw [if_pos hi,e2 i hi]
 obtain ⟨pool0,t0,hl,f0⟩:=q0lb z (N:=N) (by omega) (by omega:cmpC n X O<=8) n X O wf (plc n X) (fun q9 q10 q11 q12 q13=>q0dj z N n X O (fun q14 q15 q16 q17=>cond (q15.ble 9223372036854775807) (q0dy z q9 q10 q11 q14 q15 q16 (↑q15:Int) n X O wf (plc n X) q13 q17 N 0 q12 (fun q18=>cond (q10.ble 9223372036854775807) (q0e2 z N q9 q10 q11 (↑q10:Int) n X O wf (plc n X) q13 q17 N 0 q18 (fun q19=>k q9 q10 q11 q13 q19)) (z))) (z)))
 rw [f0,q0k5 z (by omega) g hX hO,c_ble (by omega)]
 obtain ⟨pool1,f1,M1,t1,d1⟩:=q0le z hN g hX L hw (fun r hr=>q0jh g.px hX hr) hl t0 (fun q18=>cond ((cmpC n X O).ble 9223372036854775807) (q0e2 z N (cmpC n X O) (cmpC n X O) (cmpC n X O) (↑(cmpC n X O):Int) n X O wf (plc n X) (idsOf pool0) (q0k3 n X O) N 0 q18 (fun q19=>k (cmpC n X O) (cmpC n X O) (cmpC n X O) (idsOf pool0) q19)) (z))
 rw [f1,c_ble (by omega)]
 have bd:=fun a b=>pS_bd (n:=n) (X:=X) (wh:=cmpN n X O) hc a b _ (Nat.le_refl _)
 obtain ⟨pool2,f2,M2,t2,d2⟩:=q0lg z (N:=N) (by omega) (by omega:cmpC n X O<=8) hl t1 (fun a b ha hb=>by
  rw [d1 a b ha hb]
  unfold linkS
  have:=bd a a
  have:=bd a b
  have:=bd b a
  split<;>omega) n X O wf (plc n X) (q0k3 n X O) (fun q19=>k (cmpC n X O) (cmpC n X O) (cmpC n X O) (idsOf pool0) q19)
 refine ⟨_,pool2,⟨M2,t2,hl,fun a b ha hb=>?_⟩,f2⟩
 rw [d2 a b ha hb,d1 a b ha hb]
 unfold linkS linkD
 by_cases e:a=b
 ·subst e
  rw [if_neg (by omega),if_pos rfl,if_pos rfl]
 ·rw [if_pos e,if_neg e,if_neg e]
end
end Go.AM
namespace Go.AM
section
def itN (f:Nat->Nat):Nat->Nat->Nat
 | 0,x=>x
 | j+1,x=>f (itN f j x)
theorem q0li {f:Nat->Nat}{n:Nat}(hn:∀ k,k<n->f k<n){x:Nat}(hx:x<n):∀ j,itN f j x<n:=by
 intro j
 induction j with
 | zero=>exact hx
 | succ j ih=>exact hn _ ih
theorem q0lj {γ:Type}{f:Nat->Nat}{n:Nat}(hn:∀ k,k<n->f k<n){L:Nat->γ}(hL:∀ x,x<n->L (f x)=L x){x:Nat}(hx:x<n):∀ j,L (itN f j x)=L x:=by
 intro j
 induction j with
 | zero=>rfl
 | succ j ih=>rw [itN,hL _ (q0li hn hx j),ih]
theorem q0lk {nxt:Nat->Nat}{n st:Nat}{c:Int}(hn:∀ k,k<n->nxt k<n)(hi:∀ a b,a<n->b<n->nxt a=nxt b->a=b)(hc:0<=c):
  ∀ (d k:Nat) (h:Nat->Int),cntU n h<=d->WInv nxt n st h k->(k=st∨h st=c)->(∀ x,x<n->0<=h x->h (nxt x)=h x∨(h x=c∧nxt x=k))->(∀ x,x<n->h x=c->∃ j,itN nxt j st=x)->(∃ j,itN nxt j st=k) ->
   (∀ x,x<n->0<=walkH nxt c d k h x->walkH nxt c d k h (nxt x)=walkH nxt c d k h x)∧∀ x,x<n->walkH nxt c d k h x=c->∃ j,itN nxt j st=x:=by
 intro d
 induction d with
 | zero=>
  intro k h hd w
  have:=q0jp (by omega:cntU n h=0) w.lt
  have:=w.fresh
  omega
 | succ d ih=>
  intro k h hd w hs hcl hrc hk
  have hcn:=q0jq w.lt w.fresh hc
  have hfr:=w.fresh
  have step:∀ x,x<n->x≠k->0<=h x->upd h k c (nxt x)=h x:=fun x hx hxk hv=>by
   rw [q0ib]
   rcases hcl x hx hv with e | ⟨e1,e2⟩
   ·have:nxt x≠k:=fun e2=>by rw [e2] at e;omega
    rw [if_neg this,e]
   ·rw [if_pos e2,e1]
  have rc:∀ x,x<n->upd h k c x=c->∃ j,itN nxt j st=x:=fun x hx hv=>by
   rw [q0ib] at hv
   by_cases e:x=k
   ·rw [e];exact hk
   ·rw [if_neg e] at hv;exact hrc x hx hv
  simp only [walkH]
  rw [if_pos w.fresh]
  by_cases e:nxt k=st
  ·have hs':walkH nxt c d (nxt k) (upd h k c)=upd h k c:=by
    have:=w.stSet hc
    rw [<- e] at this
    cases d with
    | zero=>rfl
    | succ d=>simp only [walkH];rw [if_neg (by omega)]
   rw [hs']
   refine ⟨fun x hx hv=>?_,rc⟩
   by_cases ex:x=k
   ·subst ex
    rw [e,q0ib,q0ib,if_pos rfl]
    rcases hs with hs | hs
    ·rw [if_pos hs.symm]
    ·split
     ·rfl
     ·exact hs
   ·have hv2:upd h k c x=h x:=by rw [q0ib,if_neg ex]
    rw [hv2] at hv ⊢
    exact step x hx ex hv
  ·obtain ⟨j,hj⟩:=hk
   refine ih _ _ (by omega) (w.step hn hi hc e) (.inr ?_) (fun x hx hv=>?_) rc ⟨j+1,by rw [itN,hj]⟩
   ·rw [q0ib]
    rcases hs with hs | hs
    ·rw [if_pos hs.symm]
    ·split
     ·rfl
     ·exact hs
   ·by_cases ex:x=k
    ·right;subst ex;rw [q0ib,if_pos rfl];exact ⟨rfl,rfl⟩
    ·left
     have hv2:upd h k c x=h x:=by rw [q0ib,if_neg ex]
     rw [hv2] at hv ⊢
     exact step x hx ex hv
structure StartC (nxt:Nat->Nat) (n:Nat) (s:((Nat->Int)×Int)×List Nat):Prop where
 cl:∀ x,x<n->0<=s.1.1 x->s.1.1 (nxt x)=s.1.1 x
 rc:∀ q,q<s.2.length->∀ x,x<n->s.1.1 x=q->∃ j,itN nxt j (s.2[q]?.getD 0)=x
theorem q0ll {nxt:Nat->Nat}{n:Nat}(h8:n<=8)(hn:∀ k,k<n->nxt k<n)(hinj:∀ a b,a<n->b<n->nxt a=nxt b->a=b):StartC nxt n (q0kj nxt n):=by
 have key:=q0id (f:=q0ki nxt n) (n:=n) (I:=fun i s=>StartI nxt n i s∧StartC nxt n s) (fun i s hi ⟨h,h2⟩=>by
  refine ⟨h.step h8 hn hinj hi,?_⟩
  unfold q0ki
  by_cases hu:s.1.1 i<0
  ·rw [if_pos hu]
   have hcf:compF nxt n i s.1=(walkH nxt s.1.2 n i s.1.1,s.1.2+1):=by unfold compF;rw [if_pos hu]
   have hnn:=h.comp.nn
   have hlen:=h.len
   have noc:∀ x,x<n->s.1.1 x≠s.1.2:=fun x hx e=>by rcases h.comp.bd x (by omega) with e1 | e1<;>omega
   obtain ⟨w1,w2⟩:=q0lk hn hinj hnn n i s.1.1 (q0jo _ _) (WInv.start hi hu h.back) (.inl rfl) (fun x hx hv=>.inl (h2.cl x hx hv)) (fun x hx e=>absurd e (noc x hx)) ⟨0,rfl⟩
   rw [hcf]
   refine ⟨w1,fun q hq x hx hv=>?_⟩
   have hv:walkH nxt s.1.2 n i s.1.1 x=q:=hv
   rw [List.length_append,List.length_singleton] at hq
   show ∃ j,itN nxt j ((s.2++[i])[q]?.getD 0)=x
   by_cases e:q<s.2.length
   ·rw [List.getElem?_append_left e]
    refine h2.rc q e x hx ?_
    rcases q0js nxt s.1.2 n i s.1.1 x with e1 | ⟨e1,e2⟩
    ·rw [<- e1];exact hv
    ·rw [e2] at hv;omega
   ·have eq:q=s.2.length:=by omega
    subst eq
    rw [List.getElem?_append_right (Nat.le_refl _)]
    have:=w2 x hx (by rw [hv,hlen])
    simpa using this
  ·rw [if_neg hu]
   have hcf:compF nxt n i s.1=s.1:=by unfold compF;rw [if_neg hu]
   rw [hcf]
   exact h2) n 0 _ (by omega) ⟨StartI.zero h8 hn,⟨fun x hx hv=>by have:(if x<8 then (-1:Int) else 0)=-1:=if_pos (by omega);have hv:0<=(if x<8 then (-1:Int) else 0):=hv;omega,fun q hq=>by simp at hq⟩⟩
 rw [Nat.zero_add] at key
 exact key.2
theorem q0lm {a b:Nat}{f:Nat->Nat}(hf:∀ i,i<a->f i<b)(hi:∀ i j,i<a->j<a->f i=f j->i=j):a<=b:=by
 have one:∀ j,∀ d,d<=a->sumI (fun i=>if f i=j then 1 else 0) d<=1∧(sumI (fun i=>if f i=j then 1 else 0) d=0∨∃ i,i<d∧f i=j):=by
  intro j d
  induction d with
  | zero=>intro _;exact ⟨by simp [sumI],.inl rfl⟩
  | succ d ih=>
   intro hd
   obtain ⟨h1,h2⟩:=ih (by omega)
   rw [sumI]
   by_cases e:f d=j
   ·rw [if_pos e]
    rcases h2 with h2 | ⟨i,h3,h4⟩
    ·rw [h2];exact ⟨by omega,.inr ⟨d,by omega,e⟩⟩
    ·have:=hi i d (by omega) (by omega) (by rw [h4,e]);omega
   ·rw [if_neg e]
    refine ⟨by omega,?_⟩
    rcases h2 with h2 | ⟨i,h3,h4⟩
    ·left;omega
    ·exact .inr ⟨i,by omega,h4⟩
 have le:∀ (g:Nat->Int) (d:Nat),(∀ i,i<d->g i<=1)->sumI g d<=d:=by
  intro g d
  induction d with
  | zero=>intro _;simp [sumI]
  | succ d ih=>intro h;have:=ih fun i hi=>h i (by omega);have:=h d (by omega);rw [sumI];omega
 have cnt:∀ d:Nat,sumI (fun _=>1) d=d:=by
  intro d
  induction d with
  | zero=>rfl
  | succ d ih=>rw [sumI,ih];omega
 have swap:∀ (F:Nat->Nat->Int) (m n:Nat),sumI (fun i=>sumI (fun k=>F i k) m) n=sumI (fun k=>sumI (fun i=>F i k) n) m:=by
  intro F m n
  induction n with
  | zero=>exact (q0kp m).symm
  | succ n ih=>
   have add:∀ (p q:Nat->Int) (k:Nat),sumI (fun i=>p i+q i) k=sumI p k+sumI q k:=by
    intro p q k
    induction k with
    | zero=>rfl
    | succ k ih=>rw [sumI,sumI,sumI,ih];omega
   rw [sumI,ih,<- add]
   exact q0kn fun k _=>by rw [sumI]
 have h1:sumI (fun i=>sumI (fun j=>if f i=j then 1 else 0) b) a=(a:Int):=by
  rw [q0kn (g:=fun _=>1) fun i hi=>?_,cnt]
  rw [q0ko (g:=fun _=>0) (a:=1) (hf i hi) (by rw [if_pos rfl];omega) (fun k _ hk=>by rw [if_neg (fun e=>hk e.symm)]),q0kp]
  omega
 rw [swap] at h1
 have h2:=le (fun j=>sumI (fun i=>if f i=j then 1 else 0) a) b fun j _=>(one j a (Nat.le_refl a)).1
 omega
theorem q0ln {nxt:Nat->Nat}{n k:Nat}(h8:n<=8)(hn:∀ k,k<n->nxt k<n)(hinj:∀ a b,a<n->b<n->nxt a=nxt b->a=b){L:Nat->Nat}
  (l1:∀ x,x<n->L x<k) (l2:∀ x,x<n->L (nxt x)=L x) (l3:∀ x y,x<n->y<n->L x=L y->∃ s i j,s<n∧itN nxt i s=x∧itN nxt j s=y) (l4:∀ c,c<k->∃ x,x<n∧L x=c):(compS nxt n).2=k:=by
 have C:=q0ll h8 hn hinj
 have I:=q0kl h8 hn hinj
 have hlen:=I.len
 rw [<- q0kk]
 generalize q0kj nxt n=s at *
 have lt:=I.lt
 have own:=I.own
 have bd:=I.comp.bd
 have st:=I.comp.set
 have a:s.2.length<=k:=q0lm (f:=fun q=>L (s.2[q]?.getD 0)) (fun q hq=>l1 _ (lt q hq)) (fun p q hp hq e=>by
  obtain ⟨r,i,j,hr,hx,hy⟩:=l3 _ _ (lt p hp) (lt q hq) e
  have e1:=own p hp
  have e2:=own q hq
  have key:∀ j,s.1.1 (itN nxt j r)=s.1.1 r:=by
   intro j
   induction j with
   | zero=>rfl
   | succ j ih=>
    have hlt:=q0li hn hr j
    rw [itN,C.cl _ hlt (st _ hlt),ih]
  rw [<- hx,key] at e1
  rw [<- hy,key] at e2
  omega)
 have b:k<=s.2.length:=by
  classical
  refine q0lm (f:=fun c=>if h:∃ x,x<n∧L x=c then (s.1.1 (Classical.choose h)).toNat else 0) (fun c hc=>?_) (fun c d hc hd e=>?_)
  ·have h:=l4 c hc
   simp only [dif_pos h]
   obtain ⟨h1,_⟩:=Classical.choose_spec h
   have:=st _ h1
   rcases bd _ (by omega:Classical.choose h<8) with e1 | e1<;>omega
  ·have h:=l4 c hc
   have h':=l4 d hd
   simp only [dif_pos h,dif_pos h'] at e
   obtain ⟨x1,x2⟩:=Classical.choose_spec h
   obtain ⟨y1,y2⟩:=Classical.choose_spec h'
   generalize Classical.choose h=x at *
   generalize Classical.choose h'=y at *
   have s1:=st x x1
   have s2:=st y y1
   have hb:s.1.1 x<s.1.2:=by rcases bd x (by omega) with e1 | e1<;>omega
   obtain ⟨i,hi⟩:=C.rc (s.1.1 x).toNat (by omega) x x1 (by omega)
   obtain ⟨j,hj⟩:=C.rc (s.1.1 x).toNat (by omega) y y1 (by omega)
   have hq:=lt (s.1.1 x).toNat (by omega)
   rw [<- x2,<- y2,<- hi,<- hj,q0lj hn l2 hq,q0lj hn l2 hq]
 omega
structure CompA (nxt:Nat->Nat) (n:Nat):Prop where
 cl:∀ x,x<n->(compS nxt n).1 (nxt x)=(compS nxt n).1 x
 bd:∀ x,x<n->0<=(compS nxt n).1 x∧(compS nxt n).1 x<(compS nxt n).2
 rt:∀ x y,x<n->y<n->(compS nxt n).1 x=(compS nxt n).1 y->∃ s i j,s<n∧itN nxt i s=x∧itN nxt j s=y
 su:∀ c:Nat,(c:Int)<(compS nxt n).2->∃ x,x<n∧(compS nxt n).1 x=c
theorem q0lo {nxt:Nat->Nat}{n:Nat}(h8:n<=8)(hn:∀ k,k<n->nxt k<n)(hinj:∀ a b,a<n->b<n->nxt a=nxt b->a=b):CompA nxt n:=by
 have C:=q0ll h8 hn hinj
 have I:=q0kl h8 hn hinj
 have hlen:=I.len
 have st:=I.comp.set
 have bd:∀ x,x<n->(q0kj nxt n).1.1 x<(q0kj nxt n).1.2:=fun x hx=>by rcases I.comp.bd x (by omega) with e1 | e1<;>have:=st x hx<;>omega
 refine ⟨fun x hx=>?_,fun x hx=>?_,fun x y hx hy e=>?_,fun c hc=>?_⟩
 ·rw [<- q0kk];exact C.cl x hx (st x hx)
 ·rw [<- q0kk];exact ⟨st x hx,bd x hx⟩
 ·rw [<- q0kk] at e
  have s1:=st x hx
  have s2:=bd x hx
  obtain ⟨i,hi⟩:=C.rc ((q0kj nxt n).1.1 x).toNat (by omega) x hx (by omega)
  obtain ⟨j,hj⟩:=C.rc ((q0kj nxt n).1.1 x).toNat (by omega) y hy (by omega)
  exact ⟨_,i,j,I.lt _ (by omega),hi,hj⟩
 ·rw [<- q0kk] at hc
  refine ⟨(q0kj nxt n).2[c]?.getD 0,I.lt c (by omega),?_⟩
  rw [<- q0kk]
  exact I.own c (by omega)
end
end Go.AM
namespace Go.AM
section
variable {n:Nat} {X O:Nat->Int} {wh:Nat->Nat}
theorem q0lp {s t:List Int}(hl:s.length=3*(s.length / 3))(a b:Nat):∀ m,m<=s.length / 3->pS n X wh (s++t) m a b=pS n X wh s m a b:=by
 intro m
 induction m with
 | zero=>exact fun _=>rfl
 | succ m ih=>
  intro hm
  have eA:lA wh (s++t) m=lA wh s m:=by unfold lA;rw [List.getElem?_append_left (by omega)]
  have eB:lB n X wh (s++t) m=lB n X wh s m:=by unfold lB;rw [List.getElem?_append_left (by omega)]
  rw [q0ld,q0ld,ih (by omega),eA,eB,List.getElem?_append_left (by omega)]
theorem q0lq {s:List Int}(hl:s.length=3*(s.length / 3))(i r:Nat)(v:Int)(a b:Nat):
  pS n X wh (s++[(i:Int),(r:Int),v]) ((s++[(i:Int),(r:Int),v]).length / 3) a b=pS n X wh s (s.length / 3) a b+if wh i=a∧wh (rowOf n X r)=b then v else 0:=by
 rw [show (s++[(i:Int),(r:Int),v]).length / 3=s.length / 3+1 by simp,q0ld,q0lp hl a b _ (Nat.le_refl _)]
 have eA:lA wh (s++[(i:Int),(r:Int),v]) (s.length / 3)=wh i:=by unfold lA;rw [List.getElem?_append_right (by omega),show s.length / 3*3-s.length=0 by omega];rfl
 have eB:lB n X wh (s++[(i:Int),(r:Int),v]) (s.length / 3)=wh (rowOf n X r):=by unfold lB;rw [List.getElem?_append_right (by omega),show s.length / 3*3+1-s.length=1 by omega];rfl
 have eV:(s++[(i:Int),(r:Int),v])[s.length / 3*3+2]?.getD 0=v:=by rw [List.getElem?_append_right (by omega),show s.length / 3*3+2-s.length=2 by omega];rfl
 rw [eA,eB,eV]
 by_cases e:wh i=a∧wh (rowOf n X r)=b
 ·rw [if_pos e,if_pos e]
 ·rw [if_neg e,if_neg e,Int.add_zero]
theorem q0lr (a b:Nat):pS n X wh (q0k3 n X O) ((q0k3 n X O).length / 3) a b=lnk n X O wh a b:=by
 have row:∀ (i m:Nat) (s:List Int),CrossI m s->∀ d,pS n X wh (iter (q0k1 n X O i) d 0 s) ((iter (q0k1 n X O i) d 0 s).length / 3) a b=pS n X wh s (s.length / 3) a b+sumI (fun r=>if wh i=a∧wh (rowOf n X r)=b then q0jz n X O i r else 0) d:=by
  intro i m s hs d
  induction d with
  | zero=>exact (Int.add_zero _).symm
  | succ d ih=>
   rw [q0ic,Nat.zero_add,sumI]
   have hl:=(hs.row (X:=X) (O:=O) (n:=n) (i:=i) d).len
   generalize iter (q0k1 n X O i) d 0 s=t at *
   by_cases e:q0jz n X O i d=0
   ·have e':q0k1 n X O i d t=t:=by unfold q0k1;rw [show (q0jz n X O i d != 0)=false by simpa using e,q0ia]
    rw [e',ih,e,ite_self,Int.add_zero]
   ·have e':q0k1 n X O i d t=t++[(i:Int),(d:Int),q0jz n X O i d]:=by unfold q0k1;rw [show (q0jz n X O i d != 0)=true by simpa using e,q0i9]
    rw [e',q0lq hl,ih,Int.add_assoc]
 have all:∀ d,pS n X wh (iter (q0k2 n X O) d 0 []) ((iter (q0k2 n X O) d 0 []).length / 3) a b=sumI (fun i=>sumI (fun r=>if wh i=a∧wh (rowOf n X r)=b then q0jz n X O i r else 0) n) d:=by
  intro d
  induction d with
  | zero=>rw [show (iter (q0k2 n X O) 0 0 ([]:List Int)).length / 3=0 by simp [iter]];unfold pS;rfl
  | succ d ih=>
   rw [q0ic,Nat.zero_add,sumI,<- ih]
   exact row d (n*d) _ (CrossI.all d) n
 exact all n
theorem q0ls (g:GridP n X O)(hX:∀ j,0<=X j)(hO:∀ j,0<=O j):∀ i,i<n->cmpN n X O (nxtC n X O i)=cmpN n X O i:=fun i hi=>by
 unfold cmpN
 rw [(q0lo g.hi (q0jx g hX hO) (q0km g hX hO)).cl i hi]
theorem q0lt (xs:List Int)(a b:Nat):linkD n X wh xs a b=linkD n X wh xs b a:=by
 unfold linkD
 by_cases e:a=b
 ·rw [e]
 ·rw [if_neg e,if_neg (Ne.symm e),Int.add_comm]
end
end Go.AM
namespace Go.AM
section
structure FrontG (n:Nat) (X O:Nat->Int):Prop where
 g:GridP n X O
 x:∀ j,0<=X j
 o:∀ j,0<=O j
end
end Go.AM
namespace Go.AM
section
variable {β:Type}
end
end Go.AM
namespace Go.AM
section
end
end Go.AM
namespace Go.AM
section
end
end Go.AM
namespace Go.AM
section
end
end Go.AM
namespace Go.AM
section
variable {β:Type}
end
end Go.AM
namespace Go.AM
section
variable {β:Type}
abbrev q0lu:=(Nat->Int)×(Nat->Int)×List (List Int)
structure TurnI (n i:Nat) (s:q0lu):Prop where
 g:GridP n s.1 s.2.1
 x:∀ j,0<=s.1 j
 o:∀ j,0<=s.2.1 j
 len:s.2.2.length=i
 row:∀ j,j<i->(rowAt s.2.2 j).length=2
end
end Go.AM
namespace Go.AM
section
variable {β:Type}
end
end Go.AM
namespace Go.AM
section
variable {β:Type}
end
end Go.AM
namespace Go.AM
section
variable {β:Type}
end
end Go.AM
namespace Go.AM
section
variable {β:Type}
end
end Go.AM
namespace Go.AM
section
variable {β:Type}
end
end Go.AM
namespace Go.AM
section
variable {β:Type}
end
end Go.AM
namespace Go.AM
section
variable {β:Type}
theorem wrapD {x:Int}(h:0<=x∧x<=255):wrapU .u8 x=x:=by
 show x%256=x
 omega
structure Src (hn:Nat) (h:Nat->Int) (n l:Nat):Prop where
 eq:n=hn
 le:l<=hn
 sm:l<=4096
 b:∀ j,j<hn->0<=h j∧h j<=255
theorem q0lv (x:Int):0<=bitI .and .u64 x 16777215∧bitI .and .u64 x 16777215<=16777215:=by
 rw [q000]
 have e:bitJ .and .u64 x 16777215=IntKind.wrap .u64 ((BitVec.ofInt 64 x &&& BitVec.ofInt 64 16777215).toNat:Int):=rfl
 have e2:(BitVec.ofInt 64 16777215).toNat=16777215:=by decide
 have h:(BitVec.ofInt 64 x &&& BitVec.ofInt 64 16777215).toNat<=16777215:=by
  rw [BitVec.toNat_and,e2]
  exact Nat.and_le_right
 rw [e,q02l]
 ·omega
 ·rw [q02k]
  show (0:Int)<=_∧_<=(18446744073709551615:Int)
  omega
theorem q0lw (z:β)(N:Nat){hn n l:Nat}{h:Nat->Int}(S:Src hn h n l)(c:Nat)(m:Int){a:Int}(ha:0<=a)(b:Int):
  ∃ v a' b':Int,0<=a'∧(1<=m->0<=v∧v<m)∧(m<1->v=0)∧∀ k,q0fk z N m hn h n l c a b k=k v a' b':=by
 have hq:=S.eq
 have hl:=S.le
 have hs:=S.sm
 have hb:=S.b
 by_cases hm:m<1
 ·exact ⟨0,a,b,ha,fun h=>by omega,fun _=>rfl,fun k=>by unfold q0fk;rw [c_lt hm]⟩
 ·obtain ⟨b',hb'⟩:∃ b',wrapU .u64 (wrapU .u64 (b*6364136223846793005)+1442695040888963407)=b':=⟨_,rfl⟩
  obtain ⟨x,hxe⟩:∃ x,bitI BinOp.and IntKind.u64 (shrI b' 33) 16777215=x:=⟨_,rfl⟩
  have hx:=q0lv (shrI b' 33)
  rw [hxe] at hx
  by_cases e:a<l
  ·have hc:=hb a.toNat (by omega)
   refine ⟨(x+h a.toNat).tmod m,a+1,b',by omega,fun _=>⟨Int.tmod_nonneg _ (by omega),Int.tmod_lt_of_pos _ (by omega)⟩,fun h=>absurd h hm,fun k=>?_⟩
   unfold q0fk
   simp only [c_and,c_not,hb',hxe]
   simp (disch:=omega) only [c_nlt,c_lt,c_le,c_ble,c_blt,c_beq,q0i8,c_neq]
  ·refine ⟨x.tmod m,a,b',ha,fun _=>⟨Int.tmod_nonneg _ (by omega),Int.tmod_lt_of_pos _ (by omega)⟩,fun h=>absurd h hm,fun k=>?_⟩
   unfold q0fk
   simp only [c_and,c_not,hb',hxe]
   simp (disch:=omega) only [c_nlt,c_lt,c_le,c_ble,c_blt,c_beq,q0i8,c_neq]
theorem q0lx (z:β){N:Nat}(hN:5000<N){hn n l:Nat}{h:Nat->Int}(S:Src hn h n l)(c:Nat):∃ b:Int,∀ k,q0fj z N n l c hn h k=k 0 b:=by
 have hq:=S.eq
 have hl:=S.le
 have hs:=S.sm
 refine ⟨iter (fun i b=>wrapU .u64 (wrapU .u64 (wrapU .u64 (b*1099511628211)+h i)+43)) l 0 (wrapU .u64 (10711+wrapU .u64 (↑l:Int))),fun k=>?_⟩
 ·unfold q0fj
  rw [c_ble (by omega)]
  exact up_to (L:=fun m i b=>q0fi z n l c hn h n l c 0 m (i:Int) b fun q8=>k 0 q8) (n:=l) (out:=fun b=>k 0 b) (f:=fun i b=>wrapU .u64 (wrapU .u64 (wrapU .u64 (b*1099511628211)+h i)+43)) (I:=fun _ _=>True)
   (fun m i s hi _=>⟨by
    rw [q0fi,q0fh]
    simp only [c_and,Int.toNat_natCast]
    simp (disch:=omega) only [c_lt,c_le,c_ble,c_blt,c_beq,q0i8]
    rfl,trivial⟩)
   (fun m s _=>by
    rw [q0fi,q0fh]
    simp (disch:=omega) only [c_ble,c_nlt]) l N 0 _ (by omega) (by omega) trivial
structure BndC (n:Nat) (f:Nat->Int):Prop where
 b:∀ j,j<n->0<=f j∧f j<n
 z:∀ j,n<=j->f j=0
theorem BndC.upd {n i:Nat}{f:Nat->Int}{v:Int}(h:BndC n f)(hi:i<n)(hv:0<=v∧v<n):BndC n (upd f i v):=
 ⟨fun j hj=>by rw [q0ib];split;exact hv;exact h.b j hj,fun j hj=>by rw [q0ib,if_neg (by omega)];exact h.z j hj⟩
theorem BndC.nn {n:Nat}{f:Nat->Int}(h:BndC n f)(j:Nat):0<=f j:=by
 rcases Nat.lt_or_ge j n with hj | hj
 ·exact (h.b j hj).1
 ·rw [h.z j hj];exact Int.le_refl 0
theorem BndC.le {n:Nat}{f:Nat->Int}(h:BndC n f)(h8:n<=256)(j:Nat):f j<=255:=by
 rcases Nat.lt_or_ge j n with hj | hj
 ·have:=h.b j hj;omega
 ·rw [h.z j hj];omega
theorem BndC.zero (n:Nat)(h:1<=n):BndC n fun _=>0:=⟨fun _ _=>by constructor<;>simp<;>omega,fun _ _=>rfl⟩
theorem q0ly {σ κ:Type}{L:κ->Nat->Nat->σ->β}{n:Nat}{out:κ->σ->β}{I:Nat->σ->Prop}
  (hs:∀ i s,i<n->I i s->∃ s',(∀ k m,L k (m+1) i s=L k m (i+1) s')∧I (i+1) s') (he:∀ k m s,I n s->L k (m+1) n s=out k s):
  ∀ (d i:Nat) (s:σ),i+d=n->I i s->∃ s',I n s'∧∀ k m,d<m->L k m i s=out k s':=by
 intro d
 induction d with
 | zero=>
  intro i s hi h0
  have:i=n:=by omega
  subst this
  refine ⟨s,h0,fun k m hm=>?_⟩
  obtain ⟨m,rfl⟩:∃ m',m=m'+1:=⟨m-1,by omega⟩
  exact he k m s h0
 | succ d ih=>
  intro i s hi h0
  obtain ⟨s',h1,h2⟩:=hs i s (by omega) h0
  obtain ⟨s'',h3,h4⟩:=ih (i+1) s' (by omega) h2
  refine ⟨s'',h3,fun k m hm=>?_⟩
  obtain ⟨m,rfl⟩:∃ m',m=m'+1:=⟨m-1,by omega⟩
  rw [h1]
  exact h4 k m (by omega)
theorem q0lz (z:β){N n:Nat}(hN:8<N)(h1:1<=n)(h8:n<=8)(hn:Nat)(h:Nat->Int)(n' l c:Nat)(a b:Int)(h2:Nat->Int):
  ∃ f,BndC n f∧∀ k,q0fn z n hn h n' l c a b h2 N 0 (fun (x:Nat)=>0) k=k f:=by
 obtain ⟨f,i1,i2⟩:=q0ly (κ:=(Nat->Int)->β) (L:=fun k m i f=>q0fn z n hn h n' l c a b h2 m (i:Int) f k) (n:=n) (out:=fun k=>k) (I:=fun _ f=>BndC n f)
  (fun i s hi hs=>⟨upd s i i,fun k m=>by
   rw [q0fn,q0fm]
   simp only [c_and,Int.toNat_natCast]
   simp (disch:=omega) only [c_lt,c_le,c_blt,q0i8]
   rw [wrapD (by omega)]
   rfl,hs.upd hi (by omega)⟩)
  (fun k m s _=>by rw [q0fn,q0fm,c_nlt (by omega)]) n 0 (fun _=>0) (by omega) (BndC.zero n h1)
 exact ⟨f,i1,fun k=>i2 k N (by omega)⟩
theorem q0m0 (z:β){N:Nat}{hn n' l:Nat}{h:Nat->Int}(S:Src hn h n' l)(c:Nat){n:Nat}(h8:n<=8)(h2:Nat->Int):
  ∀ (i:Nat),i<n->∀ (f:Nat->Int) (a b:Int),BndC n f->0<=a->∃ a' b' f',0<=a'∧BndC n f'∧∀ k m,i<m->q0fp z N hn h n' l c h2 m i a b f k=k a' b' f':=by
 intro i
 induction i with
 | zero=>
  intro hi f a b hf ha
  refine ⟨a,b,f,ha,hf,fun k m hm=>?_⟩
  obtain ⟨m,rfl⟩:∃ m',m=m'+1:=⟨m-1,by omega⟩
  rw [q0fp,q0fo,c_nlt (by omega)]
 | succ i ih=>
  intro hi f a b hf ha
  obtain ⟨v,a1,b1,ha1,hv,_,e⟩:=q0lw z N S c (((i+1:Nat):Int)+1) ha b
  have hv:=hv (by omega)
  obtain ⟨q,rfl⟩:∃ q:Nat,v=q:=⟨v.toNat,by omega⟩
  obtain ⟨a',b',f',ha',hf',e'⟩:=ih (by omega) (upd (upd f (i+1) (f q)) q (f (i+1))) a1 b1 ((hf.upd hi (hf.b q (by omega))).upd (by omega) (hf.b (i+1) hi)) ha1
  refine ⟨a',b',f',ha',hf',fun k m hm=>?_⟩
  obtain ⟨m,rfl⟩:∃ m',m=m'+1:=⟨m-1,by omega⟩
  rw [q0fp,q0fo,c_lt (by omega),q0i8 (by omega),e]
  simp only [c_and,Int.toNat_natCast]
  simp (disch:=omega) only [c_lt,c_le,c_blt,q0i8]
  rw [show ((i+1:Nat):Int)-1=i by omega]
  exact e' k m (by omega)
theorem q0m1 (z:β){N:Nat}(hN:100<N){hn n' l:Nat}{h:Nat->Int}(S:Src hn h n' l)(c:Nat){n:Nat}(h1:1<=n)(h8:n<=8){a:Int}(ha:0<=a)(b:Int):
  ∃ f a' b',BndC n f∧0<=a'∧∀ k,q0fq z N n hn h n' l c a b k=k f a' b':=by
 obtain ⟨f0,i1,e1⟩:=q0lz z (N:=N) (by omega) h1 h8 hn h n' l c a b (fun (x:Nat)=>0)
 obtain ⟨a',b',f',ha',hf',e'⟩:=q0m0 z (N:=N) S c h8 (fun (x:Nat)=>0) (n-1) (by omega) f0 a b i1 ha
 refine ⟨f',a',b',hf',ha',fun k=>?_⟩
 unfold q0fq
 rw [e1,q0i8 (by omega),show ((n:Int)-1)=((n-1:Nat):Int) by omega,e' _ N (by omega)]
theorem ds_l0 (z:β){N n:Nat}(hN:100<N)(h2:2<=n)(h8:n<=8)(hn:Nat)(h:Nat->Int)(n' l c:Nat)(a b y0:Int)(y1 y2 x:Nat->Int){f:Nat->Int}(hf:BndC n f):
  ∃ f',BndC n f'∧∀ k,q0fs z n hn h n' l c a b y0 y1 y2 x N 0 f k=k f':=by
 obtain ⟨f',i1,i2⟩:=q0ly (κ:=(Nat->Int)->β) (L:=fun k m i f=>q0fs z n hn h n' l c a b y0 y1 y2 x m (i:Int) f k) (n:=3*n) (out:=fun k=>k) (I:=fun _ f=>BndC n f)
  (fun i s hi hs=>by
   have t1:((i:Int)).tmod n=((i%n:Nat):Int):=by rw [Int.tmod_eq_emod_of_nonneg (by omega)];rfl
   have t2:(((i%n:Nat):Int)+1).tmod n=(((i%n+1)%n:Nat):Int):=by rw [Int.tmod_eq_emod_of_nonneg (by omega)];rfl
   have l1:i%n<n:=Nat.mod_lt _ (by omega)
   have l2:(i%n+1)%n<n:=Nat.mod_lt _ (by omega)
   generalize i%n=p at *
   generalize hq:(p+1)%n=q at *
   by_cases e:x p=s p
   ·refine ⟨upd (upd s p (s q)) q (s p),fun k m=>?_,(hs.upd l1 (hs.b q l2)).upd l2 (hs.b p l1)⟩
    rw [q0fs,q0fr]
    simp only [c_and,c_not,t1,t2,Int.toNat_natCast]
    simp (disch:=omega) only [c_lt,c_le,c_blt,q0i8,c_neq,c_eq]
    rfl
   ·refine ⟨s,fun k m=>?_,hs⟩
    rw [q0fs,q0fr]
    simp only [c_and,c_not,t1,t2,Int.toNat_natCast]
    have e2:cond (x p==s p)=fun (a b:β)=>b:=by funext a b;exact c_neq e
    simp (disch:=omega) only [c_lt,c_le,c_blt,q0i8,e2]
    rw [c_neq (by omega)]
    rfl)
  (fun k m s _=>by rw [q0fs,q0fr,q0i8 (by omega),c_nlt (by omega)]) (3*n) 0 f (by omega) hf
 exact ⟨f',i1,fun k=>i2 k N (by omega)⟩
theorem ds_l1 (z:β){N n:Nat}(hN:100<N)(h2:2<=n)(h8:n<=8)(hn:Nat)(h:Nat->Int)(n' l c:Nat)(a b y0 y5:Int)(y1 y2 y4 y6:Nat->Int){x f:Nat->Int}(hx:BndC n x)(hf:BndC n f):
  ∃ f',BndC n f'∧∀ k,q0fu z n hn h n' l c a b y0 y1 y2 x y4 y5 y6 N 0 f k=k f':=by
 obtain ⟨f',i1,i2⟩:=q0ly (κ:=(Nat->Int)->β) (L:=fun k m i f=>q0fu z n hn h n' l c a b y0 y1 y2 x y4 y5 y6 m (i:Int) f k) (n:=n) (out:=fun k=>k) (I:=fun _ f=>BndC n f)
  (fun i s hi hs=>by
   have hb:=hx.b i hi
   have q1:0<=(x i+1).tmod n∧(x i+1).tmod n<n:=⟨Int.tmod_nonneg _ (by omega),Int.tmod_lt_of_pos _ (by omega)⟩
   refine ⟨upd s i ((x i+1).tmod n),fun k m=>?_,hs.upd hi q1⟩
   rw [q0fu,q0ft]
   simp only [c_and,c_not,Int.toNat_natCast,wrapD (show 0<=(x i+1).tmod n∧(x i+1).tmod n<=255 by omega)]
   simp (disch:=omega) only [c_lt,c_le,c_blt,q0i8,c_neq]
   rfl)
  (fun k m s _=>by rw [q0fu,q0ft,c_nlt (by omega)]) n 0 f (by omega) hf
 exact ⟨f',i1,fun k=>i2 k N (by omega)⟩
theorem q0m2 (z:β){N:Nat}(hN:100<N){hn n' l:Nat}{h:Nat->Int}(S:Src hn h n' l)(c:Nat){n:Nat}(h2:2<=n)(h8:n<=8){a:Int}(ha:0<=a)(b:Int):
  ∃ X O a' b',BndC n X∧BndC n O∧0<=a'∧∀ k,q0fv z N n hn h n' l c a b k=k X O a' b':=by
 obtain ⟨X,a1,b1,hX,ha1,e1⟩:=q0m1 z hN S c (by omega:1<=n) h8 ha b
 obtain ⟨O,a2,b2,hO,ha2,e2⟩:=q0m1 z hN S c (by omega:1<=n) h8 ha1 b1
 obtain ⟨O2,hO2,e3⟩:=ds_l0 z (N:=N) hN h2 h8 hn h n' l c a2 b2 0 (fun (x:Nat)=>0) (fun (x:Nat)=>0) X hO
 cases hg:gridB n X O2 with
 | true=>
  refine ⟨X,O2,a2,b2,hX,hO2,ha2,fun k=>?_⟩
  unfold q0fv
  rw [e1,e2,e3,q0j9 z (by omega) _ _ _ hX.nn hO2.nn,hg]
  rfl
 | false=>
  obtain ⟨O3,hO3,e4⟩:=ds_l1 z (N:=N) hN h2 h8 hn h n' l c a2 b2 0 n (fun (x:Nat)=>0) (fun (x:Nat)=>0) O2 X hX hO2
  refine ⟨X,O3,a2,b2,hX,hO3,ha2,fun k=>?_⟩
  unfold q0fv
  rw [e1,e2,e3,q0j9 z (by omega) _ _ _ hX.nn hO2.nn,hg,Bool.not_false,q0i9,e4]
theorem q0m3 (z:β)(N:Nat){hn n' l:Nat}{h:Nat->Int}(S:Src hn h n' l)(c:Nat){a:Int}(ha:0<=a)(b:Int){xs:List Int}(hx:xs.length=3):
  ∃ (i:Nat) (a' b':Int),i<3∧0<=a'∧∀ k,q0fl z N hn h n' l c a b xs k=k (xs[i]?.getD 0) a' b':=by
 obtain ⟨v,a1,b1,ha1,hv,_,e⟩:=q0lw z N S c 3 ha b
 have hv:=hv (by omega)
 obtain ⟨q,rfl⟩:∃ q:Nat,v=q:=⟨v.toNat,by omega⟩
 refine ⟨q,a1,b1,by omega,ha1,fun k=>?_⟩
 unfold q0fl
 rw [e]
 simp only [c_and,Int.toNat_natCast,hx]
 simp (disch:=omega) only [c_lt,c_le,c_blt,c_beq]
theorem q0m4 (z:β)(N:Nat){hn n' l:Nat}{h:Nat->Int}(S:Src hn h n' l)(c:Nat){a:Int}(ha:0<=a)(b:Int){xs:List Int}(hx:xs.length=5):
  ∃ (i:Nat) (a' b':Int),i<5∧0<=a'∧∀ k,q0fw z N hn h n' l c a b xs k=k (xs[i]?.getD 0) a' b':=by
 obtain ⟨v,a1,b1,ha1,hv,_,e⟩:=q0lw z N S c 5 ha b
 have hv:=hv (by omega)
 obtain ⟨q,rfl⟩:∃ q:Nat,v=q:=⟨v.toNat,by omega⟩
 refine ⟨q,a1,b1,by omega,ha1,fun k=>?_⟩
 unfold q0fw
 rw [e]
 simp only [c_and,Int.toNat_natCast,hx]
 simp (disch:=omega) only [c_lt,c_le,c_blt,c_beq]
theorem q0m5 (z:β){N n:Nat}(hN:100<N)(h1:1<=n)(h8:n<=8){p:Int}(hp:0<=p∧p<=8)(hn:Nat)(h:Nat->Int)(n' l c:Nat)(a b y0 y3:Int)(y1 y2:Nat->Int):
  ∃ X O,BndC n X∧BndC n O∧∀ k,q0fy z p n hn h n' l c a b y0 y1 y2 y3 N 0 (fun (x:Nat)=>0) (fun (x:Nat)=>0) k=k X O:=by
 obtain ⟨s,⟨i1,i2⟩,e⟩:=q0ly (κ:=(Nat->Int)->(Nat->Int)->β) (L:=fun k m i (s:(Nat->Int)×(Nat->Int))=>q0fy z p n hn h n' l c a b y0 y1 y2 y3 m (i:Int) s.1 s.2 k) (n:=n) (out:=fun k s=>k s.1 s.2) (I:=fun _ s=>BndC n s.1∧BndC n s.2)
  (fun i s hi ⟨h1,h2⟩=>by
   have q1:0<=((i:Int)+p).tmod n∧((i:Int)+p).tmod n<n:=⟨Int.tmod_nonneg _ (by omega),Int.tmod_lt_of_pos _ (by omega)⟩
   refine ⟨(upd s.1 i i,upd s.2 i (((i:Int)+p).tmod n)),fun k m=>?_,h1.upd hi (by omega),h2.upd hi q1⟩
   rw [q0fy,q0fx]
   simp only [c_and,c_not,Int.toNat_natCast,wrapD (show 0<=((i:Int)+p).tmod n∧((i:Int)+p).tmod n<=255 by omega),wrapD (show 0<=(i:Int)∧(i:Int)<=255 by omega)]
   simp (disch:=omega) only [c_lt,c_le,c_blt,q0i8,c_neq]
   rfl)
  (fun k m s _=>by rw [q0fy,q0fx,c_nlt (by omega)]) n 0 (fun _=>0,fun _=>0) (by omega) ⟨BndC.zero n h1,BndC.zero n h1⟩
 exact ⟨s.1,s.2,i1,i2,fun k=>e k N (by omega)⟩
theorem q0m6 {n:Nat}(h1:1<=n)(X O:Nat->Int)(v u:Int)(h8:n<=8):BndC n (rollP n X O v u).1∧BndC n (rollP n X O v u).2:=by
 have:=q0id (f:=rollF n X O v u) (n:=n) (I:=fun _ s=>BndC n s.1∧BndC n s.2) (fun i s _ ⟨a,b⟩=>by
  have hn:(0:Int)<n:=by omega
  have e1:=q0jm ((i:Int)+u) hn
  have e2:=q0jm (X i+v) hn
  have e3:=q0jm (O i+v) hn
  unfold rollF
  rw [wrapD (by omega),wrapD (by omega)]
  exact ⟨a.upd (by omega) e2,b.upd (by omega) e3⟩) n 0 (fun _=>0,fun _=>0) (by omega) ⟨BndC.zero n h1,BndC.zero n h1⟩
 exact this
theorem q0m7 (z:β){N:Nat}(hN:100<N){hn n' l:Nat}{h:Nat->Int}(S:Src hn h n' l)(c:Nat){a:Int}(ha:0<=a)(b:Int):
  ∃ (n:Nat) (X O:Nat->Int) (a' b':Int),2<=n∧n<=8∧BndC n X∧BndC n O∧0<=a'∧∀ k,q0fz z N hn h n' l c a b k=k n X O a' b':=by
 obtain ⟨v,a1,b1,ha1,hv,_,e⟩:=q0lw z N S c 6 ha b
 have hv:=hv (by omega)
 by_cases v0:v=0
 ·obtain ⟨p,a2,b2,ha2,hp,_,e2⟩:=q0lw z N S c 3 ha1 b1
  have hp:=hp (by omega)
  obtain ⟨u,a3,b3,ha3,hu,_,e3⟩:=q0lw z N S c (5-(1+p)) ha2 b2
  have hu:=hu (by omega)
  obtain ⟨n,hn'⟩:∃ n:Nat,1+p+1+u=n:=⟨(1+p+1+u).toNat,by omega⟩
  obtain ⟨X,O,hX,hO,e4⟩:=q0m5 z (N:=N) hN (by omega:1<=n) (by omega) (p:=1+p) (by omega) hn h n' l c a3 b3 0 n (fun (x:Nat)=>0) (fun (x:Nat)=>0)
  obtain ⟨v1,a4,b4,ha4,hv1,_,e5⟩:=q0lw z N S c n ha3 b3
  have hv1:=hv1 (by omega)
  obtain ⟨v2,a5,b5,ha5,hv2,_,e6⟩:=q0lw z N S c n ha4 b4
  have hv2:=hv2 (by omega)
  obtain ⟨r1,r2⟩:=q0m6 (by omega:1<=n) X O v1 v2 (by omega)
  refine ⟨n,(rollP n X O v1 v2).1,(rollP n X O v1 v2).2,a5,b5,by omega,by omega,r1,r2,ha5,fun k=>?_⟩
  unfold q0fz
  rw [e,c_eq v0,e2,q0i8 (by omega),q0i8 (by omega),q0i8 (by omega),e3,hn',q0i8 (by omega),e4,e5,e6,q0jn z (by omega) (by omega) (by omega) (fun j=>⟨hX.nn j,hX.le (by omega) j⟩) (fun j=>⟨hO.nn j,hO.le (by omega) j⟩) (by omega) (by omega)]
 ·have size:∀ (n:Nat) (a b:Int),2<=n->n<=8->0<=a->∃ X O a' b',BndC n X∧BndC n O∧0<=a'∧∀ k:Int->(Nat->Int)->(Nat->Int)->Int->Int->β,q0fv z N n hn h n' l c a b (fun q16 q17 q18 q19=>k n q16 q17 q18 q19)=k n X O a' b':=fun n a b h2 h8 ha=>by
   obtain ⟨X,O,a',b',h1,h2,h3,h4⟩:=q0m2 z hN S c h2 h8 ha b
   exact ⟨X,O,a',b',h1,h2,h3,fun k=>h4 _⟩
  by_cases v1:v=1
  ·obtain ⟨i,a2,b2,hi,ha2,e2⟩:=q0m3 z N S c ha1 b1 (xs:=(((List.replicate 3 (0:Int)).set 0 6).set 1 7).set 2 8) rfl
   obtain ⟨n,hn',h2,h8⟩:∃ n:Nat,((((List.replicate 3 (0:Int)).set 0 6).set 1 7).set 2 8)[i]?.getD 0=n∧2<=n∧n<=8:=by
    have:i=0∨i=1∨i=2:=by omega
    rcases this with rfl | rfl | rfl
    ·exact ⟨6,rfl,by omega,by omega⟩
    ·exact ⟨7,rfl,by omega,by omega⟩
    ·exact ⟨8,rfl,by omega,by omega⟩
   obtain ⟨X,O,a3,b3,hX,hO,ha3,e3⟩:=size n a2 b2 h2 h8 ha2
   refine ⟨n,X,O,a3,b3,h2,h8,hX,hO,ha3,fun k=>?_⟩
   unfold q0fz
   rw [e,c_neq v0,c_eq v1,e2,hn',e3]
  ·obtain ⟨i,a2,b2,hi,ha2,e2⟩:=q0m4 z N S c ha1 b1 (xs:=(((((List.replicate 5 (0:Int)).set 0 2).set 1 3).set 2 4).set 3 5).set 4 5) rfl
   obtain ⟨n,hn',h2,h8⟩:∃ n:Nat,((((((List.replicate 5 (0:Int)).set 0 2).set 1 3).set 2 4).set 3 5).set 4 5)[i]?.getD 0=n∧2<=n∧n<=8:=by
    have:i=0∨i=1∨i=2∨i=3∨i=4:=by omega
    rcases this with rfl | rfl | rfl | rfl | rfl
    ·exact ⟨2,rfl,by omega,by omega⟩
    ·exact ⟨3,rfl,by omega,by omega⟩
    ·exact ⟨4,rfl,by omega,by omega⟩
    ·exact ⟨5,rfl,by omega,by omega⟩
    ·exact ⟨5,rfl,by omega,by omega⟩
   obtain ⟨X,O,a3,b3,hX,hO,ha3,e3⟩:=size n a2 b2 h2 h8 ha2
   refine ⟨n,X,O,a3,b3,h2,h8,hX,hO,ha3,fun k=>?_⟩
   unfold q0fz
   rw [e,c_neq v0,c_neq v1,e2,hn',e3]
structure Byt (f:Nat->Int):Prop where
 b:∀ j,0<=f j∧f j<=255
 z:∀ j,8<=j->f j=0
theorem BndC.byt {n:Nat}{f:Nat->Int}(h:BndC n f)(h8:n<=8):Byt f:=⟨fun j=>⟨h.nn j,h.le (by omega) j⟩,fun j hj=>h.z j (by omega)⟩
theorem q0m8 (z:β)(N:Nat){hn n' l:Nat}{h:Nat->Int}(S:Src hn h n' l)(c:Nat){n:Nat}(hn8:n<=8){X O:Nat->Int}(hX:Byt X)(hO:Byt O){a:Int}(ha:0<=a)(b:Int):
  ∃ (m:Int) (Y P:Nat->Int) (a' b':Int),(-1<=m∧m<=9)∧Byt Y∧Byt P∧0<=a'∧∀ k,q0g3 z N n X O hn h n' l c a b k=k m Y P a' b':=by
 obtain ⟨v,a1,b1,ha1,hv,_,e⟩:=q0lw z N S c 40 ha b
 by_cases v0:v=0
 ·obtain ⟨i,a2,b2,hi,ha2,e2⟩:=q0m4 z N S c ha1 b1 (xs:=(((((List.replicate 5 (0:Int)).set 0 0).set 1 1).set 2 9).set 3 (-1)).set 4 ((n:Int)-1)) rfl
  refine ⟨((((((List.replicate 5 (0:Int)).set 0 0).set 1 1).set 2 9).set 3 (-1)).set 4 ((n:Int)-1))[i]?.getD 0,X,O,a2,b2,?_,hX,hO,ha2,fun k=>?_⟩
  rotate_left 1
  ·unfold q0g3
   rw [e,c_eq v0,q0i8 (by omega),e2]
  ·have:i=0∨i=1∨i=2∨i=3∨i=4:=by omega
   rcases this with rfl | rfl | rfl | rfl | rfl
   ·show (-1:Int)<=0∧(0:Int)<=9;omega
   ·show (-1:Int)<=1∧(1:Int)<=9;omega
   ·show (-1:Int)<=9∧(9:Int)<=9;omega
   ·show (-1:Int)<=-1∧(-1:Int)<=9;omega
   ·show (-1:Int)<=(n:Int)-1∧(n:Int)-1<=9;omega
 ·by_cases v1:v=1
  ·obtain ⟨q,a2,b2,ha2,hq,_,e2⟩:=q0lw z N S c 8 ha1 b1
   have hq:=hq (by omega)
   obtain ⟨w,a3,b3,ha3,hw,_,e3⟩:=q0lw z N S c 9 ha2 b2
   have hw:=hw (by omega)
   refine ⟨n,X,upd O q.toNat w,a3,b3,by omega,hX,⟨fun j=>?_,fun j hj=>?_⟩,ha3,fun k=>?_⟩
   ·rw [q0ib];split
    ·omega
    ·exact hO.b j
   ·rw [q0ib,if_neg (by omega)];exact hO.z j hj
   ·unfold q0g3
    rw [e,c_neq v0,c_eq v1,e2,e3]
    simp only [c_and,wrapD (show 0<=w∧w<=255 by omega)]
    simp (disch:=omega) only [c_lt,c_le,c_blt]
  ·by_cases v2:v=2
   ·exact ⟨n,O,O,a1,b1,by omega,hO,hO,ha1,fun k=>by unfold q0g3;rw [e,c_neq v0,c_neq v1,c_eq v2]⟩
   ·exact ⟨n,X,O,a1,b1,by omega,hX,hO,ha1,fun k=>by unfold q0g3;rw [e,c_neq v0,c_neq v1,c_neq v2]⟩
end
end Go.AM
namespace Go.AM
section
variable {β:Type}
noncomputable def bP (p:Prop):Bool:=@decide p (Classical.propDecidable p)
theorem q0m9 {p:Prop}(h:p):bP p=true:=@decide_eq_true p (Classical.propDecidable p) h
theorem q0ma {α:Type}{p:Prop}{x:Option α}{r:α}(h:cond (bP p) x none=some r):p∧x=some r:=by
 cases hb:bP p with
 | false=>rw [hb] at h;cases h
 | true=>rw [hb] at h;exact ⟨@of_decide_eq_true p (Classical.propDecidable p) hb,h⟩
theorem c_bP {p:Prop}(h:p){x y:β}:cond (bP p) x y=x:=by rw [q0m9 h];rfl
structure FrP (N:Nat) (m:Int) (X O:Nat->Int) (n:Nat):Prop where
 N:100<N
 m:m=n
 g:GridP n X O
 x:Byt X
 o:Byt O
structure FrA (N:Nat) (m:Int) (X O:Nat->Int):Prop where
 N:100<N
 x:Byt X
 o:Byt O
 g:gridB m X O=false
section grids
variable {z:β} {N n:Nat} {X O:Nat->Int}
end grids
section bad
variable {z:β} {N:Nat} {m:Int} {X O:Nat->Int}
end bad
end
end Go.AM
namespace Go.AM
section
variable {β:Type} {n:Nat} {X O:Nat->Int}
end
end Go.AM
namespace Go.AM
section
variable {β:Type}
def KrG (N:Nat)(m:Int)(X O:Nat->Int):Prop:=∃ n:Nat,m=n∧200<N∧GridP n X O∧Byt X∧Byt O
section vals
variable {z:β} {N n:Nat} {X O:Nat->Int}
theorem kr_is (hN:200<N)(g:GridP n X O)(hX:Byt X)(hO:Byt O)(k:Bool->β):q0cn z N n X O k=k true:=by
 rw [q0ja z (by omega) _ _ _ (fun j=>(hX.b j).1) (fun j=>(hO.b j).1),q0j7.2 ⟨n,rfl,g⟩]
end vals
noncomputable def q0mb (z:β)(N:Nat)(g_0:Int)(g_1:Nat->Int)(g_2:Nat->Int)(k0:Nat->Nat->Nat->List (Nat×Nat)->List (List Int)->β):β:=cond (bP (KrG N g_0 g_1 g_2)) (q0e3 z N g_0 g_1 g_2 k0) z
theorem q0mc {α:Type}{N:Nat}{g_0:Int}{g_1 g_2:Nat->Int}{k0:Int->Option α}{k1:Nat->Nat->Nat->Int->List (Nat×Nat)->List (List Int)->Option α}{r:α}(h:q0mb none N g_0 g_1 g_2 (fun a b c p q=>k1 a b c 0 p q)=some r):q0g6 none N g_0 g_1 g_2 k0 k1=some r:=by
 obtain ⟨⟨n,rfl,hN,g,hX,hO⟩,hk⟩:=q0ma h
 unfold q0g6 q0g5
 rw [kr_is hN g hX hO];exact hk
end
end Go.AM
namespace Go.AM
section
variable {β:Type}
noncomputable def q0md (z:β)(N:Nat)(g_0:Int)(g_1:Nat->Int)(g_2:Nat->Int)(k0:Nat->Nat->Nat->List (Nat×Nat)->List (List Int)->β):β:=cond (bP (KrG N g_0 g_1 g_2)) (q0e3 z N g_0 g_1 g_2 k0) z
theorem q0me {α:Type}{N:Nat}{g_0:Int}{g_1 g_2:Nat->Int}{k0:Int->Option α}{k1:Nat->Nat->Nat->Int->List (Nat×Nat)->List (List Int)->Option α}{r:α}(h:q0md none N g_0 g_1 g_2 (fun a b c p q=>k1 a b c 0 p q)=some r):q0g6 none N g_0 g_1 g_2 k0 k1=some r:=
 q0mc h
end
end Go.AM
set_option maxRecDepth 100000
namespace Go.AM
noncomputable def q0mf {β:Type}(z:β)(N:Nat)(t5:Bool)(t10:Int)(t14:Int)(t23_n:Nat)(t23_l:Nat)(t23_c:Nat)(t25:Int)(h0_n:Nat)(h0:Nat->Int)(h1_0:Int)(h1_1:Nat->Int)(h1_2:Nat->Int)(h2:Nat->Int)(h3_0:Int)(h3_1:Nat->Int)(h3_2:Nat->Int)(h4:Nat->Int)(h5_0:Int)(h5_1:Nat->Int)(h5_2:Nat->Int)(h6:List Int)(h7:List Int)(h8:List Int)(h9_0:Int)(h9_1:Nat->Int)(h9_2:Nat->Int)(h10_0:Int)(h10_1:Nat->Int)(h10_2:Nat->Int)(k0:Bool->β):β:=
 cond (t10==0) (q0fg z N h3_0 h3_1 h3_2 h4 (fun q32 q33 q34 q35=>cond (t14 != 0) (k0 false) (cond (q35 != 0) (k0 false) (cond (!(q32==h1_0&&(q33 0==h1_1 0&&(q33 1==h1_1 1&&(q33 2==h1_1 2&&(q33 3==h1_1 3&&(q33 4==h1_1 4&&(q33 5==h1_1 5&&(q33 6==h1_1 6&&(q33 7==h1_1 7&&(q34 0==h1_2 0&&(q34 1==h1_2 1&&(q34 2==h1_2 2&&(q34 3==h1_2 3&&(q34 4==h1_2 4&&(q34 5==h1_2 5&&(q34 6==h1_2 6&&(q34 7==h1_2 7&&true)))))))))))))))))) (k0 false) (cond (!t5) (k0 false) (cond (t25 != 0) (k0 (h10_0==0&&(h10_1 0==0&&(h10_1 1==0&&(h10_1 2==0&&(h10_1 3==0&&(h10_1 4==0&&(h10_1 5==0&&(h10_1 6==0&&(h10_1 7==0&&(h10_2 0==0&&(h10_2 1==0&&(h10_2 2==0&&(h10_2 3==0&&(h10_2 4==0&&(h10_2 5==0&&(h10_2 6==0&&(h10_2 7==0&&true)))))))))))))))))) (q0hv z N t23_n t23_l t23_c h0_n h0 h1_0 h1_1 h1_2 h2 h3_0 h3_1 h3_2 h4 h5_0 h5_1 h5_2 h6 h7 h8 h9_0 h9_1 h9_2 h10_0 h10_1 h10_2 q32 q33 q34 N 0 h9_0 h9_1 h9_2 (fun q36 q37 q38=>k0 false) (fun q36 q37 q38=>cond (!(q36==h10_0&&(q37 0==h10_1 0&&(q37 1==h10_1 1&&(q37 2==h10_1 2&&(q37 3==h10_1 3&&(q37 4==h10_1 4&&(q37 5==h10_1 5&&(q37 6==h10_1 6&&(q37 7==h10_1 7&&(q38 0==h10_2 0&&(q38 1==h10_2 1&&(q38 2==h10_2 2&&(q38 3==h10_2 3&&(q38 4==h10_2 4&&(q38 5==h10_2 5&&(q38 6==h10_2 6&&(q38 7==h10_2 7&&true)))))))))))))))))) (k0 false) (q0md z N h9_0 h9_1 h9_2 (fun q39 q40 q41 q42 q43=>q0md z N h10_0 h10_1 h10_2 (fun q44 q45 q46 q47 q48=>cond (q40.ble 9223372036854775807) (cond (q45.ble 9223372036854775807) (cond ((↑q40:Int) != (↑q45:Int)) (k0 false) (q0hz z N q39 q40 q41 q44 q45 q46 h0_n h0 h1_0 h1_1 h1_2 h2 h3_0 h3_1 h3_2 h4 h5_0 h5_1 h5_2 h6 h7 h8 h9_0 h9_1 h9_2 h10_0 h10_1 h10_2 q32 q33 q34 q36 q37 q38 q42 q43 q47 q48 N 0 0 0 (fun q49 q50=>k0 (q49==q50)))) (z)) (z)))))))))))) (cond (t25 != 0) (k0 (h10_0==0&&(h10_1 0==0&&(h10_1 1==0&&(h10_1 2==0&&(h10_1 3==0&&(h10_1 4==0&&(h10_1 5==0&&(h10_1 6==0&&(h10_1 7==0&&(h10_2 0==0&&(h10_2 1==0&&(h10_2 2==0&&(h10_2 3==0&&(h10_2 4==0&&(h10_2 5==0&&(h10_2 6==0&&(h10_2 7==0&&true)))))))))))))))))) (q0i1 z N t23_n t23_l t23_c h0_n h0 h1_0 h1_1 h1_2 h2 h3_0 h3_1 h3_2 h4 h5_0 h5_1 h5_2 h6 h7 h8 h9_0 h9_1 h9_2 h10_0 h10_1 h10_2 N 0 h9_0 h9_1 h9_2 (fun q32 q33 q34=>k0 false) (fun q32 q33 q34=>cond (!(q32==h10_0&&(q33 0==h10_1 0&&(q33 1==h10_1 1&&(q33 2==h10_1 2&&(q33 3==h10_1 3&&(q33 4==h10_1 4&&(q33 5==h10_1 5&&(q33 6==h10_1 6&&(q33 7==h10_1 7&&(q34 0==h10_2 0&&(q34 1==h10_2 1&&(q34 2==h10_2 2&&(q34 3==h10_2 3&&(q34 4==h10_2 4&&(q34 5==h10_2 5&&(q34 6==h10_2 6&&(q34 7==h10_2 7&&true)))))))))))))))))) (k0 false) (q0md z N h9_0 h9_1 h9_2 (fun q35 q36 q37 q38 q39=>q0md z N h10_0 h10_1 h10_2 (fun q40 q41 q42 q43 q44=>cond (q36.ble 9223372036854775807) (cond (q41.ble 9223372036854775807) (cond ((↑q36:Int) != (↑q41:Int)) (k0 false) (q0i5 z N q35 q36 q37 q40 q41 q42 h0_n h0 h1_0 h1_1 h1_2 h2 h3_0 h3_1 h3_2 h4 h5_0 h5_1 h5_2 h6 h7 h8 h9_0 h9_1 h9_2 h10_0 h10_1 h10_2 q32 q33 q34 q38 q39 q43 q44 N 0 0 0 (fun q45 q46=>k0 (q45==q46)))) (z)) (z)))))))
noncomputable def q0mg {β:Type}(z:β)(N:Nat)(code_n:Nat)(code_l:Nat)(code_c:Nat)(t5:Bool)(t10:Int)(t14:Int)(h0_n:Nat)(h0:Nat->Int)(h1_0:Int)(h1_1:Nat->Int)(h1_2:Nat->Int)(h2:Nat->Int)(h3_0:Int)(h3_1:Nat->Int)(h3_2:Nat->Int)(h4:Nat->Int)(k0:Bool->β):β:=
 q0gx z N code_n code_l code_c h0_n h0 (fun q19 q20 q21=>q0hn z N q19 q20 q21 (fun q22 q23 q24 q25 q26=>q0ho z N q19 q20 q21 (fun q27 q28 q29 q30 q31=>cond (q25 != q30) (k0 false) (q0hr z N q22 q23 q24 q27 q28 q29 q26 q31 (fun q32=>cond (!q32) (k0 false) (q0h0 z N code_n code_l code_c h0_n h0 (fun q33 q34 q35 q36 q37 q38 q39=>q0h3 z N q33 q34 q35 q36 q37 q38 q39 (fun q40 q41 q42 q43=>q0h6 z N q33 q34 q35 q36 q37 q38 q39 (fun q44 q45 q46 q47=>cond (q43 != q47) (k0 false) (cond (!(q40==q44&&(q41 0==q45 0&&(q41 1==q45 1&&(q41 2==q45 2&&(q41 3==q45 3&&(q41 4==q45 4&&(q41 5==q45 5&&(q41 6==q45 6&&(q41 7==q45 7&&(q42 0==q46 0&&(q42 1==q46 1&&(q42 2==q46 2&&(q42 3==q46 3&&(q42 4==q46 4&&(q42 5==q46 5&&(q42 6==q46 6&&(q42 7==q46 7&&true)))))))))))))))))) (k0 false) (q0ht z N t5 t10 t14 q22 q23 q24 q36 q37 q38 q43 h0_n h0 h1_0 h1_1 h1_2 h2 h3_0 h3_1 h3_2 h4 q19 q20 q21 q26 q31 q39 q33 q34 q35 q40 q41 q42 q44 q45 q46 N 0 (k0 false) (q0mf z N t5 t10 t14 q36 q37 q38 q43 h0_n h0 h1_0 h1_1 h1_2 h2 h3_0 h3_1 h3_2 h4 q19 q20 q21 q26 q31 q39 q33 q34 q35 q40 q41 q42 (fun q48=>k0 q48)))))))))))))
noncomputable def q0mh {β:Type}(z:β)(N:Nat)(code_n:Nat)(code_l:Nat)(code_c:Nat)(t5:Bool)(t10:Int)(h0_n:Nat)(h0:Nat->Int)(h1_0:Int)(h1_1:Nat->Int)(h1_2:Nat->Int)(h2:Nat->Int)(h3_0:Int)(h3_1:Nat->Int)(h3_2:Nat->Int)(k0:Bool->β):β:=
 q0gv z N h1_0 h1_1 h1_2 h2 (fun q17 q18=>q0gw z N h1_0 h1_1 h1_2 h2 (fun q19 q20=>cond (q18 != q20) (k0 false) (cond (!(q17 0==q19 0&&(q17 1==q19 1&&(q17 2==q19 2&&(q17 3==q19 3&&(q17 4==q19 4&&(q17 5==q19 5&&true))))))) (k0 false) (q0mg z N code_n code_l code_c t5 t10 q18 h0_n h0 h1_0 h1_1 h1_2 h2 h3_0 h3_1 h3_2 q17 (fun q21=>k0 q21)))))
noncomputable def q0mi {β:Type}(z:β)(N:Nat)(code_n:Nat)(code_l:Nat)(code_c:Nat)(h0_n:Nat)(h0:Nat->Int)(k0:Bool->β):β:=
 w_big z N code_n code_l code_c h0_n h0 (fun q8=>cond (q8) (k0 true) (q0gq z N code_n code_l code_c h0_n h0 (fun q9 q10 q11 q12=>q0gt z N q9 q10 q11 q12 (fun q13 q14=>q0gu z N q9 q10 q11 q12 (fun q15 q16=>cond (q14 != q16) (k0 false) (cond (q13 != q15) (k0 false) (q0fg z N q9 q10 q11 q12 (fun q17 q18 q19 q20=>q0eo z N q9 q10 q11 q12 (fun q21 q22 q23 q24=>cond (q20 != q24) (k0 false) (cond (!(q17==q21&&(q18 0==q22 0&&(q18 1==q22 1&&(q18 2==q22 2&&(q18 3==q22 3&&(q18 4==q22 4&&(q18 5==q22 5&&(q18 6==q22 6&&(q18 7==q22 7&&(q19 0==q23 0&&(q19 1==q23 1&&(q19 2==q23 2&&(q19 3==q23 3&&(q19 4==q23 4&&(q19 5==q23 5&&(q19 6==q23 6&&(q19 7==q23 7&&true)))))))))))))))))) (k0 false) (q0mh z N code_n code_l code_c q13 q20 h0_n h0 q9 q10 q11 q12 q17 q18 q19 (fun q25=>k0 q25))))))))))))
end Go.AM
namespace Go.AM
section
variable {β:Type}
theorem q0mj (a b:Int):(bif decide (b<a) then b else a)=min a b:=by rw [c_dec];split<;>omega
theorem q0mk (a b:Int):(bif decide (a<b) then b else a)=max a b:=by rw [c_dec];split<;>omega
def q0ml (a b c d:Int):Bool:=!(a==c)&&(!(a==d)&&(!(b==c)&&(!(b==d)&&((decide (min a b<c)&&decide (c<max a b))==(decide (min a b<d)&&decide (d<max a b))))))
theorem q0mm (z:β)(N:Nat)(a b c d:Int)(k:Bool->β):q0cz z N a b c d k=k (q0ml a b c d):=by
 unfold q0cz q0ml
 simp only [q0mj,q0mk]
 cases a==c<;>cases a==d<;>cases b==c<;>cases b==d<;>cases decide (min a b<c)<;>cases decide (min a b<d)<;>cases decide (c<max a b)<;>cases decide (d<max a b)<;>rfl
theorem q0mn (z:β)(N:Nat){a b c d:Int}(hab:a≠b)(hcd:c≠d)(k:Bool->β):q0cr z N a b c d k=k (q0ml a b c d):=by
 have key:q0ml a b c d=(!(a==c)&&(!(a==d)&&(!(b==c)&&(!(b==d)&&(((decide (min a b<c)&&decide (c<max a b))==(decide (min a b<d)&&decide (d<max a b)))||((decide (min c d<a)&&decide (a<max c d))==(decide (min c d<b)&&decide (b<max c d)))))))):=by
  unfold q0ml
  by_cases h1:a=c
  ·simp [h1]
  by_cases h2:a=d
  ·simp [h2]
  by_cases h3:b=c
  ·simp [h3]
  by_cases h4:b=d
  ·simp [h4]
  have e:((decide (min c d<a)&&decide (a<max c d))==(decide (min c d<b)&&decide (b<max c d)))=((decide (min a b<c)&&decide (c<max a b))==(decide (min a b<d)&&decide (d<max a b))):=by
   have q:∀ p q r s:Bool,((p==q)=(r==s))↔((p=true↔q=true)↔(r=true↔s=true)):=by decide
   rw [q]
   simp only [Bool.and_eq_true,decide_eq_true_eq]
   constructor<;>intro h<;>constructor<;>intro h'<;>omega
  rw [e,Bool.or_self]
 rw [key]
 unfold q0cr
 simp only [q0mj,q0mk]
 cases a==c<;>cases a==d<;>cases b==c<;>cases b==d<;>first | rfl | skip
 cases decide (min a b<c)<;>cases decide (min a b<d)<;>cases decide (c<max a b)<;>cases decide (d<max a b)<;>cases decide (min c d<a)<;>cases decide (min c d<b)<;>cases decide (a<max c d)<;>cases decide (b<max c d)<;>rfl
noncomputable def rowsB (n:Nat)(X O:Nat->Int)(r:Nat):Bool:=q0ml (rowOf n X r) (rowOf n O r) (rowOf n X (r+1)) (rowOf n O (r+1))
theorem q0mo {n:Nat}{X O:Nat->Int}(g:GridP n X O)(hX:∀ j,0<=X j)(hO:∀ j,0<=O j){r:Nat}(hr:r<n):(rowOf n X r:Int)≠rowOf n O r:=by
 intro e
 have h1:=q0je g.px hX hr
 have h2:=q0je g.po hO hr
 have:=g.ne _ h1.1
 rw [h1.2,show rowOf n X r=rowOf n O r by omega,h2.2] at this
 exact this rfl
theorem q0mp (z:β){N:Nat}(hN:8<N){n:Nat}{X O:Nat->Int}(g:GridP n X O)(hX:∀ j,0<=X j)(hO:∀ j,0<=O j){r:Nat}(hr:r+1<n)(k:Bool->β):q0cs z N n X O r k=k (rowsB n X O r):=by
 unfold q0cs
 have h8:=g.hi
 have hr0:r<n:=by omega
 have e:((r:Int)+1)=((r+1:Nat):Int):=by omega
 rw [q0jg z hN h8 g.px hX hr0,q0jg z hN h8 g.po hO hr0,q0i8 (by omega)]
 rw [e,q0jg z hN h8 g.px hX hr]
 rw [q0i8 (by omega),q0jg z hN h8 g.po hO hr,q0mn z N (q0mo g hX hO hr0) (q0mo g hX hO hr)]
 rfl
theorem q0mq (z:β){N:Nat}(hN:8<N){n:Nat}{X O:Nat->Int}(g:GridP n X O)(hX:∀ j,0<=X j)(hO:∀ j,0<=O j){r:Nat}(hr:r+1<n)(k:Bool->β):q0d0 z N n X O r k=k (rowsB n X O r):=by
 unfold q0d0
 have h8:=g.hi
 have hr0:r<n:=by omega
 have e:((r:Int)+1).toNat=r+1:=by omega
 simp only [q0ji z hN h8 g.px hX,q0ji z hN h8 g.po hO,c_and,e,Int.toNat_natCast,q0jh g.px hX hr0,q0jh g.po hO hr0,q0jh g.px hX hr,q0jh g.po hO hr]
 simp (disch:=omega) only [c_lt,c_le,c_blt,q0i8,q0mm]
 rfl
def swapR (r:Nat)(v:Int):Int:=if v=r then r+1 else if v=r+1 then r else v
def swapF (n:Nat)(r:Nat)(X:Nat->Int):Nat->Int:=fun i=>if i<n then swapR r (X i) else X i
theorem wrap8 {x:Int}(h:0<=x∧x<=255):wrapU .u8 x=x:=by unfold wrapU kmod;simp only;omega
theorem q0mr (z:β){N:Nat}(hN:8<N){n:Nat}(h8:n<=8)(X O:Nat->Int){r:Nat}(hr:r+1<n)(k:(Nat->Int)->(Nat->Int)->β):q0cv z N n X O r k=k (swapF n r X) (swapF n r O):=by
 unfold q0cv
 rw [q0i8 (by omega),wrap8 (by omega),wrap8 (by omega)]
 have:=up_to (L:=fun m i (h:(Nat->Int)×(Nat->Int))=>q0cu z r ((r:Int)+1) n 0 (fun _=>0) (fun _=>0) m (i:Int) h.1 h.2 k) (n:=n) (out:=fun h=>k h.1 h.2) (f:=fun i h=>(upd h.1 i (swapR r (h.1 i)),upd h.2 i (swapR r (h.2 i)))) (I:=fun _ _=>True)
  (fun m i s hi _=>⟨?_,trivial⟩) (fun m s _=>by simp (disch:=omega) only [q0cu,q0ct,c_nlt]) n N 0 (X,O) (by omega) (by omega) trivial
 ·refine this.trans ?_
  have e:∀ Y:Nat->Int,∀ d i:Nat,∀ h:Nat->Int,(∀ j,i<=j->h j=Y j)->iter (fun i (h:Nat->Int)=>upd h i (swapR r (h i))) d i h=fun j=>if i<=j∧j<i+d then swapR r (Y j) else h j:=by
   intro Y d
   induction d with
   | zero=>intro i h _;funext j;rw [if_neg (by omega)];rfl
   | succ d ih=>
    intro i h hh
    rw [iter,ih (i+1) _ (fun j hj=>by rw [q0ib,if_neg (by omega)];exact hh j (by omega))]
    funext j
    simp only [q0ib]
    by_cases e:j=i
    ·subst e;rw [if_neg (by omega),if_pos rfl,if_pos (by omega),hh j (by omega)]
    ·by_cases e2:i+1<=j∧j<i+1+d
     ·rw [if_pos e2,if_pos (by omega)]
     ·rw [if_neg e2,if_neg e,if_neg (by omega)]
  have e2:∀ d i:Nat,∀ s:(Nat->Int)×(Nat->Int),iter (fun i (h:(Nat->Int)×(Nat->Int))=>(upd h.1 i (swapR r (h.1 i)),upd h.2 i (swapR r (h.2 i)))) d i s=(iter (fun i (h:Nat->Int)=>upd h i (swapR r (h i))) d i s.1,iter (fun i (h:Nat->Int)=>upd h i (swapR r (h i))) d i s.2):=by
   intro d
   induction d with
   | zero=>intro i s;rfl
   | succ d ih=>intro i s;rw [iter,ih];rfl
  rw [e2,e X n 0 X (fun _ _=>rfl),e O n 0 O (fun _ _=>rfl)]
  unfold swapF
  simp only [Nat.zero_le,true_and,Nat.zero_add]
 ·simp only [q0cu,q0ct,c_and,Int.toNat_natCast]
  have self:∀ h:Nat->Int,upd h i (h i)=h:=fun h=>by funext j;rw [q0ib];split;(· subst_vars;rfl);rfl
  unfold swapR
  by_cases a1:s.1 i=r<;>by_cases a2:s.1 i=(r:Int)+1<;>by_cases b1:s.2 i=r<;>by_cases b2:s.2 i=(r:Int)+1<;>first
   | omega
   | (simp (disch:=omega) only [c_lt,c_le,c_blt,q0i8,c_eq,c_neq,if_pos,if_neg,a1,a2,b1,b2,self,reduceIte];try rfl)
theorem q0ms {n r:Nat}(hr:r+1<n)(h8:n<=8){v:Int}(h0:0<=v)(hv:v<n):0<=swapR r v∧swapR r v<n:=by unfold swapR;split;omega;split<;>omega
theorem q0mt (z:β){N:Nat}(hN:8<N){n:Nat}{X O:Nat->Int}(g:GridP n X O)(hX:∀ j,0<=X j)(hO:∀ j,0<=O j)(zX:∀ j,8<=j->X j=0)(zO:∀ j,8<=j->O j=0){r:Nat}(hr:r+1<n)(k:(Nat->Int)->(Nat->Int)->β):
  q0d7 z N n X O r k=k (swapF n r X) (swapF n r O):=by
 have h8:=g.hi
 unfold q0d7 q0d6 q0ce
 rw [q0ia]
 have:=up_to (L:=fun m i (h:(Nat->Int)×(Nat->Int))=>q0d5 z N n r n X O 0 (fun _=>0) (fun _=>0) n m (i:Int) h.1 h.2 k) (n:=n) (out:=fun h=>k h.1 h.2) (f:=fun i h=>(upd h.1 i (swapR r (X i)),upd h.2 i (swapR r (O i)))) (I:=fun _ _=>True)
  (fun m i s hi _=>⟨?_,trivial⟩) (fun m s _=>by simp (disch:=omega) only [q0d5,q0d4,c_nlt]) n N 0 (fun _=>0,fun _=>0) (by omega) (by omega) trivial
 ·refine this.trans ?_
  have e2:∀ d i:Nat,∀ s:(Nat->Int)×(Nat->Int),iter (fun i (h:(Nat->Int)×(Nat->Int))=>(upd h.1 i (swapR r (X i)),upd h.2 i (swapR r (O i)))) d i s=(iter (fun i (h:Nat->Int)=>upd h i (swapR r (X i))) d i s.1,iter (fun i (h:Nat->Int)=>upd h i (swapR r (O i))) d i s.2):=by
   intro d
   induction d with
   | zero=>intro i s;rfl
   | succ d ih=>intro i s;rw [iter,ih];rfl
  rw [e2,q0ij (fun i=>swapR r (X i)),q0ij (fun i=>swapR r (O i))]
  have e3:∀ Y:Nat->Int,PermP 8 n Y->(∀ j,8<=j->Y j=0)->(fun j=>if 0<=j∧j<0+n then swapR r (Y j) else 0)=swapF n r Y:=by
   intro Y hp hz
   funext j
   unfold swapF
   simp only [Nat.zero_le,true_and,Nat.zero_add]
   split
   ·rfl
   ·by_cases h:j<8
    ·exact (hp.1 j (by omega) h).symm
    ·exact (hz j (by omega)).symm
  rw [e3 X g.px zX,e3 O g.po zO]
 ·have a1:=hX i
  have a2:=g.px.2.1 i hi
  have b1:=hO i
  have b2:=g.po.2.1 i hi
  have sw:∀ v:Int,0<=v->v<n->∀ kk:Int->β,q0d1 z N i v r kk=kk (swapR r v):=by
   intro v h0 h1 kk
   unfold q0d1 swapR
   by_cases e1:v=r
   ·rw [c_eq e1,q0i8 (by omega),if_pos e1]
   ·rw [c_neq e1,q0i8 (by omega),if_neg e1]
    by_cases e2:v=(r:Int)+1
    ·rw [c_eq e2,if_pos e2]
    ·rw [c_neq e2,if_neg e2]
  have c1:=q0ms hr h8 a1 a2
  have c2:=q0ms hr h8 b1 b2
  simp only [q0d5,q0d4,c_and,Int.toNat_natCast,sw _ a1 a2,sw _ b1 b2,wrap8 (show 0<=swapR r (X i)∧swapR r (X i)<=255 by omega),wrap8 (show 0<=swapR r (O i)∧swapR r (O i)<=255 by omega)]
  simp (disch:=omega) only [c_lt,c_le,c_blt,q0i8]
  rfl
end
end Go.AM
namespace Go.AM
section
variable {β:Type}
theorem q0mu {γ:Type}(h:Nat->γ)(c:Nat)(a b:γ):upd (upd h c a) c b=upd h c b:=by
 funext j
 simp only [q0ib]
 split<;>rfl
theorem q0mv {γ:Type}(h:Nat->γ)(c:Nat)(a:γ):upd h c a c=a:=by rw [q0ib,if_pos rfl]
theorem wrapB {x:Int}(h:0<=x∧x<256):wrapU .u8 x=x:=by
 show x%256=x
 omega
def colT (i right c:Nat):Nat:=if c=i then i+right else if i<c then c+1 else c
def liftV (r u x:Int):Int:=if r<x then x+1 else if x=r then r+u else x
def lift1 (r x:Int):Int:=if r<x then x+1 else x
def growF (P Q:Nat->Int)(i right:Nat)(r u:Int)(c:Nat)(s:(Nat->Int)×(Nat->Int)):(Nat->Int)×(Nat->Int):=
 (upd s.1 (colT i right c) (lift1 r (P c)),upd s.2 (colT i right c) (liftV r u (Q c)))
def growO (n:Nat)(P Q:Nat->Int)(i right:Nat)(u:Int):(Nat->Int)×(Nat->Int):=
 let s:=iter (growF P Q i right (P i) u) n 0 (fun _=>0,fun _=>0)
 (upd (upd s.1 (i+right) (P i+(1-u))) (i+1-right) (P i+u),upd s.2 (i+1-right) (P i+(1-u)))
theorem q0mw (z:β){N n i right:Nat}(hN:8<N)(hn:n<8)(hi:i<n)(hr:right<=1){u:Int}(hu:0<=u∧u<=1){P Q:Nat->Int}(hP:∀ c,c<n->0<=P c∧P c<n)(hQ:∀ c,c<n->0<=Q c∧Q c<n)
  {a:Nat->Int} (a0:a 0=i) (a2:a 2=right) (a3:a 3=u) (n0 b0 c0:Int) (X O b1 b2:Nat->Int) (k:(Nat->Int)->(Nat->Int)->β):
  q0ez z (P i) n n0 X O a b0 b1 b2 P Q c0 N 0 (fun _=>0) (fun _=>0) k=k (iter (growF P Q i right (P i) u) n 0 (fun _=>0,fun _=>0)).1 (iter (growF P Q i right (P i) u) n 0 (fun _=>0,fun _=>0)).2:=by
 refine up_to (L:=fun m c (s:(Nat->Int)×(Nat->Int))=>q0ez z (P i) n n0 X O a b0 b1 b2 P Q c0 m (c:Int) s.1 s.2 k) (n:=n) (out:=fun s=>k s.1 s.2) (f:=growF P Q i right (P i) u) (I:=fun _ _=>True)
  (fun m c s hc _=>⟨?_,trivial⟩) (fun m s _=>by simp (disch:=omega) only [q0ez,q0ey,c_nlt]) n N 0 (fun _=>0,fun _=>0) (by omega) (by omega) trivial
 have p:=hP c hc
 have q:=hQ c hc
 have pi:=hP i hi
 have w1:=wrapB (x:=P c+1) (by omega)
 have w2:=wrapB (x:=Q c+1) (by omega)
 have w3:=wrapB (x:=u) (by omega)
 have w4:=wrapB (x:=P i+u) (by omega)
 rw [q0ez,q0ey,a0,a2,a3]
 unfold growF colT lift1 liftV
 have t1:((i:Int)+(right:Int)).toNat=i+right:=by omega
 have t2:((c:Int)+1).toNat=c+1:=by omega
 rcases Nat.lt_trichotomy c i with hci | hci | hci
 ·rw [if_neg (by omega),if_neg (by omega)]
  simp only [c_and,Int.toNat_natCast,t1,t2]
  simp (disch:=omega) only [c_lt,c_nlt,c_le,c_blt,q0i8,c_neq,c_eq]
  by_cases h1:P i<P c
  ·rw [if_pos h1,c_lt h1]
   by_cases h2:P i<Q c
   ·rw [if_pos h2,c_lt h2]
    simp only [q0mu,q0mv,w1,w2];rfl
   ·rw [if_neg h2,c_nlt (by omega)]
    by_cases h3:Q c=P i
    ·rw [if_pos h3,c_eq h3]
     simp only [q0mu,q0mv,w1,w3,h3,w4];rfl
    ·rw [if_neg h3,c_neq h3]
     simp only [q0mu,q0mv,w1];rfl
  ·rw [if_neg h1,c_nlt (by omega)]
   by_cases h2:P i<Q c
   ·rw [if_pos h2,c_lt h2]
    simp only [q0mu,q0mv,w2];rfl
   ·rw [if_neg h2,c_nlt (by omega)]
    by_cases h3:Q c=P i
    ·rw [if_pos h3,c_eq h3]
     simp only [q0mu,q0mv,w3,h3,w4];rfl
    ·rw [if_neg h3,c_neq h3]
     rfl
 ·subst hci
  rw [if_pos rfl]
  simp only [c_and,Int.toNat_natCast,t1,t2]
  simp (disch:=omega) only [c_lt,c_nlt,c_le,c_blt,q0i8,c_neq,c_eq]
  rw [if_neg (show ¬ P c<P c by omega)]
  by_cases h2:P c<Q c
  ·rw [if_pos h2,c_lt h2]
   simp only [q0mu,q0mv,w2];rfl
  ·rw [if_neg h2,c_nlt (by omega)]
   by_cases h3:Q c=P c
   ·rw [if_pos h3,c_eq h3]
    simp only [q0mu,q0mv,w3,h3,w4];rfl
   ·rw [if_neg h3,c_neq h3]
    rfl
 ·rw [if_neg (by omega),if_pos hci]
  simp only [c_and,Int.toNat_natCast,t1,t2]
  simp (disch:=omega) only [c_lt,c_nlt,c_le,c_blt,q0i8,c_neq,c_eq]
  by_cases h1:P i<P c
  ·rw [if_pos h1,c_lt h1]
   by_cases h2:P i<Q c
   ·rw [if_pos h2,c_lt h2]
    simp only [q0mu,q0mv,w1,w2];rfl
   ·rw [if_neg h2,c_nlt (by omega)]
    by_cases h3:Q c=P i
    ·rw [if_pos h3,c_eq h3]
     simp only [q0mu,q0mv,w1,w3,h3,w4];rfl
    ·rw [if_neg h3,c_neq h3]
     simp only [q0mu,q0mv,w1];rfl
  ·rw [if_neg h1,c_nlt (by omega)]
   by_cases h2:P i<Q c
   ·rw [if_pos h2,c_lt h2]
    simp only [q0mu,q0mv,w2];rfl
   ·rw [if_neg h2,c_nlt (by omega)]
    by_cases h3:Q c=P i
    ·rw [if_pos h3,c_eq h3]
     simp only [q0mu,q0mv,w3,h3,w4];rfl
    ·rw [if_neg h3,c_neq h3]
     rfl
theorem q0mx (z:β){N n i right:Nat}(hN:8<N)(hn:n<8)(hi:i<n)(hr:right<=1){u:Int}(hu:0<=u∧u<=1){P Q:Nat->Int}(hP:∀ c,c<n->0<=P c∧P c<n)(hQ:∀ c,c<n->0<=Q c∧Q c<n)
  {a:Nat->Int} (a0:a 0=i) (a2:a 2=right) (a3:a 3=u) (n0 b0 c0:Int) (X O b1 b2:Nat->Int) (k:(Nat->Int)->(Nat->Int)->β):
  q0f1 z (P i) n n0 X O a b0 b1 b2 P Q c0 N 0 (fun _=>0) (fun _=>0) k=k (iter (growF P Q i right (P i) u) n 0 (fun _=>0,fun _=>0)).2 (iter (growF P Q i right (P i) u) n 0 (fun _=>0,fun _=>0)).1:=by
 refine up_to (L:=fun m c (s:(Nat->Int)×(Nat->Int))=>q0f1 z (P i) n n0 X O a b0 b1 b2 P Q c0 m (c:Int) s.2 s.1 k) (n:=n) (out:=fun s=>k s.2 s.1) (f:=growF P Q i right (P i) u) (I:=fun _ _=>True)
  (fun m c s hc _=>⟨?_,trivial⟩) (fun m s _=>by simp (disch:=omega) only [q0f1,q0f0,c_nlt]) n N 0 (fun _=>0,fun _=>0) (by omega) (by omega) trivial
 have p:=hP c hc
 have q:=hQ c hc
 have pi:=hP i hi
 have w1:=wrapB (x:=P c+1) (by omega)
 have w2:=wrapB (x:=Q c+1) (by omega)
 have w3:=wrapB (x:=u) (by omega)
 have w4:=wrapB (x:=P i+u) (by omega)
 rw [q0f1,q0f0,a0,a2,a3]
 unfold growF colT lift1 liftV
 have t1:((i:Int)+(right:Int)).toNat=i+right:=by omega
 have t2:((c:Int)+1).toNat=c+1:=by omega
 rcases Nat.lt_trichotomy c i with hci | hci | hci
 ·rw [if_neg (by omega),if_neg (by omega)]
  simp only [c_and,Int.toNat_natCast,t1,t2]
  simp (disch:=omega) only [c_lt,c_nlt,c_le,c_blt,q0i8,c_neq,c_eq]
  by_cases h1:P i<P c
  ·rw [if_pos h1,c_lt h1]
   by_cases h2:P i<Q c
   ·rw [if_pos h2,c_lt h2]
    simp only [q0mu,q0mv,w1,w2];rfl
   ·rw [if_neg h2,c_nlt (by omega)]
    by_cases h3:Q c=P i
    ·rw [if_pos h3,c_eq h3]
     simp only [q0mu,q0mv,w1,w3,h3,w4];rfl
    ·rw [if_neg h3,c_neq h3]
     simp only [q0mu,q0mv,w1];rfl
  ·rw [if_neg h1,c_nlt (by omega)]
   by_cases h2:P i<Q c
   ·rw [if_pos h2,c_lt h2]
    simp only [q0mu,q0mv,w2];rfl
   ·rw [if_neg h2,c_nlt (by omega)]
    by_cases h3:Q c=P i
    ·rw [if_pos h3,c_eq h3]
     simp only [q0mu,q0mv,w3,h3,w4];rfl
    ·rw [if_neg h3,c_neq h3]
     rfl
 ·subst hci
  rw [if_pos rfl]
  simp only [c_and,Int.toNat_natCast,t1,t2]
  simp (disch:=omega) only [c_lt,c_nlt,c_le,c_blt,q0i8,c_neq,c_eq]
  rw [if_neg (show ¬ P c<P c by omega)]
  by_cases h2:P c<Q c
  ·rw [if_pos h2,c_lt h2]
   simp only [q0mu,q0mv,w2];rfl
  ·rw [if_neg h2,c_nlt (by omega)]
   by_cases h3:Q c=P c
   ·rw [if_pos h3,c_eq h3]
    simp only [q0mu,q0mv,w3,h3,w4];rfl
   ·rw [if_neg h3,c_neq h3]
    rfl
 ·rw [if_neg (by omega),if_pos hci]
  simp only [c_and,Int.toNat_natCast,t1,t2]
  simp (disch:=omega) only [c_lt,c_nlt,c_le,c_blt,q0i8,c_neq,c_eq]
  by_cases h1:P i<P c
  ·rw [if_pos h1,c_lt h1]
   by_cases h2:P i<Q c
   ·rw [if_pos h2,c_lt h2]
    simp only [q0mu,q0mv,w1,w2];rfl
   ·rw [if_neg h2,c_nlt (by omega)]
    by_cases h3:Q c=P i
    ·rw [if_pos h3,c_eq h3]
     simp only [q0mu,q0mv,w1,w3,h3,w4];rfl
    ·rw [if_neg h3,c_neq h3]
     simp only [q0mu,q0mv,w1];rfl
  ·rw [if_neg h1,c_nlt (by omega)]
   by_cases h2:P i<Q c
   ·rw [if_pos h2,c_lt h2]
    simp only [q0mu,q0mv,w2];rfl
   ·rw [if_neg h2,c_nlt (by omega)]
    by_cases h3:Q c=P i
    ·rw [if_pos h3,c_eq h3]
     simp only [q0mu,q0mv,w3,h3,w4];rfl
    ·rw [if_neg h3,c_neq h3]
     rfl
theorem q0my (z:β){N n i right:Nat}(hN:8<N)(hn:n<8)(hi:i<n)(hr:right<=1){u:Int}(hu:0<=u∧u<=1){X O:Nat->Int}(hX:∀ c,c<n->0<=X c∧X c<n)(hO:∀ c,c<n->0<=O c∧O c<n)
  {a:Nat->Int} (a0:a 0=i) (a1:a 1=0) (a2:a 2=right) (a3:a 3=u) (k:Int->(Nat->Int)->(Nat->Int)->β):
  q0f4 z N n X O a k=k ((n:Int)+1) (growO n X O i right u).1 (growO n X O i right u).2:=by
 have pi:=hX i hi
 unfold q0f4
 have e0:∀ (c:Int) (p q:Nat->Int) (x y:β),c=0->q0ev z N c n p q x y=x:=fun c p q x y h=>by unfold q0ev;rw [c_eq h]
 have e1:∀ (c:Int) (p q:Nat->Int) (x y:β),c=1->q0ev z N c n p q x y=y:=fun c p q x y h=>by unfold q0ev;rw [c_neq (by omega)]
 have f0:∀ (c:Int) (p q:Nat->Int) (x y:β),c=0->q0ev z N c ((n:Int)+1) p q x y=x:=fun c p q x y h=>by unfold q0ev;rw [c_eq h]
 have f1:∀ (c:Int) (p q:Nat->Int) (x y:β),c=1->q0ev z N c ((n:Int)+1) p q x y=y:=fun c p q x y h=>by unfold q0ev;rw [c_neq (by omega)]
 have t1:((i:Int)+(right:Int)).toNat=i+right:=by omega
 have t2:((i:Int)+1-(right:Int)).toNat=i+1-right:=by omega
 have w1:=wrapB (x:=1-u) (by omega)
 have w2:=wrapB (x:=u) (by omega)
 have w3:=wrapB (x:=X i+(1-u)) (by omega)
 have w4:=wrapB (x:=X i+u) (by omega)
 rw [a1]
 simp (disch:=omega) only [e0,e1,f0,f1,q0i8,a0,a2,a3,q0ce]
 simp only [c_and,Int.toNat_natCast,t1,t2]
 simp (disch:=omega) only [c_lt,c_le,c_blt,q0i8]
 rw [q0mw z hN hn hi hr hu hX hO a0 a2 a3]
 simp (disch:=omega) only [c_lt,c_le,c_blt,q0i8,w1,w2,w3,w4]
 rfl
theorem q0mz (z:β){N n i right:Nat}(hN:8<N)(hn:n<8)(hi:i<n)(hr:right<=1){u:Int}(hu:0<=u∧u<=1){X O:Nat->Int}(hX:∀ c,c<n->0<=X c∧X c<n)(hO:∀ c,c<n->0<=O c∧O c<n)
  {a:Nat->Int} (a0:a 0=i) (a1:a 1=1) (a2:a 2=right) (a3:a 3=u) (k:Int->(Nat->Int)->(Nat->Int)->β):
  q0f4 z N n X O a k=k ((n:Int)+1) (growO n O X i right u).2 (growO n O X i right u).1:=by
 have pi:=hO i hi
 unfold q0f4
 have e0:∀ (c:Int) (p q:Nat->Int) (x y:β),c=0->q0ev z N c n p q x y=x:=fun c p q x y h=>by unfold q0ev;rw [c_eq h]
 have e1:∀ (c:Int) (p q:Nat->Int) (x y:β),c=1->q0ev z N c n p q x y=y:=fun c p q x y h=>by unfold q0ev;rw [c_neq (by omega)]
 have f0:∀ (c:Int) (p q:Nat->Int) (x y:β),c=0->q0ev z N c ((n:Int)+1) p q x y=x:=fun c p q x y h=>by unfold q0ev;rw [c_eq h]
 have f1:∀ (c:Int) (p q:Nat->Int) (x y:β),c=1->q0ev z N c ((n:Int)+1) p q x y=y:=fun c p q x y h=>by unfold q0ev;rw [c_neq (by omega)]
 have t1:((i:Int)+(right:Int)).toNat=i+right:=by omega
 have t2:((i:Int)+1-(right:Int)).toNat=i+1-right:=by omega
 have w1:=wrapB (x:=1-u) (by omega)
 have w2:=wrapB (x:=u) (by omega)
 have w3:=wrapB (x:=O i+(1-u)) (by omega)
 have w4:=wrapB (x:=O i+u) (by omega)
 rw [a1]
 simp (disch:=omega) only [e0,e1,f0,f1,q0i8,a0,a2,a3,q0ce]
 simp only [c_and,Int.toNat_natCast,t1,t2]
 simp (disch:=omega) only [c_lt,c_le,c_blt,q0i8]
 rw [q0mx z hN hn hi hr hu hO hX a0 a2 a3]
 simp (disch:=omega) only [c_lt,c_le,c_blt,q0i8,w1,w2,w3,w4]
 rfl
end
end Go.AM
namespace Go.AM
section
variable {β:Type}
theorem q0n0 {col:Nat->Nat}{v:Nat->Int}{ok:Nat->Bool}(hinj:∀ a b,ok a=true->ok b=true->col a=col b->a=b)(h:Nat->Int):∀ d,
  (∀ c,c<d->ok c=true->iter (fun c (s:Nat->Int)=>cond (ok c) (upd s (col c) (v c)) s) d 0 h (col c)=v c) ∧
  ∀ j,(∀ c,c<d->ok c=true->col c≠j)->iter (fun c (s:Nat->Int)=>cond (ok c) (upd s (col c) (v c)) s) d 0 h j=h j:=by
 intro d
 induction d with
 | zero=>exact ⟨fun c hc=>by omega,fun j _=>rfl⟩
 | succ d ih=>
  rw [q0ic,Nat.zero_add]
  generalize iter (fun c (s:Nat->Int)=>cond (ok c) (upd s (col c) (v c)) s) d 0 h=s at *
  obtain ⟨i1,i2⟩:=ih
  cases hok:ok d with
  | false=>
   rw [cond_false]
   refine ⟨fun c hc ho=>i1 c ?_ ho,fun j hj=>i2 j fun c hc ho=>hj c (by omega) ho⟩
   rcases Nat.lt_or_ge c d with h | h
   ·exact h
   ·have:c=d:=by omega
    subst this
    rw [hok] at ho
    cases ho
  | true=>
   rw [cond_true]
   refine ⟨fun c hc ho=>?_,fun j hj=>?_⟩
   ·rw [q0ib]
    by_cases e:col c=col d
    ·have:=hinj c d ho hok e
     subst this
     rw [if_pos rfl]
    ·rw [if_neg e]
     refine i1 c ?_ ho
     rcases Nat.lt_or_ge c d with h | h
     ·exact h
     ·have:c=d:=by omega
      subst this
      exact absurd rfl e
   ·rw [q0ib,if_neg (fun e=>hj d (by omega) hok e.symm)]
    exact i2 j fun c hc ho=>hj c (by omega) ho
theorem q0n1 {σ τ:Type}{f:Nat->σ×τ->σ×τ}{g:Nat->σ->σ}(h:∀ c s,(f c s).1=g c s.1):∀ d i s,(iter f d i s).1=iter g d i s.1:=by
 intro d
 induction d with
 | zero=>intro i s;rfl
 | succ d ih=>intro i s;rw [iter,iter,ih,h]
theorem q0n2 {σ τ:Type}{f:Nat->σ×τ->σ×τ}{g:Nat->τ->τ}(h:∀ c s,(f c s).2=g c s.2):∀ d i s,(iter f d i s).2=iter g d i s.2:=by
 intro d
 induction d with
 | zero=>intro i s;rfl
 | succ d ih=>intro i s;rw [iter,iter,ih,h]
theorem q0n3 {i right:Nat}(hr:right<=1){a b:Nat}(h:colT i right a=colT i right b):a=b:=by
 unfold colT at h
 by_cases h1:a=i<;>by_cases h2:b=i<;>by_cases h3:i<a<;>by_cases h4:i<b<;>simp only [h1,h2,h3,h4,if_true,if_false] at h<;>omega
theorem q0n4 {n i right:Nat}(hi:i<n)(hr:right<=1){u:Int}(P Q:Nat->Int):
  (growO n P Q i right u).1 (i+right)=P i+(1-u)∧(growO n P Q i right u).1 (i+1-right)=P i+u∧(growO n P Q i right u).2 (i+1-right)=P i+(1-u)∧(growO n P Q i right u).2 (i+right)=liftV (P i) u (Q i) ∧
  (∀ j,j<i->(growO n P Q i right u).1 j=lift1 (P i) (P j)∧(growO n P Q i right u).2 j=liftV (P i) u (Q j)) ∧
  (∀ j,i<j->j<n->(growO n P Q i right u).1 (j+1)=lift1 (P i) (P j)∧(growO n P Q i right u).2 (j+1)=liftV (P i) u (Q j)) ∧
  ∀ j,n<j->(growO n P Q i right u).1 j=0∧(growO n P Q i right u).2 j=0:=by
 unfold growO
 simp only
 have e1:=q0n1 (f:=growF P Q i right (P i) u) (g:=fun c s=>upd s (colT i right c) (lift1 (P i) (P c))) (fun c s=>rfl) n 0 (fun _=>0,fun _=>0)
 have e2:=q0n2 (f:=growF P Q i right (P i) u) (g:=fun c s=>upd s (colT i right c) (liftV (P i) u (Q c))) (fun c s=>rfl) n 0 (fun _=>0,fun _=>0)
 have k1:=q0n0 (col:=colT i right) (v:=fun c=>lift1 (P i) (P c)) (ok:=fun _=>true) (fun a b _ _ h=>q0n3 hr h) (fun _=>0) n
 have k2:=q0n0 (col:=colT i right) (v:=fun c=>liftV (P i) u (Q c)) (ok:=fun _=>true) (fun a b _ _ h=>q0n3 hr h) (fun _=>0) n
 simp only [cond_true] at k1 k2
 rw [e1,e2]
 obtain ⟨a1,a2⟩:=k1
 obtain ⟨b1,b2⟩:=k2
 simp only at a1 a2 b1 b2 ⊢
 generalize iter (fun c s=>upd s (colT i right c) (lift1 (P i) (P c))) n 0 (fun _=>0)=s at *
 generalize iter (fun c s=>upd s (colT i right c) (liftV (P i) u (Q c))) n 0 (fun _=>0)=t at *
 have ci:colT i right i=i+right:=if_pos rfl
 have cl:∀ j,j<i->colT i right j=j:=fun j hj=>by unfold colT;rw [if_neg (by omega),if_neg (by omega)]
 have cg:∀ j,i<j->colT i right j=j+1:=fun j hj=>by unfold colT;rw [if_neg (by omega),if_pos hj]
 refine ⟨?_,?_,?_,?_,fun j hj=>⟨?_,?_⟩,fun j hj1 hj2=>⟨?_,?_⟩,fun j hj=>⟨?_,?_⟩⟩
 ·rw [q0ib,if_neg (by omega),q0ib,if_pos rfl]
 ·rw [q0ib,if_pos rfl]
 ·rw [q0ib,if_pos rfl]
 ·rw [q0ib,if_neg (by omega),<- ci];exact b1 i hi trivial
 ·rw [q0ib,if_neg (by omega),q0ib,if_neg (by omega)]
  have:=a1 j (by omega) trivial
  rwa [cl j hj] at this
 ·rw [q0ib,if_neg (by omega)]
  have:=b1 j (by omega) trivial
  rwa [cl j hj] at this
 ·rw [q0ib,if_neg (by omega),q0ib,if_neg (by omega)]
  have:=a1 j hj2 trivial
  rwa [cg j hj1] at this
 ·rw [q0ib,if_neg (by omega)]
  have:=b1 j hj2 trivial
  rwa [cg j hj1] at this
 ·rw [q0ib,if_neg (by omega),q0ib,if_neg (by omega)]
  refine a2 j fun c hc _ e=>?_
  unfold colT at e
  split at e
  ·omega
  ·split at e<;>omega
 ·rw [q0ib,if_neg (by omega)]
  refine b2 j fun c hc _ e=>?_
  unfold colT at e
  split at e
  ·omega
  ·split at e<;>omega
def colS (i c:Nat):Nat:=if i<c then c+1 else c
def stabF (P Q:Nat->Int)(i:Nat)(r u:Int)(c:Nat)(s:(Nat->Int)×(Nat->Int)):(Nat->Int)×(Nat->Int):=
 cond (c != i) (upd s.1 (colS i c) (liftV r u (P c)),upd s.2 (colS i c) (liftV r u (Q c))) s
def stabO (n:Nat)(P Q:Nat->Int)(i right:Nat)(u:Int):(Nat->Int)×(Nat->Int):=
 let s:=iter (stabF P Q i (P i) u) n 0 (fun _=>0,fun _=>0)
 (upd (upd s.1 (i+right) (P i+1-u)) (i+1-right) (P i+u),upd (upd s.2 (i+1-right) (P i+1-u)) (i+right) (liftV (P i) u (Q i)))
theorem q0n5 {n i right:Nat}(hi:i<n)(hr:right<=1){u:Int}{P Q:Nat->Int}(hP:∀ a b,a<n->b<n->P a=P b->a=b):stabO n P Q i right u=growO n P Q i right u:=by
 obtain ⟨g1,g2,g3,g4,g5,g6,g7⟩:=q0n4 (n:=n) hi hr (u:=u) P Q
 unfold stabO
 simp only
 have e1:=q0n1 (f:=stabF P Q i (P i) u) (g:=fun c s=>cond (c != i) (upd s (colS i c) (liftV (P i) u (P c))) s) (fun c s=>by unfold stabF;cases (c != i)<;>rfl) n 0 (fun _=>0,fun _=>0)
 have e2:=q0n2 (f:=stabF P Q i (P i) u) (g:=fun c s=>cond (c != i) (upd s (colS i c) (liftV (P i) u (Q c))) s) (fun c s=>by unfold stabF;cases (c != i)<;>rfl) n 0 (fun _=>0,fun _=>0)
 have inj:∀ a b,(a != i)=true->(b != i)=true->colS i a=colS i b->a=b:=fun a b h1 h2 h=>by
  have h1:a≠i:=by simpa using h1
  have h2:b≠i:=by simpa using h2
  unfold colS at h
  by_cases h3:i<a<;>by_cases h4:i<b<;>simp only [h3,h4,if_true,if_false] at h<;>omega
 have k1:=q0n0 (col:=colS i) (v:=fun c=>liftV (P i) u (P c)) (ok:=fun c=>c != i) inj (fun _=>0) n
 have k2:=q0n0 (col:=colS i) (v:=fun c=>liftV (P i) u (Q c)) (ok:=fun c=>c != i) inj (fun _=>0) n
 rw [e1,e2]
 obtain ⟨a1,a2⟩:=k1
 obtain ⟨b1,b2⟩:=k2
 simp only at a1 a2 b1 b2 ⊢
 generalize iter (fun c (s:Nat->Int)=>cond (c != i) (upd s (colS i c) (liftV (P i) u (P c))) s) n 0 (fun _=>0)=s at *
 generalize iter (fun c (s:Nat->Int)=>cond (c != i) (upd s (colS i c) (liftV (P i) u (Q c))) s) n 0 (fun _=>0)=t at *
 have hl:∀ j,j<n->j≠i->liftV (P i) u (P j)=lift1 (P i) (P j):=fun j hj hne=>by
  unfold liftV lift1
  rw [if_neg (show ¬ P j=P i from fun e=>hne (hP j i hj hi e))]
 have cl:∀ j,j<i->colS i j=j:=fun j hj=>by unfold colS;rw [if_neg (by omega)]
 have cg:∀ j,i<j->colS i j=j+1:=fun j hj=>by unfold colS;rw [if_pos hj]
 have nb:∀ j,j≠i->(j != i)=true:=fun j hj=>by simpa using hj
 refine Prod.ext (funext fun j=>?_) (funext fun j=>?_)
 ·simp only
  rw [q0ib,q0ib]
  by_cases h1:j=i+1-right
  ·rw [if_pos h1,h1,g2]
  ·rw [if_neg h1]
   by_cases h2:j=i+right
   ·rw [if_pos h2,h2,g1];omega
   ·rw [if_neg h2]
    rcases Nat.lt_or_ge j i with h3 | h3
    ·have:=a1 j (by omega) (nb j (by omega))
     rw [cl j h3] at this
     rw [this,(g5 j h3).1,hl j (by omega) (by omega)]
    ·rcases Nat.lt_or_ge n j with h4 | h4
     ·rw [(g7 j h4).1]
      exact a2 j fun c hc _ e=>by unfold colS at e;split at e<;>omega
     ·obtain ⟨q,rfl⟩:∃ q,j=q+1:=⟨j-1,by omega⟩
      have:=a1 q (by omega) (nb q (by omega))
      rw [cg q (by omega)] at this
      rw [this,(g6 q (by omega) (by omega)).1,hl q (by omega) (by omega)]
 ·simp only
  rw [q0ib,q0ib]
  by_cases h2:j=i+right
  ·rw [if_pos h2,h2,g4]
  ·rw [if_neg h2]
   by_cases h1:j=i+1-right
   ·rw [if_pos h1,h1,g3];omega
   ·rw [if_neg h1]
    rcases Nat.lt_or_ge j i with h3 | h3
    ·have:=b1 j (by omega) (nb j (by omega))
     rw [cl j h3] at this
     rw [this,(g5 j h3).2]
    ·rcases Nat.lt_or_ge n j with h4 | h4
     ·rw [(g7 j h4).2]
      exact b2 j fun c hc _ e=>by unfold colS at e;split at e<;>omega
     ·obtain ⟨q,rfl⟩:∃ q,j=q+1:=⟨j-1,by omega⟩
      have:=b1 q (by omega) (nb q (by omega))
      rw [cg q (by omega)] at this
      rw [this,(g6 q (by omega) (by omega)).2]
theorem q0n6 (z:β)(N:Nat){x r u:Int}(hx:0<=x∧x<200)(hr:0<=r∧r<200)(hu:0<=u∧u<=1)(k:Int->β):q0ej z N x r u k=k (liftV r u x):=by
 have w1:=wrapB (x:=x+1) (by omega)
 have w2:=wrapB (x:=r+u) (by omega)
 unfold q0ej liftV
 by_cases h1:r<x
 ·rw [if_pos h1,c_lt h1,w1]
 ·rw [if_neg h1,c_nlt (by omega)]
  by_cases h2:x=r
  ·rw [if_pos h2,c_eq h2,q0i8 (by omega),w2]
  ·rw [if_neg h2,c_neq h2]
theorem q0n7 (z:β){N n i:Nat}(hN:8<N)(hn:n<8)(hi:i<n){u r:Int}(hu:0<=u∧u<=1){P Q:Nat->Int}(hP:∀ c,c<n->0<=P c∧P c<n)(hQ:∀ c,c<n->0<=Q c∧Q c<n)(hr:0<=r∧r<n)
  (t2 t3:Int) (X O a0 a1:Nat->Int) (b0:Int) (k:(Nat->Int)->(Nat->Int)->β):
  q0el z N i t2 t3 u r n X O b0 a0 a1 P Q N 0 (fun _=>0) (fun _=>0) k=k (iter (stabF P Q i r u) n 0 (fun _=>0,fun _=>0)).1 (iter (stabF P Q i r u) n 0 (fun _=>0,fun _=>0)).2:=by
 refine up_to (L:=fun m c (s:(Nat->Int)×(Nat->Int))=>q0el z N i t2 t3 u r n X O b0 a0 a1 P Q m (c:Int) s.1 s.2 k) (n:=n) (out:=fun s=>k s.1 s.2) (f:=stabF P Q i r u) (I:=fun _ _=>True)
  (fun m c s hc _=>⟨?_,trivial⟩) (fun m s _=>by simp (disch:=omega) only [q0el,q0ek,c_nlt]) n N 0 (fun _=>0,fun _=>0) (by omega) (by omega) trivial
 have p:=hP c hc
 have q:=hQ c hc
 have t1:((c:Int)+1).toNat=c+1:=by omega
 rw [q0el,q0ek]
 unfold stabF colS
 rcases Nat.lt_trichotomy c i with hci | hci | hci
 ·rw [show (c != i)=true by simp;omega,cond_true,if_neg (by omega)]
  simp only [c_and,Int.toNat_natCast,t1,q0n6 z N (x:=P c) (r:=r) (u:=u) (by omega) (by omega) hu,q0n6 z N (x:=Q c) (r:=r) (u:=u) (by omega) (by omega) hu]
  simp (disch:=omega) only [c_lt,c_nlt,c_le,c_blt,q0i8,c_ne]
  rfl
 ·subst hci
  rw [show (c != c)=false by simp,cond_false]
  simp (disch:=omega) only [c_lt,c_nlt,q0i8,c_nne]
  rfl
 ·rw [show (c != i)=true by simp;omega,cond_true,if_pos hci]
  simp only [c_and,Int.toNat_natCast,t1,q0n6 z N (x:=P c) (r:=r) (u:=u) (by omega) (by omega) hu,q0n6 z N (x:=Q c) (r:=r) (u:=u) (by omega) (by omega) hu]
  simp (disch:=omega) only [c_lt,c_nlt,c_le,c_blt,q0i8,c_ne]
  rfl
theorem q0n8 (z:β){N n i right:Nat}(hN:8<N)(hn:n<8)(hi:i<n)(hr:right<=1){u:Int}(hu:0<=u∧u<=1){X O:Nat->Int}(hX:∀ c,c<n->0<=X c∧X c<n)(hO:∀ c,c<n->0<=O c∧O c<n)(k:Int->(Nat->Int)->(Nat->Int)->β):
  q0em z N n X O i 0 right u k=k ((n:Int)+1) (stabO n X O i right u).1 (stabO n X O i right u).2:=by
 have pi:=hX i hi
 have qi:=hO i hi
 have t1:((i:Int)+(right:Int)).toNat=i+right:=by omega
 have t2:((i:Int)+1-(right:Int)).toNat=i+1-right:=by omega
 have w3:=wrapB (x:=X i+1-u) (by omega)
 have w4:=wrapB (x:=X i+u) (by omega)
 unfold q0em
 rw [show ((0:Int)==1)=false from rfl,cond_false]
 simp only [c_and,Int.toNat_natCast,t1,t2,cond_false]
 simp (disch:=omega) only [c_lt,c_le,c_blt,q0i8]
 rw [q0n7 z hN hn hi hu hX hO pi]
 simp only [q0n6 z N (x:=O i) (r:=X i) (u:=u) (by omega) (by omega) hu]
 simp (disch:=omega) only [c_lt,c_le,c_blt,q0i8,w3,w4]
 rfl
theorem q0n9 (z:β){N n i right:Nat}(hN:8<N)(hn:n<8)(hi:i<n)(hr:right<=1){u:Int}(hu:0<=u∧u<=1){X O:Nat->Int}(hX:∀ c,c<n->0<=X c∧X c<n)(hO:∀ c,c<n->0<=O c∧O c<n)(k:Int->(Nat->Int)->(Nat->Int)->β):
  q0em z N n X O i 1 right u k=k ((n:Int)+1) (stabO n O X i right u).2 (stabO n O X i right u).1:=by
 have pi:=hO i hi
 have qi:=hX i hi
 have t1:((i:Int)+(right:Int)).toNat=i+right:=by omega
 have t2:((i:Int)+1-(right:Int)).toNat=i+1-right:=by omega
 have w3:=wrapB (x:=O i+1-u) (by omega)
 have w4:=wrapB (x:=O i+u) (by omega)
 unfold q0em
 rw [show ((1:Int)==1)=true from rfl,cond_true]
 simp only [c_and,Int.toNat_natCast,t1,t2,cond_true]
 simp (disch:=omega) only [c_lt,c_le,c_blt,q0i8]
 rw [q0n7 z hN hn hi hu hO hX pi]
 simp only [q0n6 z N (x:=X i) (r:=O i) (u:=u) (by omega) (by omega) hu]
 simp (disch:=omega) only [c_lt,c_le,c_blt,q0i8,w3,w4]
 rfl
end
end Go.AM
namespace Go.AM
section
variable {β:Type}
def lowr (r x:Int):Int:=if r<x then x-1 else x
def recol (b j:Nat):Nat:=if j<b then j else j+1
def oldF (n:Nat)(P:Nat->Int)(b:Nat)(r:Int):Nat->Int:=fun j=>if j+1<n then lowr r (P (recol b j)) else 0
def Fit (P Q:Nat->Int)(i right:Nat)(r u:Int):Prop:=
 P (i+right)=r+1-u∧P (i+1-right)=r+u∧Q (i+1-right)=r+1-u∧Q (i+right)≠r+u
instance (P Q:Nat->Int) (i right:Nat) (r u:Int):Decidable (Fit P Q i right r u):=by unfold Fit;infer_instance
def colW (b c:Nat):Nat:=if b<c then c-1 else c
theorem q0na {n b:Nat}(hb:b<n)(P:Nat->Int)(r:Int):
  iter (fun c (s:Nat->Int)=>cond (c != b) (upd s (colW b c) (lowr r (P c))) s) n 0 (fun _=>0)=oldF n P b r:=by
 obtain ⟨k1,k2⟩:=q0n0 (col:=colW b) (v:=fun c=>lowr r (P c)) (ok:=fun c=>c != b) (fun x y hx hy h=>by
  unfold colW at h
  have hx':x≠b:=by simpa using hx
  have hy':y≠b:=by simpa using hy
  by_cases h1:b<x<;>by_cases h2:b<y<;>simp only [h1,h2,if_true,if_false] at h<;>omega) (fun _=>0) n
 funext j
 unfold oldF
 by_cases hj:j+1<n
 ·rw [if_pos hj]
  have hc:recol b j<n:=by unfold recol;split<;>omega
  have hn:(recol b j != b)=true:=by
   have:recol b j≠b:=by unfold recol;split<;>omega
   simpa using this
  have:=k1 (recol b j) hc hn
  rwa [show colW b (recol b j)=j by unfold colW recol;split<;>split<;>omega] at this
 ·rw [if_neg hj]
  refine k2 j fun c hc ho e=>?_
  have ho':c≠b:=by simpa using ho
  unfold colW at e
  split at e<;>omega
theorem q0nb {r u:Int}(hu:0<=u∧u<=1):lowr (r+1-u) (r+u)=lowr r (r+1-u):=by
 unfold lowr;split<;>split<;>omega
theorem q0nc {r u x:Int}(hu:0<=u∧u<=1)(hx:x≠r+1-u):lowr (r+1-u) x=lowr r x:=by
 unfold lowr;split<;>split<;>omega
theorem q0nd {n i right:Nat}{r u:Int}{P Q:Nat->Int}(hu:0<=u∧u<=1)(hi:i+1<n)(hr:right<=1)(hP:PermP 8 n P)(hf:Fit P Q i right r u):
  oldF n (upd P (i+right) (r+u)) (i+1-right) (r+1-u)=oldF n P (i+1-right) r:=by
 obtain ⟨f1,f2,f3,f4⟩:=hf
 funext j
 unfold oldF
 by_cases hj:j+1<n
 ·rw [if_pos hj,if_pos hj,q0ib]
  have hc:recol (i+1-right) j<n:=by unfold recol;split<;>omega
  have hb:recol (i+1-right) j≠i+1-right:=by unfold recol;split<;>omega
  generalize recol (i+1-right) j=c at *
  by_cases e:c=i+right
  ·rw [if_pos e,e,f1];exact q0nb hu
  ·rw [if_neg e]
   refine q0nc hu fun h=>e (hP.2.2 c (i+right) hc (by omega) (by rw [h,f1]))
 ·rw [if_neg hj,if_neg hj]
theorem q0ne {n i right:Nat}{r u:Int}{P Q:Nat->Int}(hu:0<=u∧u<=1)(hi:i+1<n)(hr:right<=1)(hQ:PermP 8 n Q)(hf:Fit P Q i right r u):
  oldF n Q (i+1-right) (r+1-u)=oldF n Q (i+1-right) r:=by
 obtain ⟨f1,f2,f3,f4⟩:=hf
 funext j
 unfold oldF
 by_cases hj:j+1<n
 ·rw [if_pos hj,if_pos hj]
  have hc:recol (i+1-right) j<n:=by unfold recol;split<;>omega
  have hb:recol (i+1-right) j≠i+1-right:=by unfold recol;split<;>omega
  generalize recol (i+1-right) j=c at *
  exact q0nc hu fun h=>hb (hQ.2.2 c (i+1-right) hc (by omega) (by rw [h,f3]))
 ·rw [if_neg hj,if_neg hj]
theorem q0nf {n b:Nat}{r:Int}{P:Nat->Int}(hn:2<=n)(hP:PermP 8 n P)(h0:∀ j,0<=P j)(hr:0<=r∧r+1<n):∀ j,0<=oldF n P b r j∧oldF n P b r j<(n:Int)-1:=by
 intro j
 unfold oldF
 by_cases hj:j+1<n
 ·rw [if_pos hj]
  have hc:recol b j<n:=by unfold recol;split<;>omega
  have h1:=h0 (recol b j)
  have h2:=hP.2.1 (recol b j) hc
  unfold lowr
  split<;>omega
 ·rw [if_neg hj];omega
theorem q0ng {n b:Nat}{r:Int}{P:Nat->Int}(hn:2<=n)(hb:b<n)(hP:PermP 8 n P)(h0:∀ j,0<=P j)(hr:0<=r∧r+1<n)(hv:P b=r∨P b=r+1):PermP 8 (n-1) (oldF n P b r):=by
 refine ⟨fun j h1 _=>?_,fun j hj=>?_,fun x y hx hy e=>?_⟩
 ·unfold oldF;rw [if_neg (by omega)]
 ·have:=(q0nf (b:=b) hn hP h0 hr j).2
  omega
 ·unfold oldF at e
  rw [if_pos (by omega),if_pos (by omega)] at e
  have cx:recol b x<n:=by unfold recol;split<;>omega
  have cy:recol b y<n:=by unfold recol;split<;>omega
  have bx:recol b x≠b:=by unfold recol;split<;>omega
  have by_:recol b y≠b:=by unfold recol;split<;>omega
  have nx:P (recol b x)≠P b:=fun h=>bx (hP.2.2 _ _ cx hb h)
  have ny:P (recol b y)≠P b:=fun h=>by_ (hP.2.2 _ _ cy hb h)
  have:recol b x=recol b y:=by
   refine hP.2.2 _ _ cx cy ?_
   unfold lowr at e
   split at e<;>split at e<;>omega
  unfold recol at this
  split at this<;>split at this<;>omega
theorem q0nh {n i right:Nat}{r u:Int}{P Q:Nat->Int}(hn:3<=n)(hu:0<=u∧u<=1)(hi:i+1<n)(hr:right<=1)(hP:PermP 8 n P)(hQ:PermP 8 n Q)(hne:∀ c,c<n->P c≠Q c)
  (p0:∀ j,0<=P j) (q0:∀ j,0<=Q j) (hr1:0<=r∧r+1<n) (hf:Fit P Q i right r u):
  PermP 8 (n-1) (oldF n P (i+1-right) r)∧PermP 8 (n-1) (oldF n Q (i+1-right) r)∧(∀ j,j<n-1->oldF n P (i+1-right) r j≠oldF n Q (i+1-right) r j)∧oldF n P (i+1-right) r i=r:=by
 obtain ⟨f1,f2,f3,f4⟩:=hf
 refine ⟨q0ng (by omega) (by omega) hP p0 hr1 (by omega),q0ng (by omega) (by omega) hQ q0 hr1 (by omega),fun j hj e=>?_,?_⟩
 ·unfold oldF at e
  rw [if_pos (by omega),if_pos (by omega)] at e
  have hc:recol (i+1-right) j<n:=by unfold recol;split<;>omega
  have hb:recol (i+1-right) j≠i+1-right:=by unfold recol;split<;>omega
  generalize recol (i+1-right) j=c at *
  have n1:P c≠P (i+1-right):=fun h=>hb (hP.2.2 _ _ hc (by omega) h)
  have n2:Q c≠Q (i+1-right):=fun h=>hb (hQ.2.2 _ _ hc (by omega) h)
  have n3:=hne c hc
  by_cases e1:c=i+right
  ·subst e1
   unfold lowr at e
   split at e<;>split at e<;>omega
  ·have n4:P c≠P (i+right):=fun h=>e1 (hP.2.2 _ _ hc (by omega) h)
   unfold lowr at e
   split at e<;>split at e<;>omega
 ·unfold oldF
  rw [if_pos (by omega),show recol (i+1-right) i=i+right by unfold recol;split<;>omega,f1]
  unfold lowr
  split<;>omega
theorem q0ni {r x:Int}(h1:x≠r)(h2:x≠r+1):lift1 r (lowr r x)=x:=by
 unfold lowr
 by_cases h:r<x
 ·rw [if_pos h,lift1,if_pos (by omega)];omega
 ·rw [if_neg h,lift1,if_neg h]
theorem q0nj {r u x:Int}(hu:0<=u∧u<=1)(h:x≠r+1-u):liftV r u (lowr r x)=x:=by
 unfold lowr
 by_cases h1:r<x
 ·rw [if_pos h1,liftV]
  by_cases h2:r<x-1
  ·rw [if_pos h2];omega
  ·rw [if_neg h2,if_pos (by omega)];omega
 ·rw [if_neg h1,liftV,if_neg h1]
  by_cases h2:x=r
  ·rw [if_pos h2];omega
  ·rw [if_neg h2]
theorem q0nk {n i right:Nat}{r u:Int}{P Q:Nat->Int}(hn:3<=n)(hu:0<=u∧u<=1)(hi:i+1<n)(hr:right<=1)(hP:PermP 8 n P)(hQ:PermP 8 n Q)(hne:∀ c,c<n->P c≠Q c)
  (p0:∀ j,0<=P j) (q0:∀ j,0<=Q j) (hr1:0<=r∧r+1<n) (hf:Fit P Q i right r u):
  ∀ j,j<8->(growO (n-1) (oldF n P (i+1-right) r) (oldF n Q (i+1-right) r) i right u).1 j=P j∧(growO (n-1) (oldF n P (i+1-right) r) (oldF n Q (i+1-right) r) i right u).2 j=Q j:=by
 obtain ⟨_,_,_,hi0⟩:=q0nh hn hu hi hr hP hQ hne p0 q0 hr1 hf
 obtain ⟨f1,f2,f3,f4⟩:=hf
 obtain ⟨g1,g2,g3,g4,g5,g6,g7⟩:=q0n4 (n:=n-1) (i:=i) (by omega) hr (u:=u) (oldF n P (i+1-right) r) (oldF n Q (i+1-right) r)
 rw [hi0] at g1 g2 g3 g4 g5 g6
 have key:∀ c,c<n->c≠i+right->c≠i+1-right->lift1 r (lowr r (P c))=P c∧liftV r u (lowr r (Q c))=Q c:=fun c hc c1 c2=>by
  have n1:P c≠P (i+1-right):=fun h=>c2 (hP.2.2 _ _ hc (by omega) h)
  have n2:Q c≠Q (i+1-right):=fun h=>c2 (hQ.2.2 _ _ hc (by omega) h)
  have n3:P c≠P (i+right):=fun h=>c1 (hP.2.2 _ _ hc (by omega) h)
  exact ⟨q0ni (by omega) (by omega),q0nj hu (by omega)⟩
 intro j hj
 by_cases e1:j=i+right
 ·subst e1
  refine ⟨by rw [g1];omega,?_⟩
  rw [g4]
  unfold oldF
  rw [if_pos (by omega),show recol (i+1-right) i=i+right by unfold recol;split<;>omega]
  have n2:Q (i+right)≠Q (i+1-right):=fun h=>by have:=hQ.2.2 _ _ (by omega) (by omega) h;omega
  exact q0nj hu (by omega)
 ·by_cases e2:j=i+1-right
  ·subst e2
   exact ⟨by rw [g2,f2],by rw [g3,f3];omega⟩
  ·rcases Nat.lt_or_ge j i with h | h
   ·obtain ⟨a,b⟩:=g5 j h
    rw [a,b]
    unfold oldF
    rw [if_pos (by omega),if_pos (by omega),show recol (i+1-right) j=j by unfold recol;split<;>omega]
    exact key j (by omega) e1 e2
   ·rcases Nat.lt_or_ge j n with h2 | h2
    ·obtain ⟨q,rfl⟩:∃ q,j=q+1:=⟨j-1,by omega⟩
     obtain ⟨a,b⟩:=g6 q (by omega) (by omega)
     rw [a,b]
     unfold oldF
     rw [if_pos (by omega),if_pos (by omega),show recol (i+1-right) q=q+1 by unfold recol;split<;>omega]
     exact key (q+1) h2 e1 e2
    ·obtain ⟨a,b⟩:=g7 j (by omega)
     rw [a,b,hP.1 j h2 hj,hQ.1 j h2 hj]
     exact ⟨rfl,rfl⟩
theorem q0nl {n i right:Nat}{r u:Int}{P Q P0 Q0:Nat->Int}(hi:i+1<n)(hn8:n<=8)(hr:right<=1)(hu:0<=u∧u<=1)(h0:P0 i=r)(hne:P0 i≠Q0 i)
  (hg:∀ j,j<8->(growO (n-1) P0 Q0 i right u).1 j=P j∧(growO (n-1) P0 Q0 i right u).2 j=Q j):Fit P Q i right r u:=by
 obtain ⟨g1,g2,g3,g4,_⟩:=q0n4 (n:=n-1) (i:=i) (by omega) hr (u:=u) P0 Q0
 have a:=hg (i+right) (by omega)
 have b:=hg (i+1-right) (by omega)
 rw [h0] at g1 g2 g3 g4 hne
 refine ⟨by rw [<- a.1,g1];omega,by rw [<- b.1,g2],by rw [<- b.2,g3];omega,?_⟩
 rw [<- a.2,g4]
 unfold liftV
 split
 ·omega
 ·split<;>omega
def FitM (m:Nat)(X O:Nat->Int)(i right:Nat)(r u:Int):Prop:=if m=0 then Fit X O i right r u else Fit O X i right r u
instance (m:Nat) (X O:Nat->Int) (i right:Nat) (r u:Int):Decidable (FitM m X O i right r u):=by unfold FitM;infer_instance
theorem q0nm {X O:Nat->Int}{n i r:Nat}{ρ ρ' m m':Nat}{u u':Int}(hi:i+1<n)(hX:PermP 8 n X)(hO:PermP 8 n O)(hr:ρ<=1)(hr':ρ'<=1)(hu:0<=u∧u<=1)(hu':0<=u'∧u'<=1)
  (h:FitM m X O i ρ r u) (h':FitM m' X O i ρ' r u'):ρ=ρ':=by
 have:ρ=0∨ρ=1:=by omega
 have:ρ'=0∨ρ'=1:=by omega
 have nX:X i≠X (i+1):=fun e=>by have:=hX.2.2 _ _ (by omega) hi e;omega
 have nO:O i≠O (i+1):=fun e=>by have:=hO.2.2 _ _ (by omega) hi e;omega
 unfold FitM Fit at h h'
 rcases ‹ρ=0∨ρ=1› with rfl | rfl<;>rcases ‹ρ'=0∨ρ'=1› with rfl | rfl
 ·rfl
 ·simp only [Nat.add_zero,Nat.sub_zero,Nat.add_sub_cancel] at h h'
  split at h<;>split at h'<;>omega
 ·simp only [Nat.add_zero,Nat.sub_zero,Nat.add_sub_cancel] at h h'
  split at h<;>split at h'<;>omega
 ·rfl
end
end Go.AM
namespace Go.AM
section
variable {β:Type}
theorem q0nn (z:β)(N:Nat){x r:Int}(hx:0<=x∧x<256)(hr:0<=r)(k:Int->β):q0e5 z N x r k=k (lowr r x):=by
 unfold q0e5 lowr
 by_cases h:r<x
 ·have w:=wrapB (x:=x-1) (by omega)
  rw [if_pos h,c_lt h,w]
 ·rw [if_neg h,c_nlt (by omega)]
def woF (X O:Nat->Int)(b:Nat)(r:Int)(c:Nat)(s:(Nat->Int)×(Nat->Int)):(Nat->Int)×(Nat->Int):=
 (cond (c != b) (upd s.1 (colW b c) (lowr r (X c))) s.1,cond (c != b) (upd s.2 (colW b c) (lowr r (O c))) s.2)
theorem q0no {n b:Nat}(hb:b<n)(X O:Nat->Int)(r:Int):iter (woF X O b r) n 0 (fun _=>0,fun _=>0)=(oldF n X b r,oldF n O b r):=by
 refine Prod.ext ?_ ?_
 ·rw [<- q0na hb X r]
  exact q0n1 (f:=woF X O b r) (g:=fun c s=>cond (c != b) (upd s (colW b c) (lowr r (X c))) s) (fun c s=>rfl) n 0 (fun _=>0,fun _=>0)
 ·rw [<- q0na hb O r]
  exact q0n2 (f:=woF X O b r) (g:=fun c s=>cond (c != b) (upd s (colW b c) (lowr r (O c))) s) (fun c s=>rfl) n 0 (fun _=>0,fun _=>0)
theorem q0np (z:β){N n b:Nat}(hN:8<N)(hn:n<=8)(hb:b<n){r:Int}(hr:0<=r){X O:Nat->Int}(hX:∀ c,0<=X c∧X c<256)(hO:∀ c,0<=O c∧O c<256)(k:Int->(Nat->Int)->(Nat->Int)->β):
  q0e8 z N n X O b r k=k ((n:Int)-1) (oldF n X b r) (oldF n O b r):=by
 unfold q0e8
 rw [q0i8 (by omega)]
 have:=up_to (L:=fun m c (s:(Nat->Int)×(Nat->Int))=>q0e7 z N b r n X O 0 (fun (x:Nat)=>0) (fun (x:Nat)=>0) ((n:Int)-1) m (c:Int) s.1 s.2 (fun q8 q9=>k ((n:Int)-1) q8 q9)) (n:=n) (out:=fun s=>k ((n:Int)-1) s.1 s.2) (f:=woF X O b r) (I:=fun _ _=>True)
  (fun m c s hc _=>⟨by
   have p:=hX c
   have q:=hO c
   have t1:((c:Int)-1).toNat=c-1:=by omega
   rw [q0e7,q0e6]
   unfold woF colW
   rcases Nat.lt_trichotomy c b with hcb | hcb | hcb
   ·rw [show (c != b)=true by simp;omega,cond_true,if_neg (by omega),cond_true]
    simp only [c_and,Int.toNat_natCast,q0nn z N p hr,q0nn z N q hr]
    simp (disch:=omega) only [c_lt,c_nlt,c_le,c_blt,q0i8,c_ne]
    rfl
   ·subst hcb
    rw [show (c != c)=false by simp,cond_false,cond_false]
    simp (disch:=omega) only [c_lt,c_nlt,q0i8,c_nne]
    rfl
   ·rw [show (c != b)=true by simp;omega,cond_true,if_pos hcb,cond_true]
    simp only [c_and,Int.toNat_natCast,t1,q0nn z N p hr,q0nn z N q hr]
    simp (disch:=omega) only [c_lt,c_nlt,c_le,c_blt,q0i8,c_ne]
    rfl,trivial⟩) (fun m s _=>by simp (disch:=omega) only [q0e7,q0e6,c_nlt]) n N 0 (fun _=>0,fun _=>0) (by omega) (by omega) trivial
 rw [q0no hb] at this
 exact this
theorem q0nq (z:β){N n i ρ:Nat}(hN:8<N)(hn:n<=8)(hi:i+1<n)(hρ:ρ<=1){r:Int}(hr:0<=r∧r<256){X O:Nat->Int}(hX:∀ c,0<=X c∧X c<256)(hO:∀ c,0<=O c∧O c<256)
  {h3:Nat->Int} (h32:h3 2=ρ) (t14 b0 h40:Int) (a0 a1 h2:Nat->Int) (k:(Nat->Int)->(Nat->Int)->β):
  q0eu z i r t14 n n X O b0 a0 a1 h2 h3 h40 N 0 (fun _=>0) (fun _=>0) k=k (oldF n X (i+1-ρ) r) (oldF n O (i+1-ρ) r):=by
 have:=up_to (L:=fun m c (s:(Nat->Int)×(Nat->Int))=>q0eu z i r t14 n n X O b0 a0 a1 h2 h3 h40 m (c:Int) s.1 s.2 k) (n:=n) (out:=fun s=>k s.1 s.2) (f:=woF X O (i+1-ρ) r) (I:=fun _ _=>True)
  (fun m c s hc _=>⟨by
   have p:=hX c
   have q:=hO c
   have t1:((c:Int)-1).toNat=c-1:=by omega
   rw [q0eu,q0et]
   unfold woF colW lowr
   rw [h32]
   rcases Nat.lt_trichotomy c (i+1-ρ) with hcb | hcb | hcb
   ·rw [show (c != i+1-ρ)=true by simp;omega,cond_true,if_neg (by omega),cond_true]
    simp only [c_and,Int.toNat_natCast,q0mv,q0mu]
    by_cases h1:r<X c<;>by_cases h2:r<O c
    ·have w1:=wrapB (x:=X c-1) (by omega)
     have w2:=wrapB (x:=O c-1) (by omega)
     rw [if_pos h1,if_pos h2]
     simp (disch:=omega) only [c_lt,c_nlt,c_le,c_blt,q0i8,c_neq,w1,w2]
     rfl
    ·have w1:=wrapB (x:=X c-1) (by omega)
     rw [if_pos h1,if_neg h2]
     simp (disch:=omega) only [c_lt,c_nlt,c_le,c_blt,q0i8,c_neq,w1]
     rfl
    ·have w2:=wrapB (x:=O c-1) (by omega)
     rw [if_neg h1,if_pos h2]
     simp (disch:=omega) only [c_lt,c_nlt,c_le,c_blt,q0i8,c_neq,w2]
     rfl
    ·rw [if_neg h1,if_neg h2]
     simp (disch:=omega) only [c_lt,c_nlt,c_le,c_blt,q0i8,c_neq]
     rfl
   ·rw [show (c != i+1-ρ)=false by simp;omega,cond_false,cond_false]
    simp (disch:=omega) only [c_lt,q0i8,c_eq]
    rfl
   ·rw [show (c != i+1-ρ)=true by simp;omega,cond_true,if_pos hcb,cond_true]
    simp only [c_and,Int.toNat_natCast,t1,q0mv,q0mu]
    by_cases h1:r<X c<;>by_cases h2:r<O c
    ·have w1:=wrapB (x:=X c-1) (by omega)
     have w2:=wrapB (x:=O c-1) (by omega)
     rw [if_pos h1,if_pos h2]
     simp (disch:=omega) only [c_lt,c_nlt,c_le,c_blt,q0i8,c_neq,w1,w2]
     rfl
    ·have w1:=wrapB (x:=X c-1) (by omega)
     rw [if_pos h1,if_neg h2]
     simp (disch:=omega) only [c_lt,c_nlt,c_le,c_blt,q0i8,c_neq,w1]
     rfl
    ·have w2:=wrapB (x:=O c-1) (by omega)
     rw [if_neg h1,if_pos h2]
     simp (disch:=omega) only [c_lt,c_nlt,c_le,c_blt,q0i8,c_neq,w2]
     rfl
    ·rw [if_neg h1,if_neg h2]
     simp (disch:=omega) only [c_lt,c_nlt,c_le,c_blt,q0i8,c_neq]
     rfl,trivial⟩) (fun m s _=>by simp (disch:=omega) only [q0eu,q0et,c_nlt]) n N 0 (fun _=>0,fun _=>0) (by omega) (by omega) trivial
 rw [q0no (by omega)] at this
 exact this
end
end Go.AM
namespace Go.AM
section
variable {β:Type}
def mvS (i:Int)(m ρ u:Nat):Nat->Int:=upd (upd (upd (upd (upd (fun (x:Nat)=>0) 0 2) 1 i) 3 (m:Int)) 4 (ρ:Int)) 5 (u:Int)
def mvI (i:Int)(m ρ u:Nat):Nat->Int:=upd (upd (upd (upd (fun (x:Nat)=>0) 0 i) 1 (m:Int)) 2 (ρ:Int)) 3 (u:Int)
theorem m01 {m:Nat}(h:m<=1):m=0∨m=1:=by omega
theorem q0nr (z:β){N n i:Nat}(hN:8<N)(hn:n<=8)(hi:i+1<n){r:Nat}(hr:r+1<n){X O:Nat->Int}(hX:∀ c,0<=X c∧X c<256)(hO:∀ c,0<=O c∧O c<256)(pX:PermP 8 n X)(pO:PermP 8 n O)
  (m ρ u:Nat) (hm:m<=1) (hρ:ρ<=1) (hu:u<=1) (M:Nat) (b0:Int) (a0 a1 h2:Nat->Int) (k0:Int->(Nat->Int)->(Nat->Int)->(Nat->Int)->β) (k1:β):
  q0ea z N i r m ρ n X O b0 a0 a1 h2 (M+1) u k0 k1 =
   if FitM m X O i ρ r u then k0 ((n:Int)-1) (oldF n X (i+1-ρ) r) (oldF n O (i+1-ρ) r) (mvS i m ρ u) else q0ea z N i r m ρ n X O b0 a0 a1 h2 M ((u:Int)+1) k0 k1:=by
 have t1:((i:Int)+(ρ:Int)).toNat=i+ρ:=by omega
 have t2:((i:Int)+1-(ρ:Int)).toNat=i+1-ρ:=by omega
 have e2:(i:Int)+1-(ρ:Int)=((i+1-ρ:Nat):Int):=by omega
 have w:=wrapB (x:=(r:Int)+u) (by omega)
 rw [q0ea,q0e9]
 rcases m01 hm with rfl | rfl
 ·simp only [c_and,t1,t2,w]
  simp (disch:=omega) only [c_lt,c_le,c_blt,q0i8,c_neq]
  have hf:FitM 0 X O i ρ r u↔Fit X O i ρ r u:=by unfold FitM;rw [if_pos rfl]
  by_cases f1:X (i+ρ)=(r:Int)+1-u
  ·rw [c_nne f1]
   by_cases f2:X (i+1-ρ)=(r:Int)+u
   ·rw [c_nne f2]
    by_cases f3:O (i+1-ρ)=(r:Int)+1-u
    ·rw [c_nne f3]
     by_cases f4:O (i+ρ)=(r:Int)+u
     ·rw [c_eq f4,if_neg (fun h=>(hf.mp h).2.2.2 f4)]
     ·have ff:Fit X O i ρ r u:=⟨f1,f2,f3,f4⟩
      rw [c_neq f4,if_pos (hf.mpr ff),e2]
      have hX':∀ c,0<=upd X (i+ρ) ((r:Int)+u) c∧upd X (i+ρ) ((r:Int)+u) c<256:=fun c=>by
       rw [q0ib];split
       ·omega
       ·exact hX c
      rw [q0np z hN hn (by omega) (by omega) hX' hO,q0nd (by omega) hi hρ pX ff,q0ne (by omega) hi hρ pO ff]
      rfl
    ·rw [c_ne f3,if_neg (fun h=>f3 (hf.mp h).2.2.1)]
   ·rw [c_ne f2,if_neg (fun h=>f2 (hf.mp h).2.1)]
  ·rw [c_ne f1,if_neg (fun h=>f1 (hf.mp h).1)]
 ·simp only [c_and,t1,t2,w]
  simp (disch:=omega) only [c_lt,c_le,c_blt,q0i8,c_eq]
  have hf:FitM 1 X O i ρ r u↔Fit O X i ρ r u:=by unfold FitM;rw [if_neg (by omega)]
  by_cases f1:O (i+ρ)=(r:Int)+1-u
  ·rw [c_nne f1]
   by_cases f2:O (i+1-ρ)=(r:Int)+u
   ·rw [c_nne f2]
    by_cases f3:X (i+1-ρ)=(r:Int)+1-u
    ·rw [c_nne f3]
     by_cases f4:X (i+ρ)=(r:Int)+u
     ·rw [c_eq f4,if_neg (fun h=>(hf.mp h).2.2.2 f4)]
     ·have ff:Fit O X i ρ r u:=⟨f1,f2,f3,f4⟩
      rw [c_neq f4,if_pos (hf.mpr ff),e2]
      have hO':∀ c,0<=upd O (i+ρ) ((r:Int)+u) c∧upd O (i+ρ) ((r:Int)+u) c<256:=fun c=>by
       rw [q0ib];split
       ·omega
       ·exact hO c
      rw [q0np z hN hn (by omega) (by omega) hX hO',q0nd (by omega) hi hρ pO ff,q0ne (by omega) hi hρ pX ff]
      rfl
    ·rw [c_ne f3,if_neg (fun h=>f3 (hf.mp h).2.2.1)]
   ·rw [c_ne f2,if_neg (fun h=>f2 (hf.mp h).2.1)]
  ·rw [c_ne f1,if_neg (fun h=>f1 (hf.mp h).1)]
theorem q0ns (z:β){N n i:Nat}(hN:8<N)(h3:3<=n)(hn:n<=8)(hi:i+1<n){r:Nat}(hr:r+1<n){X O:Nat->Int}(hX:∀ c,0<=X c∧X c<256)(hO:∀ c,0<=O c∧O c<256)(pX:PermP 8 n X)(pO:PermP 8 n O)
  (k:Int->(Nat->Int)->(Nat->Int)->(Nat->Int)->Bool->β):
  q0ef z N n X O i r k =
   let G:=fun m ρ u (e:β)=>if FitM m X O i ρ r (u:Nat) then k ((n:Int)-1) (oldF n X (i+1-ρ) r) (oldF n O (i+1-ρ) r) (mvS i m ρ u) true else e
   G 0 0 0 (G 0 0 1 (G 0 1 0 (G 0 1 1 (G 1 0 0 (G 1 0 1 (G 1 1 0 (G 1 1 1 (k 0 (fun _=>0) (fun _=>0) (fun _=>0) false)))))))):=by
 obtain ⟨N,rfl⟩:∃ N',N=N'+3:=⟨N-3,by omega⟩
 have two:∀ (m ρ:Nat) (hm:m<=1) (hρ:ρ<=1) (b0:Int) (a0 a1 h2:Nat->Int) (k0:Int->(Nat->Int)->(Nat->Int)->(Nat->Int)->β) (k1:β),
   q0ea z (N+3) i r m ρ n X O b0 a0 a1 h2 (N+3) 0 k0 k1 =
    if FitM m X O i ρ r (0:Nat) then k0 ((n:Int)-1) (oldF n X (i+1-ρ) r) (oldF n O (i+1-ρ) r) (mvS i m ρ 0) else
    if FitM m X O i ρ r (1:Nat) then k0 ((n:Int)-1) (oldF n X (i+1-ρ) r) (oldF n O (i+1-ρ) r) (mvS i m ρ 1) else k1:=by
  intro m ρ hm hρ b0 a0 a1 h2 k0 k1
  have s0:=q0nr z hN hn hi hr hX hO pX pO m ρ 0 hm hρ (by omega) (N+2) b0 a0 a1 h2 k0 k1
  have s1:=q0nr z hN hn hi hr hX hO pX pO m ρ 1 hm hρ (by omega) (N+1) b0 a0 a1 h2 k0 k1
  have s2:q0ea z (N+3) i r m ρ n X O b0 a0 a1 h2 (N+1) 2 k0 k1=k1:=by rw [q0ea,q0e9,c_nlt (by omega)]
  refine s0.trans ?_
  congr 1
 unfold q0ef
 rw [c_nlt (by omega)]
 have one:∀ (m:Nat) (hm:m<=1) (b0:Int) (a0 a1 h2:Nat->Int) (k0:Int->(Nat->Int)->(Nat->Int)->(Nat->Int)->β) (k1:β),
   q0ec z (N+3) i r m n X O b0 a0 a1 h2 (N+3) 0 k0 k1 =
    q0ea z (N+3) i r m (0:Nat) n X O b0 a0 a1 h2 (N+3) 0 k0 (q0ea z (N+3) i r m (1:Nat) n X O b0 a0 a1 h2 (N+3) 0 k0 k1):=by
  intro m hm b0 a0 a1 h2 k0 k1
  rw [q0ec,q0eb,c_lt (by omega),q0i8 (by omega)]
  rw [show (0:Int)+1=1 from rfl,q0ec,q0eb,c_lt (by omega),q0i8 (by omega)]
  rw [show (1:Int)+1=2 from rfl,q0ec,q0eb,c_nlt (by omega)]
  rfl
 rw [q0ee,q0ed,c_lt (by omega),q0i8 (by omega)]
 rw [show (0:Int)+1=1 from rfl,q0ee,q0ed,c_lt (by omega),q0i8 (by omega)]
 rw [show (1:Int)+1=2 from rfl,q0ee,q0ed,c_nlt (by omega)]
 rw [show (1:Int)=((1:Nat):Int) from rfl,show q0ec z (N+3) i r 0=q0ec z (N+3) i r ((0:Nat):Int) from rfl,one 0 (by omega),one 1 (by omega)]
 rw [two 0 0 (by omega) (by omega),two 0 1 (by omega) (by omega),two 1 0 (by omega) (by omega),two 1 1 (by omega) (by omega)]
 rfl
end
end Go.AM
