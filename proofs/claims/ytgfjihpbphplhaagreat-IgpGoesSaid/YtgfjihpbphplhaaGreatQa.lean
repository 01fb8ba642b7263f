/- What the claim needs, part 1: Ea Eb Ec Ed Ee Ef KnA KnB KnC KnD KnE KnF KnG KnH KnI KnT KnJ KnK KnV KnX KnL. Conditions: none. -/
import Derived.KernelRfl
import Derived.WalkKit
import Derived.Below
import Derived.Orders
import Derived.Deep.LoopGhost
import Derived.Maps.AppendAt
import Derived.Deep.AppendSrc
import Derived.MapKept
import Derived.Laws.CopyRow
import Derived.Laws.Cells
import Derived.Laws.Cover1
import Derived.Laws.DeepStrings4
import Derived.Great.BuildSlice
import Derived.Lib.Strings
import Derived.Carry
import Derived.ChangeKeysEq
import Derived.WideKeyRuns
import Derived.Laws.MakeOwn
import Derived.Lib.Builder
import Derived.Lib.UnsafeStr
import Derived.Laws.IdiomStrings
import Derived.Maps.RangeRun
set_option linter.unusedVariables false
set_option linter.unusedSimpArgs false
set_option linter.unusedSectionVars false
namespace Go.Proofs.YtgfjihpbphplhaaGreat
abbrev Wk:=Nat×List Nat
def cF (x y:Wk):Prop:=x.1<y.1∨(x.1=y.1∧(x.2.length<y.2.length∨(x.2.length=y.2.length∧x.2<y.2)))
theorem cF.irrefl (x:Wk):¬cF x x:=by
 rintro(h|⟨_,h|⟨_,h⟩⟩)
 ·omega
 ·omega
 ·exact List.lt_irrefl _ h
theorem cF.trans {x y z:Wk} (h:cF x y) (h2:cF y z):cF x z:=by
 rcases h with h|⟨e,h|⟨f,h⟩⟩<;>rcases h2 with h2|⟨e2,h2|⟨f2,h2⟩⟩
 ·exact .inl (by omega)
 ·exact .inl (by omega)
 ·exact .inl (by omega)
 ·exact .inl (by omega)
 ·exact .inr ⟨by omega,.inl (by omega)⟩
 ·exact .inr ⟨by omega,.inl (by omega)⟩
 ·exact .inl (by omega)
 ·exact .inr ⟨by omega,.inl (by omega)⟩
 ·exact .inr ⟨by omega,.inr ⟨by omega,List.lt_trans h h2⟩⟩
theorem cF.Aa (x y:Wk):cF x y∨x=y∨cF y x:=by
 rcases Nat.lt_trichotomy x.1 y.1 with h|h|h
 ·exact .inl (.inl h)
 ·rcases Nat.lt_trichotomy x.2.length y.2.length with g|g|g
  ·exact .inl (.inr ⟨h,.inl g⟩)
  ·by_cases l:x.2<y.2
   ·exact .inl (.inr ⟨h,.inr ⟨g,l⟩⟩)
   ·by_cases m:y.2<x.2
    ·exact .inr (.inr (.inr ⟨h.symm,.inr ⟨g.symm,m⟩⟩))
    ·refine .inr (.inl ?_)
     have:=List.le_antisymm (List.not_lt.1 m) (List.not_lt.1 l)
     cases x;cases y;simp at h this ⊢;exact⟨h,this⟩
  ·exact .inr (.inr (.inr ⟨h.symm,.inl g⟩))
 ·exact .inr (.inr (.inl h))
theorem cF.cS {x y z:Wk} (h:¬cF x y) (h2:¬cF y z):¬cF x z:=by
 intro h3
 rcases cF.Aa x y with a|a|a
 ·exact h a
 ·subst a;exact h2 h3
 ·exact h2 (a.trans h3)
def aJ (x:Wk) (c b:Nat):Wk:=(x.1+c,x.2++[b])
theorem uz:∀{l m:List Nat} (b:Nat),l.length=m.length→l<m→l++[b]<m++[b]
  | [],[],b,_,h=>absurd h (List.lt_irrefl _)
  | x::l,y::m,b,hl,h=>by
    simp only[List.cons_append,List.cons_lt_cons_iff] at h ⊢
    rcases h with h|⟨e,h⟩
    · exact .inl h
    · exact .inr ⟨e,uz b (by simpa using hl) h⟩
theorem cF.snoc {x y:Wk} (h:cF x y) (c b:Nat):cF (aJ x c b) (aJ y c b):=by
 rcases h with h|⟨e,h|⟨f,h⟩⟩
 ·exact .inl (by simp only[aJ];omega)
 ·exact .inr ⟨by simp only[aJ];omega,.inl (by simp only[aJ,List.length_append,List.length_cons,List.length_nil];omega)⟩
 ·exact .inr ⟨by simp only[aJ];omega,.inr ⟨by simp only[aJ,List.length_append];omega,uz b f h⟩⟩
theorem cF.grow (x:Wk) (c b:Nat):cF x (aJ x c b):=by
 by_cases h:c=0
 ·exact .inr ⟨by simp[aJ,h],.inl (by simp[aJ])⟩
 ·exact .inl (by simp only[aJ];omega)
theorem fw {x y:Wk} (h:¬cF y x) (c b:Nat):¬cF (aJ y c b) (aJ x c b):=by
 rcases cF.Aa x y with a|a|a
 ·intro k;exact cF.irrefl _ ((a.snoc c b).trans k)
 ·subst a;exact cF.irrefl _
 ·exact absurd a h
section
variable (w:Nat→Nat→Option Nat) (a:Nat)
inductive dk:Nat→Wk→Prop
 |one:dk a (0,[a])
 |snoc {u b c:Nat} {x:Wk} (h:dk u x) (e:w u b=some c):dk b (aJ x c b)
def cE (b:Nat) (x:Wk):Prop:=dk w a b x∧∀y,dk w a b y→¬cF y x
variable {w a}
theorem cE.unique {b:Nat} {x y:Wk} (hx:cE w a b x) (hy:cE w a b y):x=y:=by
 rcases cF.Aa x y with h|h|h
 ·exact absurd h (hy.2 x hx.1)
 ·exact h
 ·exact absurd h (hx.2 y hy.1)
theorem Ar {D:Nat→Option Wk} {H:Nat→Option Wk} (hD:∀x r,D x=some r→cE w a x r)
    (hE:∀u r b c,D u=some r→w u b=some c→D b=none→∃h,H b=some h∧¬cF (aJ r c b) h)
    (ha:(D a).isSome=true∨H a=some (0,[a])) {r:Wk} (hmin:∀y h,H y=some h→¬cF h r):
    ∀b y,dk w a b y→D b=none→¬cF y r:=by
  intro b y hy
  induction hy with
  | one=>
    intro hb
    rcases ha with ha|ha
    · rw[hb] at ha;cases ha
    · exact hmin a _ ha
  | @snoc u b c x hx he ih=>
    intro hb
    cases hu:D u with
    |none=>exact fun h=>ih hu ((cF.grow x c b).trans h)
    | some ru=>
      obtain⟨h,h1,h2⟩:=hE u ru b c hu he hb
      exact cF.cS (fw ((hD u ru hu).2 x hx) c b) (cF.cS h2 (hmin b h h1))
theorem wR {D:Nat→Option Wk} {H:Nat→Option Wk} (hD:∀x r,D x=some r→cE w a x r)
  (hE:∀u r b c,D u=some r→w u b=some c→D b=none→∃h,H b=some h∧¬cF (aJ r c b) h)
  (ha:(D a).isSome=true∨H a=some (0,[a])) {x:Nat} {r:Wk} (hx:dk w a x r) (hn:D x=none) (hmin:∀y h,H y=some h→¬cF h r):cE w a x r:=
 ⟨hx,fun y hy=>Ar hD hE ha hmin x y hy hn⟩
theorem ye {D:Nat→Option Wk} (hE:∀u r b c,D u=some r→w u b=some c→(D b).isSome=true) (ha:(D a).isSome=true):∀b y,dk w a b y→(D b).isSome=true:=by
  intro b y hy
  induction hy with
  |one=>exact ha
  | @snoc u b c x hx he ih=>
    obtain⟨r,hr⟩:=Option.isSome_iff_exists.1 ih
    exact hE u r b c hr he
theorem dk.len {b:Nat} {y:Wk} (h:dk w a b y):1≤y.2.length:=by
 cases h with
 |one=>simp
 |snoc h e=>simp[aJ]
def lg (w:Nat→Nat→Option Nat) (a:Nat) (k:Nat) (B:Nat→Option Wk):Prop:=∀b y,dk w a b y→y.2.length≤k+1→∃x,B b=some x∧¬cF y x
theorem oc {k:Nat} {B B':Nat→Option Wk} (h:lg w a k B) (hk:∀b x,B b=some x→∃x',B' b=some x'∧¬cF x x') (he:∀u b c x,B u=some x→w u b=some c→∃x',B' b=some x'∧¬cF (aJ x c b) x'):lg w a (k+1) B':=by
  intro b y hy hl
  cases hy with
  | one=>
    obtain⟨x,h1,h2⟩:=h a _ .one (by simp)
    obtain⟨x',h3,h4⟩:=hk a x h1
    exact⟨x',h3,cF.cS h2 h4⟩
  | @snoc u b c x hx e=>
    obtain⟨z,h1,h2⟩:=h u x hx (by simp[aJ] at hl;omega)
    obtain⟨x',h3,h4⟩:=he u b c z h1 e
    exact⟨x',h3,cF.cS (fw h2 c b) h4⟩
theorem dk.last {b:Nat} {y:Wk} (h:dk w a b y):y.2.getLast? =some b:=by
 cases h with
 |one=>rfl
 |snoc h e=>simp[aJ]
theorem dk.upto {b:Nat} {y:Wk} (h:dk w a b y):∀z,z∈y.2→∃x,dk w a z x∧x.2.length≤y.2.length∧x.1≤y.1∧(z≠b→x.2.length<y.2.length):=by
  induction h with
  | one=>
    intro z hz
    simp at hz
    subst hz
    exact⟨(0,[z]),.one,Nat.le_refl _,Nat.le_refl _,fun h=>absurd rfl h⟩
  | @snoc u b c x hx e ih=>
    intro z hz
    simp only[aJ,List.mem_append,List.mem_singleton] at hz
    rcases hz with hz|rfl
    · obtain⟨x',h1,h2,h3,_⟩:=ih z hz
      exact⟨x',h1,by simp only[aJ,List.length_append,List.length_cons];omega,by simp only[aJ];omega,fun _=>by simp only[aJ,List.length_append,List.length_cons,List.length_nil];omega⟩
    · exact⟨_,.snoc hx e,Nat.le_refl _,Nat.le_refl _,fun h=>absurd rfl h⟩
theorem dk.simple:∀ (n:Nat) {b:Nat} {y:Wk},y.2.length≤n→dk w a b y→∃x,dk w a b x∧x.2.Nodup∧x.2.length≤y.2.length∧¬cF y x
  |0,b,y,hl,h=>by have:=h.len;omega
  | n+1,b,y,hl,h=>by
    cases h with
    |one=>exact⟨_,.one,by simp,Nat.le_refl _,cF.irrefl _⟩
    | @snoc u b c x hx e=>
      have hl2:x.2.length≤n:=by simp only[aJ,List.length_append,List.length_cons,List.length_nil] at hl;omega
      obtain⟨x',h1,h2,h3,h4⟩:=dk.simple n hl2 hx
      by_cases hb:b∈x'.2
      · obtain⟨z,g1,g2,g3,g4⟩:=h1.upto b hb
        obtain⟨z',k1,k2,k3,k4⟩:=dk.simple n (by omega) g1
        refine⟨z',k1,k2,by simp only[aJ,List.length_append,List.length_cons,List.length_nil];omega,?_⟩
        refine cF.cS (y:=z) ?_ k4
        refine cF.cS (y:=aJ x' c b) (fw h4 c b) ?_
        rintro(q|⟨q,q2|⟨q2,q3⟩⟩)
        · simp only[aJ] at q;omega
        · simp only[aJ,List.length_append,List.length_cons,List.length_nil] at q2;omega
        · simp only[aJ,List.length_append,List.length_cons,List.length_nil] at q2;omega
      · refine⟨aJ x' c b,.snoc h1 e,?_,by simp only[aJ,List.length_append,List.length_cons,List.length_nil];omega,fw h4 c b⟩
        simp only[aJ]
        rw[List.nodup_append]
        refine⟨h2,by simp,fun p hp q hq e2=>?_⟩
        rw[List.mem_singleton.1 hq] at e2
        exact hb (e2▸hp)
theorem dk.mem {V:List Nat} (ha:a∈V) (hw:∀u b c,w u b=some c→b∈V) {b:Nat} {y:Wk} (h:dk w a b y):∀z,z∈y.2→z∈V:=by
  induction h with
  |one=>intro z hz;simp at hz;rw[hz];exact ha
  | snoc hx e ih=>
    intro z hz
    simp only[aJ,List.mem_append,List.mem_singleton] at hz
    rcases hz with hz|rfl
    · exact ih z hz
    · exact hw _ _ _ e
end
end Go.Proofs.YtgfjihpbphplhaaGreat

namespace Go.Proofs.YtgfjihpbphplhaaGreat
inductive sA (w:Nat→Nat→Option Nat) (m:Nat):Nat→Nat→Nat→Prop
 |refl (i:Nat):sA w m i i 0
 |edge {i k c:Nat} (e:w (i+1) (k+1)=some c):sA w m i k c
 |join {i j k c d:Nat} (hj:j<m) (h1:sA w m i j c) (h2:sA w m j k d):sA w m i k (c+d)
section
variable {w:Nat→Nat→Option Nat}
theorem sA.up {m i k c:Nat} (h:sA w m i k c):sA w (m+1) i k c:=by
 induction h with
 |refl i=>exact .refl i
 |edge e=>exact .edge e
 |join hj _ _ h1 h2=>exact .join (by omega) h1 h2
theorem sA.split {m i k c:Nat} (h:sA w (m+1) i k c):(∃c',sA w m i k c'∧c'≤c)∨∃c1 c2,sA w m i m c1∧sA w m m k c2∧c1+c2≤c:=by
  induction h with
  |refl i=>exact .inl ⟨0,.refl i,Nat.le_refl _⟩
  |edge e=>exact .inl ⟨_,.edge e,Nat.le_refl _⟩
  | @join i j k c d hj _ _ h1 h2=>
    by_cases hjm:j=m
    · subst hjm
      have l1:∃c1,sA w j i j c1∧c1≤c:=by
        rcases h1 with h|⟨c1,c2,g1,g2,g3⟩
        · exact h
        · exact⟨c1,g1,by omega⟩
      have l2:∃c2,sA w j j k c2∧c2≤d:=by
        rcases h2 with h|⟨c1,c2,g1,g2,g3⟩
        · exact h
        · exact⟨c2,g2,by omega⟩
      obtain⟨c1,g1,g2⟩:=l1
      obtain⟨c2,g3,g4⟩:=l2
      exact .inr ⟨c1,c2,g1,g3,by omega⟩
    · have hj2:j<m:=by omega
      rcases h1 with ⟨c1,g1,g2⟩|⟨c1,c2,g1,g2,g3⟩<;>rcases h2 with ⟨d1,k1,k2⟩|⟨d1,d2,k1,k2,k3⟩
      · exact .inl ⟨c1+d1,.join hj2 g1 k1,by omega⟩
      · exact .inr ⟨c1+d1,d2,.join hj2 g1 k1,k2,by omega⟩
      · exact .inr ⟨c1,c2+d1,g1,.join hj2 g2 k1,by omega⟩
      · exact .inr ⟨c1,d2,g1,k2,by omega⟩
def zW (x:Option Nat) (c:Nat):Prop:=∃d,x=some d∧d≤c
def zZ (w:Nat→Nat→Option Nat) (m n:Nat) (M:Nat→Nat→Option Nat):Prop:=∀i k c,i<n→k<n→sA w m i k c→zW (M i k) c
theorem vM {m n:Nat} {M M':Nat→Nat→Option Nat} (h:zZ w m n M) (hm:m<n) (mono:∀i k c,i<n→k<n→zW (M i k) c→zW (M' i k) c) (relax:∀i k c d,i<n→k<n→M i m=some c→M m k=some d→zW (M' i k) (c+d)):zZ w (m+1) n M':=by
 intro i k c hi hk hv
 rcases hv.split with ⟨c',g1,g2⟩|⟨c1,c2,g1,g2,g3⟩
 ·obtain⟨d,e1,e2⟩:=h i k c' hi hk g1
  exact mono i k c hi hk ⟨d,e1,by omega⟩
 ·obtain⟨d1,e1,e2⟩:=h i m c1 hi hm g1
  obtain⟨d2,e3,e4⟩:=h m k c2 hm hk g2
  obtain⟨d,e5,e6⟩:=relax i k d1 d2 hi hk e1 e3
  exact⟨d,e5,by omega⟩
theorem iN {a b:Nat} {x:Wk} (h:dk w a b x) {k:Nat} {y:Wk} (h2:dk w b k y):∃z,dk w a k z∧z.1=x.1+y.1:=by
  induction h2 with
  |one=>exact⟨x,h,by simp⟩
  | @snoc u b2 c y hy e ih=>
    obtain⟨z,h1,h3⟩:=ih
    exact⟨_,.snoc h1 e,by simp only[aJ];omega⟩
theorem dk.back (hsym:∀u b,w u b=w b u) {a b:Nat} {x:Wk} (h:dk w a b x):∃y,dk w b a y∧y.1=x.1:=by
  induction h with
  |one=>exact⟨_,.one,rfl⟩
  | @snoc u b c x hx e ih=>
    obtain⟨y,h1,h2⟩:=ih
    have h0:dk w b u (aJ (0,[b]) c u):= .snoc .one (by rw[hsym];exact e)
    obtain⟨z,h3,h4⟩:=iN h0 h1
    exact⟨z,h3,by rw[h4];simp only[aJ];omega⟩
theorem cE.xN (hsym:∀u b,w u b=w b u) {a b:Nat} {x y:Wk} (hx:cE w a b x) (hy:cE w b a y):x.1=y.1:=by
 obtain⟨x',g1,g2⟩:=hx.1.back hsym
 obtain⟨y',g3,g4⟩:=hy.1.back hsym
 have h1:¬x'.1<y.1:=fun h=>hy.2 x' g1 (.inl h)
 have h2:¬y'.1<x.1:=fun h=>hx.2 y' g3 (.inl h)
 omega
theorem cE.Aa {a b k:Nat} {x y z:Wk} (hx:cE w a b x) (hy:cE w b k y) (hz:cE w a k z):z.1≤x.1+y.1:=by
 obtain⟨v,g1,g2⟩:=iN hx.1 hy.1
 have:¬v.1<z.1:=fun h=>hz.2 v g1 (.inl h)
 omega
end
end Go.Proofs.YtgfjihpbphplhaaGreat

namespace Go.Proofs.YtgfjihpbphplhaaGreat
def dc (a c:Nat) (z:Wk):Wk:=(c+z.1,a::z.2)
theorem cF.cons {x y:Wk} (h:cF x y) (a c:Nat):cF (dc a c x) (dc a c y):=by
 rcases h with h|⟨e,h|⟨f,h⟩⟩
 ·exact .inl (by simp only[dc];omega)
 ·exact .inr ⟨by simp only[dc];omega,.inl (by simp only[dc,List.length_cons];omega)⟩
 ·exact .inr ⟨by simp only[dc];omega,.inr ⟨by simp only[dc,List.length_cons];omega,by simp only[dc,List.cons_lt_cons_iff];exact .inr ⟨trivial,h⟩⟩⟩
section
variable {w:Nat→Nat→Option Nat}
theorem dk.cons {a v c:Nat} (e:w a v=some c) {b:Nat} {z:Wk} (h:dk w v b z):dk w a b (dc a c z):=by
  induction h with
  | one=>
    have:=dk.snoc (w:=w) (a:=a) .one e
    simpa [aJ,dc] using this
  | @snoc u b d x hx e2 ih=>
    have:=dk.snoc ih e2
    rw[show dc a c (aJ x d b)=aJ (dc a c x) d b from by simp only[dc,aJ,List.cons_append];congr 1;omega]
    exact this
theorem dk.sD {a b:Nat} {y:Wk} (h:dk w a b y):(b=a∧y=(0,[a]))∨∃v c z,w a v=some c∧dk w v b z∧y=dc a c z:=by
  induction h with
  |one=>exact .inl ⟨rfl,rfl⟩
  | @snoc u b d x hx e ih=>
    right
    rcases ih with ⟨rfl,rfl⟩|⟨v,c,z,h1,h2,rfl⟩
    · exact⟨b,d,(0,[b]),e,.one,by simp[aJ,dc]⟩
    · exact⟨v,c,aJ z d b,h1,.snoc h2 e,by simp only[dc,aJ,List.cons_append];congr 1;omega⟩
theorem dk.head {a b:Nat} {y:Wk} (h:dk w a b y):∃l,y.2=a::l:=by
 rcases h.sD with ⟨_,rfl⟩|⟨v,c,z,_,_,rfl⟩
 ·exact⟨[],rfl⟩
 ·exact⟨z.2,rfl⟩
theorem cE.self (a:Nat):cE w a a (0,[a]):=by
 refine⟨.one,fun y hy h=>?_⟩
 obtain⟨l,hl⟩:=hy.head
 rcases h with h|⟨e,h|⟨f,h⟩⟩
 ·omega
 ·rw[hl] at h;simp at h
 ·rw[hl] at f h
  have:l=[]:=by simpa using f
  subst this
  exact List.lt_irrefl _ h
theorem cE.rest {a b v c:Nat} {z:Wk} (e:w a v=some c) (hz:dk w v b z) (h:cE w a b (dc a c z)):cE w v b z:=
 ⟨hz,fun y hy hl=>h.2 _ (dk.cons e hy) (hl.cons a c)⟩
theorem cE.step {a b:Nat} {y:Wk} (h:cE w a b y) (hne:a≠b):∃v c z,w a v=some c∧cE w v b z∧y=dc a c z∧z.2.length+1=y.2.length∧y.2[1]? =some v:=by
 rcases h.1.sD with ⟨e,_⟩|⟨v,c,z,h1,h2,rfl⟩
 ·exact absurd e.symm hne
 ·obtain⟨l,hl⟩:=h2.head
  exact⟨v,c,z,h1,h.rest h1 h2,rfl,by simp[dc],by simp[dc,hl]⟩
theorem cE.nodup {a b:Nat} {y:Wk} (h:cE w a b y):y.2.Nodup:=by
 obtain⟨x,h1,h2,_,h4⟩:=dk.simple y.2.length (Nat.le_refl _) h.1
 have h5:=h.2 x h1
 rcases cF.Aa x y with g|g|g
 ·exact absurd g h5
 ·rw[←g];exact h2
 ·exact absurd g h4
end
end Go.Proofs.YtgfjihpbphplhaaGreat

namespace Go.Proofs.YtgfjihpbphplhaaGreat
def jB (f:Nat→Option Wk) (x:Nat) (r:Option Wk):Nat→Option Wk:=fun y=>if y=x then r else f y
theorem ca (f:Nat→Option Wk) (x:Nat) (r:Option Wk):jB f x r x=r:=if_pos rfl
theorem cZ {f:Nat→Option Wk} {x y:Nat} (r:Option Wk) (h:y≠x):jB f x r y=f y:=if_neg h
section
variable (w:Nat→Nat→Option Nat) (a:Nat)
structure zY (D H:Nat→Option Wk):Prop where
 done:∀x r,D x=some r→cE w a x r
 wait:∀x r,H x=some r→dk w a x r∧D x=none
 edge:∀u r b c,D u=some r→w u b=some c→D b=none→∃h,H b=some h∧¬cF (aJ r c b) h
 from_:(D a).isSome=true∨H a=some (0,[a])
structure uT (x:Nat) (S:Nat→Prop) (D H:Nat→Option Wk):Prop where
 done:∀x r,D x=some r→cE w a x r
 wait:∀x r,H x=some r→dk w a x r∧D x=none
 edge:∀u r b c,D u=some r→w u b=some c→D b=none→(u≠x∨S b)→∃h,H b=some h∧¬cF (aJ r c b) h
 from_:(D a).isSome=true
variable {w a}
theorem zY.start:zY w a (fun _=>none) (jB (fun _=>none) a (some (0,[a]))):=by
 refine⟨fun x r h=>(by cases h),fun x r h=>?_,fun u r b c h=>(by cases h),.inr (ca _ _ _)⟩
 by_cases hx:x=a
 ·subst hx;rw[ca] at h;injection h with h;subst h;exact⟨.one,rfl⟩
 ·rw[cZ _ hx] at h;cases h
theorem zY.pop {D H:Nat→Option Wk} (h:zY w a D H) {x:Nat} {r:Wk} (hx:H x=some r) (hmin:∀y k,H y=some k→¬cF k r):cE w a x r∧uT w a x (fun _=>False) (jB D x (some r)) (jB H x none):=by
  obtain⟨g1,g2⟩:=h.wait x r hx
  have hb:=wR h.done h.edge h.from_ g1 g2 hmin
  refine⟨hb,fun y k hy=>?_,fun y k hy=>?_,fun u k b c hu e hn hs=>?_,?_⟩
  · by_cases hyx:y=x
    · subst hyx;rw[ca] at hy;injection hy with hy;subst hy;exact hb
    · rw[cZ _ hyx] at hy;exact h.done y k hy
  · by_cases hyx:y=x
    · subst hyx;rw[ca] at hy;cases hy
    · rw[cZ _ hyx] at hy;rw[cZ _ hyx];exact h.wait y k hy
  · by_cases hbx:b=x
    · subst hbx;rw[ca] at hn;cases hn
    · rw[cZ _ hbx] at hn ⊢
      rcases hs with hs|hs
      · rw[cZ _ hs] at hu;exact h.edge u k b c hu e hn
      · exact hs.elim
  · by_cases hax:a=x
    · subst hax;rw[ca];rfl
    · rw[cZ _ hax]
      rcases h.from_ with q|q
      · exact q
      ·
        cases hda:D a with
        |some _=>rfl
        | none=>
          have h1:=hmin a _ q
          have h2:=cE.self (w:=w) a
          exact absurd (by
            rcases g1.sD with ⟨e1,_⟩|⟨v,c,z,_,hz,e2⟩
            · exact absurd e1.symm hax
            · rw[e2]
              have:=hz.len
              by_cases h0:c+z.1=0
              · exact .inr ⟨by simp only[dc];omega,.inl (by simp only[dc,List.length_cons,List.length_nil];omega)⟩
              · exact .inl (by simp only[dc];omega):cF (0,[a]) r) h1
theorem uT.skip {x:Nat} {S:Nat→Prop} {D H:Nat→Option Wk} (h:uT w a x S D H) {b:Nat} (hb:(D b).isSome=true):uT w a x (fun y=>S y∨y=b) D H:=by
 refine⟨h.done,h.wait,fun u r y c hu e hn hs=>?_,h.from_⟩
 rcases hs with hs|hs|hs
 ·exact h.edge u r y c hu e hn (.inl hs)
 ·exact h.edge u r y c hu e hn (.inr hs)
 ·subst hs;rw[hn] at hb;cases hb
theorem uT.stay {x:Nat} {S:Nat→Prop} {D H:Nat→Option Wk} (h:uT w a x S D H) {b c:Nat} {r old:Wk} (hx:D x=some r) (he:w x b=some c) (ho:H b=some old) (hn:¬cF (aJ r c b) old):uT w a x (fun y=>S y∨y=b) D H:=
 ⟨h.done,h.wait,fun u k y d hu e hd hs=>by
  rcases hs with hs|hs|hs
  ·exact h.edge u k y d hu e hd (.inl hs)
  ·exact h.edge u k y d hu e hd (.inr hs)
  ·subst hs
   by_cases hux:u=x
   ·subst hux
    rw[hx] at hu;injection hu with hu;subst hu
    rw[he] at e;injection e with e;subst e
    exact⟨old,ho,hn⟩
   ·exact h.edge u k y d hu e hd (.inl hux),h.from_⟩
theorem uT.set {x:Nat} {S:Nat→Prop} {D H:Nat→Option Wk} (h:uT w a x S D H) {b c:Nat} {r:Wk} (hx:D x=some r) (he:w x b=some c) (hd:D b=none) (hbet:∀old,H b=some old→cF (aJ r c b) old):uT w a x (fun y=>S y∨y=b) D (jB H b (some (aJ r c b))):=by
 refine⟨h.done,fun y k hy=>?_,fun u k y d hu e hn hs=>?_,h.from_⟩
 ·by_cases hyb:y=b
  ·subst hyb
   rw[ca] at hy;injection hy with hy;subst hy
   exact⟨.snoc (h.done x r hx).1 he,hd⟩
  ·rw[cZ _ hyb] at hy;exact h.wait y k hy
 ·by_cases hyb:y=b
  ·subst hyb
   refine⟨_,ca _ _ _,?_⟩
   by_cases hux:u=x
   ·subst hux
    rw[hx] at hu;injection hu with hu;subst hu
    rw[he] at e;injection e with e;subst e
    exact cF.irrefl _
   ·obtain⟨old,g1,g2⟩:=h.edge u k y d hu e hn (.inl hux)
    intro q
    exact g2 (q.trans (hbet old g1))
  ·rw[cZ _ hyb]
   rcases hs with hs|hs|hs
   ·exact h.edge u k y d hu e hn (.inl hs)
   ·exact h.edge u k y d hu e hn (.inr hs)
   ·exact absurd hs hyb
theorem uT.close {x:Nat} {S:Nat→Prop} {D H:Nat→Option Wk} (h:uT w a x S D H) (hS:∀b c,w x b=some c→S b):zY w a D H:=
 ⟨h.done,h.wait,fun u r b c hu e hn=>h.edge u r b c hu e hn (by
  by_cases hux:u=x
  ·subst hux;exact .inr (hS b c e)
  ·exact .inl hux),.inl h.from_⟩
theorem zY.all {D H:Nat→Option Wk} (h:zY w a D H) (hH:∀x,H x=none):(∀x r,D x=some r→cE w a x r)∧∀b y,dk w a b y→(D b).isSome=true:=by
  refine⟨h.done,ye (fun u r b c hu e=>?_) ?_⟩
  · cases hb:D b with
    |some _=>rfl
    | none=>
      obtain⟨k,g1,_⟩:=h.edge u r b c hu e hb
      rw[hH] at g1;cases g1
  · rcases h.from_ with q|q
    · exact q
    · rw[hH] at q;cases q
end
end Go.Proofs.YtgfjihpbphplhaaGreat

namespace Go.Proofs.YtgfjihpbphplhaaGreat
section
variable (w:Nat→Nat→Option Nat) (a:Nat)
structure oE (B0:Nat→Option Wk) (S:Nat→Nat→Prop) (B:Nat→Option Wk):Prop where
 sound:∀b x,B b=some x→dk w a b x
 mono:∀b x,B0 b=some x→∃x',B b=some x'∧¬cF x x'
 relax:∀u b c x,S u b→B0 u=some x→w u b=some c→∃x',B b=some x'∧¬cF (aJ x c b) x'
variable {w a}
theorem oE.start {B:Nat→Option Wk} (h:∀b x,B b=some x→dk w a b x):oE w a B (fun _ _=>False) B:=
 ⟨h,fun b x hx=>⟨x,hx,cF.irrefl _⟩,fun u b c x hs=>hs.elim⟩
theorem oE.stay {B0 B:Nat→Option Wk} {S:Nat→Nat→Prop} (h:oE w a B0 S B) {u b c:Nat} {y old:Wk} (hu:B u=some y) (he:w u b=some c) (ho:B b=some old) (hn:¬cF (aJ y c b) old):oE w a B0 (fun p q=>S p q∨(p=u∧q=b)) B:=by
 refine⟨h.sound,h.mono,fun p q d x hs hx he2=>?_⟩
 rcases hs with hs|⟨rfl,rfl⟩
 ·exact h.relax p q d x hs hx he2
 ·obtain⟨x',g1,g2⟩:=h.mono p x hx
  rw[hu] at g1;injection g1 with g1;subst g1
  rw[he] at he2;injection he2 with he2;subst he2
  exact⟨old,ho,cF.cS (fw g2 c q) hn⟩
theorem oE.set {B0 B:Nat→Option Wk} {S:Nat→Nat→Prop} (h:oE w a B0 S B) {u b c:Nat} {y:Wk} (hu:B u=some y) (he:w u b=some c) (hbet:∀old,B b=some old→cF (aJ y c b) old):oE w a B0 (fun p q=>S p q∨(p=u∧q=b)) (jB B b (some (aJ y c b))):=by
 have up:∀q x',B q=some x'→∃x2,jB B b (some (aJ y c b)) q=some x2∧¬cF x' x2:=by
  intro q x' hq
  by_cases hqb:q=b
  ·subst hqb
   exact⟨_,ca _ _ _,fun k=>cF.irrefl _ (k.trans (hbet x' hq))⟩
  ·exact⟨x',by rw[cZ _ hqb];exact hq,cF.irrefl _⟩
 refine⟨fun q x hq=>?_,fun q x hx=>?_,fun p q d x hs hx he2=>?_⟩
 ·by_cases hqb:q=b
  ·subst hqb
   rw[ca] at hq;injection hq with hq;subst hq
   exact .snoc (h.sound u y hu) he
  ·rw[cZ _ hqb] at hq;exact h.sound q x hq
 ·obtain⟨x',g1,g2⟩:=h.mono q x hx
  obtain⟨x2,g3,g4⟩:=up q x' g1
  exact⟨x2,g3,cF.cS g2 g4⟩
 ·rcases hs with hs|⟨rfl,rfl⟩
  ·obtain⟨x',g1,g2⟩:=h.relax p q d x hs hx he2
   obtain⟨x2,g3,g4⟩:=up q x' g1
   exact⟨x2,g3,cF.cS g2 g4⟩
  ·obtain⟨x',g1,g2⟩:=h.mono p x hx
   rw[hu] at g1;injection g1 with g1;subst g1
   rw[he] at he2;injection he2 with he2;subst he2
   exact⟨_,ca _ _ _,fw g2 c q⟩
theorem oE.close {B0 B:Nat→Option Wk} {S:Nat→Nat→Prop} (h:oE w a B0 S B) (hS:∀u b c,w u b=some c→S u b∨B0 u=none) {k:Nat} (hk:lg w a k B0):lg w a (k+1) B:=
 oc hk h.mono fun u b c x hx he=>by
  rcases hS u b c he with q|q
  ·exact h.relax u b c x q hx he
  ·rw[q] at hx;cases hx
end
section
variable (w:Nat→Nat→Option Nat)
def A5 (M:Nat→Nat→Option Nat) (i k:Nat) (v:Option Nat):Nat→Nat→Option Nat:=fun p q=>if p=i∧q=k then v else M p q
structure oC (n m:Nat) (M0:Nat→Nat→Option Nat) (S:Nat→Nat→Prop) (M:Nat→Nat→Option Nat):Prop where
 sound:∀i k c,M i k=some c→∃y,dk w (i+1) (k+1) y∧y.1=c
 mono:∀i k c,zW (M0 i k) c→zW (M i k) c
 relax:∀i k c d,S i k→M0 i m=some c→M0 m k=some d→zW (M i k) (c+d)
variable {w} {n m:Nat}
theorem oC.start {M:Nat→Nat→Option Nat} (h:∀i k c,M i k=some c→∃y,dk w (i+1) (k+1) y∧y.1=c):oC w n m M (fun _ _=>False) M:=
 ⟨h,fun i k c hx=>hx,fun i k c d hs=>hs.elim⟩
theorem oC.stay {M0 M:Nat→Nat→Option Nat} {S:Nat→Nat→Prop} (h:oC w n m M0 S M) {i k x y z:Nat} (hx:M i m=some x) (hy:M m k=some y) (hz:M i k=some z) (hn:¬x+y<z):oC w n m M0 (fun p q=>S p q∨(p=i∧q=k)) M:=by
 refine⟨h.sound,h.mono,fun p q c d hs hc hd=>?_⟩
 rcases hs with hs|⟨rfl,rfl⟩
 ·exact h.relax p q c d hs hc hd
 ·obtain⟨x',g1,g2⟩:=h.mono p m c ⟨c,hc,Nat.le_refl _⟩
  obtain⟨y',g3,g4⟩:=h.mono m q d ⟨d,hd,Nat.le_refl _⟩
  rw[hx] at g1;injection g1 with g1
  rw[hy] at g3;injection g3 with g3
  exact⟨z,hz,by omega⟩
theorem oC.set {M0 M:Nat→Nat→Option Nat} {S:Nat→Nat→Prop} (h:oC w n m M0 S M) {i k x y:Nat} (hx:M i m=some x) (hy:M m k=some y) (hbet:∀z,M i k=some z→x+y<z):oC w n m M0 (fun p q=>S p q∨(p=i∧q=k)) (A5 M i k (some (x+y))):=by
 have up:∀p q c,zW (M p q) c→zW (A5 M i k (some (x+y)) p q) c:=by
  rintro p q c ⟨d,g1,g2⟩
  by_cases hpq:p=i∧q=k
  ·obtain⟨rfl,rfl⟩:=hpq
   have:=hbet d g1
   exact⟨x+y,if_pos ⟨rfl,rfl⟩,by omega⟩
  ·exact⟨d,(if_neg hpq).trans g1,g2⟩
 refine⟨fun p q c hc=>?_,fun p q c hc=>up p q c (h.mono p q c hc),fun p q c d hs hc hd=>?_⟩
 ·by_cases hpq:p=i∧q=k
  ·obtain⟨rfl,rfl⟩:=hpq
   have hc:some (x+y)=some c:=(if_pos ⟨rfl,rfl⟩).symm.trans hc
   injection hc with hc
   obtain⟨u,g1,g2⟩:=h.sound p m x hx
   obtain⟨v,g3,g4⟩:=h.sound m q y hy
   obtain⟨z,g5,g6⟩:=iN g1 g3
   exact⟨z,g5,by omega⟩
  ·exact h.sound p q c ((if_neg hpq).symm.trans hc)
 ·rcases hs with hs|⟨rfl,rfl⟩
  ·exact up p q _ (h.relax p q c d hs hc hd)
  ·obtain⟨x',g1,g2⟩:=h.mono p m c ⟨c,hc,Nat.le_refl _⟩
   obtain⟨y',g3,g4⟩:=h.mono m q d ⟨d,hd,Nat.le_refl _⟩
   rw[hx] at g1;injection g1 with g1
   rw[hy] at g3;injection g3 with g3
   exact⟨x+y,if_pos ⟨rfl,rfl⟩,by omega⟩
theorem oC.close {M0 M:Nat→Nat→Option Nat} {S:Nat→Nat→Prop} (h:oC w n m M0 S M) (hS:∀i k,i<n→k<n→S i k) (hm:m<n) (hc:zZ w m n M0):zZ w (m+1) n M:=
 vM hc hm (fun i k c _ _ hl=>h.mono i k c hl) fun i k c d hi hk g1 g2=>h.relax i k c d (hS i k hi hk) g1 g2
end
end Go.Proofs.YtgfjihpbphplhaaGreat

namespace Go.Proofs.YtgfjihpbphplhaaGreat
variable {w:Nat→Nat→Option Nat}
end Go.Proofs.YtgfjihpbphplhaaGreat

namespace Go.Kern
open Go.RowKit
universe u
inductive Tag {α:Sort u} (a:α):Type where
 |mk
def bw {α:Sort u} (a:α) (_:Tag a):α:=a
inductive SK where
 |nil|bf|full
 |tip (o:Nat)
inductive AV where
 |any
 |int (k:IntKind) (n:Int)
 |bool (b:Bool)
 |str (s:ByteArray)
 |agg (cs:List AV)
 |bK (vs:List AV)
 |sl (k:SK) (xs:List AV)
 |nilp
 |ip (x:AV) (off:Nat)
 |ptr (o i off:Nat)
 |ms (o sz st len:Nat)
 |map (o:Nat)
 |nilmap
 |fn (f:FuncId) (caps:List AV)
 |nilfn
 |ifc (t:TypeId) (x:AV)
 |nilifc
instance :Inhabited AV:=⟨.any⟩
def AV.cells:AV→List AV
 | .agg cs=>cs
 |v=>[v]
def ar (xs:List AV):List AV:=xs.flatMap AV.cells
def AV.one:AV→Bool
 | .any| .agg _| .bK _=>false
 |_=>true
def AV.known:AV→Bool
 | .any=>false
 |_=>true
structure Gh where
 w0:World
 bf:Nat→Nat→Option Value
 loc:Nat→Option (Nat×Nat×Nat)
 tipv:Nat→Nat→Option Value
 res:Nat→Prop
structure Gh.Le (g g':Gh):Prop where
 w0:g'.w0=g.w0
 bf:∀b o v,g.bf b o=some v→g'.bf b o=some v
 loc:∀o x,g.loc o=some x→g'.loc o=some x
 tipv:∀o n v,g.tipv o n=some v→g'.tipv o n=some v
 res:g'.res=g.res
theorem Gh.Le.refl (g:Gh):g.Le g:=⟨rfl,fun _ _ _ h=>h,fun _ _ h=>h,fun _ _ _ h=>h,rfl⟩
theorem Gh.Le.trans {a b c:Gh} (h:a.Le b) (k:b.Le c):a.Le c:=
 ⟨k.w0.trans h.w0,fun _ _ _ x=>k.bf _ _ _ (h.bf _ _ _ x),fun _ _ x=>k.loc _ _ (h.loc _ _ x),fun _ _ _ x=>k.tipv _ _ _ (h.tipv _ _ _ x),k.res.trans h.res⟩
def su (g:Gh) (k:SK) (a:Addr) (n cap:Nat):Prop:=
 match k with
 | .nil=>False
 | .bf=>n≤cap
 | .full=>cap=n
 | .tip o=>n≤cap∧g.tipv o n=some (.slice (some a) n cap)
inductive R (g:Gh):AV→Value→Prop
 |any (v:Value):R g .any v
 |int (k:IntKind) (n:Int):R g (.int k n) (.int k n)
 |bool (b:Bool):R g (.bool b) (.bool b)
 |str (s:ByteArray):R g (.str s) (.string s)
 |agg {cs:List AV} {vs:Array Value} (hl:cs.length=vs.size) (h:∀ (i:Nat) (c:AV) (v:Value),cs[i]? =some c→vs[i]? =some v→R g c v):R g (.agg cs) (.agg vs)
 |bK {cs:List AV} {vs:Array Value} (hl:cs.length=vs.size) (h:∀ (i:Nat) (c:AV) (v:Value),cs[i]? =some c→vs[i]? =some v→R g c v):R g (.bK cs) (.tuple vs)
 |slnil:R g (.sl .nil []) (.slice none 0 0)
 |sl {k:SK} {xs:List AV} {a:Addr} {cap sz:Nat} {vs:Nat→Value} (hk:su g k a xs.length cap) (hs:xs≠[]→a.spot=none)
   (hu:∀x,x∈xs→x.cells.length=sz)
   (hi:∀i,i<(ar xs).length→g.bf a.block (a.off+i)=some (vs i))
   (h:∀ (i:Nat) (c:AV),(ar xs)[i]? =some c→R g c (vs i)):R g (.sl k xs) (.slice (some a) xs.length cap)
 |nilp:R g .nilp (.pointer none)
 |ip {x:AV} {off base:Nat} {a:Addr} {vs:Nat→Value} (hs:a.spot=none) (ho:a.off=base+off)
   (hi:∀i,i<x.cells.length→g.bf a.block (base+i)=some (vs i))
   (h:∀ (i:Nat) (c:AV),x.cells[i]? =some c→R g c (vs i)):R g (.ip x off) (.pointer (some a))
 |ptr {o i off b sz n:Nat} (hb:g.loc o=some (b,sz,n)):R g (.ptr o i off) (.pointer (some ⟨b,i*sz+off,none⟩))
 |ms {o st len b sz n cap:Nat} {a:Addr} (hb:g.loc o=some (b,sz,n)) (hc:st+cap≤n) (hl:len≤cap) (ha:0<cap→a=⟨b,st*sz,none⟩):R g (.ms o sz st len) (.slice (some a) len cap)
 |map {o b:Nat} (hb:g.loc o=some (b,0,0)):R g (.map o) (.map (some b))
 |nilmap:R g .nilmap (.map none)
 |fn {f:FuncId} {cs:List AV} {vs:Array Value} (hl:cs.length=vs.size) (h:∀ (i:Nat) (c:AV) (v:Value),cs[i]? =some c→vs[i]? =some v→R g c v):R g (.fn f cs) (.func (.func f) #[] vs)
 |nilfn:R g .nilfn .nilFunc
 |ifc {t:TypeId} {x:AV} {v:Value} (h:R g x v):R g (.ifc t x) (.iface t v)
 |nilifc:R g .nilifc .nilIface
theorem su.le {g g':Gh} (hle:g.Le g') {k:SK} {a:Addr} {n cap:Nat} (h:su g k a n cap):su g' k a n cap:=by
 cases k with
 |nil=>exact h
 |bf=>exact h
 |full=>exact h
 |tip o=>exact⟨h.1,hle.tipv _ _ _ h.2⟩
theorem R.le {g g':Gh} (hle:g.Le g') {x:AV} {v:Value} (h:R g x v):R g' x v:=by
 induction h with
 |any v=>exact .any v
 |int k n=>exact .int k n
 |bool b=>exact .bool b
 |str s=>exact .str s
 |agg hl h ih=>exact .agg hl ih
 |bK hl h ih=>exact .bK hl ih
 |slnil=>exact .slnil
 |sl hk hs hu hi h ih=>exact .sl (hk.le hle) hs hu (fun i hh=>hle.bf _ _ _ (hi i hh)) ih
 |nilp=>exact .nilp
 |ip hs ho hi h ih=>exact .ip hs ho (fun i hh=>hle.bf _ _ _ (hi i hh)) ih
 |ptr hb=>exact .ptr (hle.loc _ _ hb)
 |ms hb hc hl ha=>exact .ms (hle.loc _ _ hb) hc hl ha
 |map hb=>exact .map (hle.loc _ _ hb)
 |nilmap=>exact .nilmap
 |fn hl h ih=>exact .fn hl ih
 |nilfn=>exact .nilfn
 |ifc h ih=>exact .ifc ih
 |nilifc=>exact .nilifc
theorem R.one {g:Gh} {x:AV} {v:Value} (h:R g x v) (h1:x.one=true):v.oneCell'=true:=by
 cases h<;>first|rfl|(simp[AV.one] at h1;done)
theorem R.cells {g:Gh} {x:AV} {v:Value} (h:R g x v) (hkn:x.known=true):x.cells.length=v.cells.size∧∀ (i:Nat) (c:AV) (u:Value),x.cells[i]? =some c→v.cells[i]? =some u→R g c u:=by
 have one:∀ (x:AV) (v:Value),R g x v→x.cells=[x]→v.cells= #[v]→x.cells.length=v.cells.size∧∀ (i:Nat) (c:AV) (u:Value),x.cells[i]? =some c→v.cells[i]? =some u→R g c u:=by
  intro x v h e1 e2
  rw[e1,e2]
  refine⟨rfl,fun i c u hc hu=>?_⟩
  cases i with
  |zero=>simp at hc hu;subst hc;subst hu;exact h
  |succ i=>simp at hc
 cases h with
 |any v=>simp[AV.known] at hkn
 |agg hl h=>exact⟨hl,h⟩
 |int k n=>exact one _ _ (.int k n) rfl rfl
 |bool b=>exact one _ _ (.bool b) rfl rfl
 |str s=>exact one _ _ (.str s) rfl rfl
 |bK hl h=>exact one _ _ (.bK hl h) rfl rfl
 |slnil=>exact one _ _ .slnil rfl rfl
 |sl hk hs hu hi h=>exact one _ _ (.sl hk hs hu hi h) rfl rfl
 |nilp=>exact one _ _ .nilp rfl rfl
 |ip hs ho hi h=>exact one _ _ (.ip hs ho hi h) rfl rfl
 |ptr hb=>exact one _ _ (.ptr hb) rfl rfl
 |ms hb hc hl ha=>exact one _ _ (.ms hb hc hl ha) rfl rfl
 |map hb=>exact one _ _ (.map hb) rfl rfl
 |nilmap=>exact one _ _ .nilmap rfl rfl
 |fn hl h=>exact one _ _ (.fn hl h) rfl rfl
 |nilfn=>exact one _ _ .nilfn rfl rfl
 |ifc h=>exact one _ _ (.ifc h) rfl rfl
 |nilifc=>exact one _ _ .nilifc rfl rfl
inductive Ob where
 |arr (e:TypeId) (rows:List AV)
 |tip (n:Nat) (e:TypeId) (sz:Nat)
 |map (es:List (AV×AV))
 |mapR (es:List (AV×AV)) (en:Array MapEntry) (ck:Nat)
 |iter (m:Nat) (en:Array MapEntry) (ck:Nat) (sn:Array Nat)
 |iterN
abbrev aa:=Nat→Option Ob
def aa.put (s:aa) (o:Nat) (x:Ob):aa:=fun p=>if p=o then some x else s p
def aa.drop (s:aa) (o:Nat):aa:=fun p=>if p=o then none else s p
def aa.Sub (s t:aa):Prop:=∀o x,s o=some x→t o=some x
def jT (g:Gh) (w:World) (o b:Nat):Ob→Prop
 | .arr e rows=>∃ (sz:Nat) (cells:Array Value),(∃n,g.loc o=some (b,sz,n)∧cells.size=n*sz)∧w.heap[b]? =some (.cells cells e (0,0))∧(∀r,r∈rows→r.cells.length=sz)∧rows.length*sz≤cells.size∧
   (∀ (i:Nat) (c:AV) (v:Value),(ar rows)[i]? =some c→cells[i]? =some v→R g c v)∧(∀off,g.bf b off=none)
 | .tip n e sz=>∃ (cap:Nat) (cur:Array Value),g.tipv o n=some (.slice (some ⟨b,0,none⟩) n cap)∧(∀m,n<m→g.tipv o m=none)∧w.heap[b]? =some (.cells cur e (0,0))∧n≤cap∧cap≤maxLen∧cur.size=cap*sz∧
   (∀off,n*sz≤off→g.bf b off=none)
 | .map es=>∃ (entries:Array MapEntry) (clock:Nat),g.loc o=some (b,0,0)∧w.heap[b]? =some (.map entries clock)∧es.length=entries.size∧
   (∀ (i:Nat) (kv:AV×AV) (en:MapEntry),es[i]? =some kv→entries[i]? =some en→R g kv.1 en.key∧R g kv.2 en.val)∧Go.MapKept.Stamped entries clock
 | .mapR es entries clock=>g.loc o=some (b,0,0)∧w.heap[b]? =some (.map entries clock)∧es.length=entries.size∧
   (∀ (i:Nat) (kv:AV×AV) (en:MapEntry),es[i]? =some kv→entries[i]? =some en→R g kv.1 en.key∧R g kv.2 en.val)∧Go.MapKept.Stamped entries clock
 | .iter m entries clock sn=>g.loc o=some (b,0,0)∧∃bm,g.loc m=some (bm,0,0)∧w.heap[b]? =some (.mapIter (some bm) clock sn clock)
 | .iterN=>g.loc o=some (b,0,0)∧∃since sn c0,w.heap[b]? =some (.mapIter none since sn c0)
structure ay (g:Gh) (w:World) (s:aa):Prop where
 below:Below g.w0.heap.size g.w0 w
 bf:∀b o v,g.bf b o=some v→w.cell? ⟨b,o,none⟩=some v
 loc:∀o b sz n,g.loc o=some (b,sz,n)→g.w0.heap.size≤b∧b<w.heap.size
 fresh:∃N,∀o,N≤o→g.loc o=none∧(∀m,g.tipv o m=none)∧s o=none∧¬g.res o
 res:∀o,g.res o→g.loc o=none∧(∀m,g.tipv o m=none)∧s o=none
 obj:∃blk:Nat→Nat,(∀o x,s o=some x→g.w0.heap.size≤blk o∧jT g w o (blk o) x)∧(∀o o' x x',s o=some x→s o'=some x'→blk o=blk o'→o=o')
theorem ay.sub {g:Gh} {w:World} {s t:aa} (h:ay g w t) (hs:s.Sub t):ay g w s:=by
 obtain⟨N,hN⟩:=h.fresh
 obtain⟨blk,h1,h2⟩:=h.obj
 have hnone:∀o,t o=none→s o=none:=fun o ho=>by
  cases hso:s o with
  |none=>rfl
  |some x=>have:=hs o x hso;rw[ho] at this;cases this
 exact⟨h.below,h.bf,h.loc,⟨N,fun o ho=>⟨(hN o ho).1,(hN o ho).2.1,hnone o (hN o ho).2.2.1,(hN o ho).2.2.2⟩⟩,fun o ho=>⟨(h.res o ho).1,(h.res o ho).2.1,hnone o (h.res o ho).2.2⟩,
  blk,fun o x hx=>h1 o x (hs o x hx),fun o o' x x' hx hx'=>h2 o o' x x' (hs _ _ hx) (hs _ _ hx')⟩
end Go.Kern

namespace Go.Kern
open Go.RowKit
abbrev Env:=List (Nat×AV)
def Env.get:Env→Nat→AV
 | [],_=> .any
 |(j,v)::r,i=>if i=j then v else Env.get r i
def Env.aG (ρ:Env):Option Tmp→AV→Env
 |none,_=>ρ
 |some d,v=>(d,v)::ρ
def dI:Value→AV
 | .int k n=> .int k n
 | .bool b=> .bool b
 | .string s=> .str s
 | .pointer none=> .nilp
 | .slice none 0 0=> .sl .nil []
 | .map none=> .nilmap
 | .nilFunc=> .nilfn
 | .nilIface=> .nilifc
 |_=> .any
def ofConst:Value→AV
 | .agg cs=> .agg (cs.toList.map dI)
 | .tuple cs=> .bK (cs.toList.map dI)
 |v=>dI v
theorem yo (g:Gh) (v:Value):R g (dI v) v:=by
 unfold dI
 split<;>first|exact .any _|exact .int _ _|exact .bool _|exact .str _|exact .nilp|exact .slnil|exact .nilmap|exact .nilfn|exact .nilifc
theorem eN (g:Gh) (cs:Array Value):(cs.toList.map dI).length=cs.size∧∀ (i:Nat) (c:AV) (v:Value),(cs.toList.map dI)[i]? =some c→cs[i]? =some v→R g c v:=by
 refine⟨by simp,fun i c v hc hv=>?_⟩
 simp only[List.getElem?_map,Array.getElem?_toList,hv,Option.map_some,Option.some.injEq] at hc
 subst hc
 exact yo g v
theorem mD (g:Gh) (v:Value):R g (ofConst v) v:=by
 unfold ofConst
 split
 ·exact .agg (eN g _).1 (eN g _).2
 ·exact .bK (eN g _).1 (eN g _).2
 ·exact yo g v
def ev (ρ:Env):Operand→AV
 | .tmp t=>ρ.get t
 | .const v=>ofConst v
 | .global _=> .any
 | .func f=> .fn f []
structure RE (g:Gh) (n:Nat) (ρ:Env) (tmps:Array Value):Prop where
 size:tmps.size=n
 get:∀i,R g (ρ.get i) (tmps.getD i undef)
theorem gR (g:Gh):R g (.bK []) undef:= .bK rfl (fun i c v h=>by simp at h)
theorem RE.le {g g':Gh} {n:Nat} {ρ:Env} {t:Array Value} (h:RE g n ρ t) (hle:g.Le g'):RE g' n ρ t:=⟨h.size,fun i=>(h.get i).le hle⟩
theorem RE.eval {g:Gh} {n:Nat} {ρ:Env} {a:Act} (h:RE g n ρ a.tmps) (x:Operand):R g (ev ρ x) (a.eval x):=by
 cases x with
 |tmp t=>exact h.get t
 |const v=>exact mD g v
 |global _=>exact .any _
 |func f=>exact .fn rfl (fun i c v hc=>by simp at hc)
def gA (n:Nat):Option Tmp→Bool
 |none=>true
 |some d=>decide (d<n)
theorem RE.put {g:Gh} {n:Nat} {ρ:Env} {a:Act} (h:RE g n ρ a.tmps) {d:Option Tmp} (hd:gA n d=true) {x:AV} {v:Value} (hx:R g x v):RE g n (ρ.aG d x) (a.put d v).tmps:=by
  cases d with
  |none=>exact h
  | some d=>
    have hd':d<n:=by simpa [gA] using hd
    refine⟨by simp[Act.put,h.size],fun i=>?_⟩
    simp only[Act.put,Env.aG,Env.get]
    by_cases hi:i=d
    · subst hi
      rw[if_pos rfl,Array.getD_eq_getD_getElem?,Array.getElem?_setIfInBounds]
      rw[if_pos rfl,if_pos (by rw[h.size];exact hd')]
      exact hx
    · rw[if_neg hi,Array.getD_eq_getD_getElem?,Array.getElem?_setIfInBounds,if_neg (fun e=>hi e.symm),←Array.getD_eq_getD_getElem?]
      exact h.get i
def Env.Sub (s t:Env):Prop:=∀i,s.get i= .any∨s.get i=t.get i
theorem RE.sub {g:Gh} {n:Nat} {s t:Env} {a:Array Value} (hs:s.Sub t) (h:RE g n t a):RE g n s a:=
 ⟨h.size,fun i=>by
  rcases hs i with e|e
  ·rw[e];exact .any _
  ·rw[e];exact h.get i⟩
def Env.Has (t:Env):Env→Prop
 | []=>True
 |(j,v)::r=>t.get j=v∧Env.Has t r
theorem Env.ab {t:Env}:∀{s:Env},Env.Has t s→s.Sub t
  | [],_=>fun i=> .inl rfl
  | (j,v)::r,h=>fun i=>by
    simp only[Env.get]
    by_cases e:i=j
    · subst e;rw[if_pos rfl];exact .inr h.1.symm
    · rw[if_neg e];exact Env.ab h.2 i
abbrev bk:=Exit→Env→aa→Prop
def mb (g:Gh) (n:Nat) (Q:bk):Exit→Act→World→Prop:=fun e a w=>
 a.defers=[]∧∃g' ρ' σ',g.Le g'∧RE g' n ρ' a.tmps∧ay g' w σ'∧Q e ρ' σ'
def W (P:Program) (n:Nat) (c:Code) (Q:bk) (ρ:Env) (σ:aa):Prop:=
 ∀ (g:Gh) (a:Act) (w:World),a.defers=[]→RE g n ρ a.tmps→ay g w σ→c.wp P (mb g n Q) a w
theorem mb.mono {g g':Gh} {n:Nat} {Q Q':bk} (hle:g.Le g') (hq:∀e ρ σ,Q e ρ σ→Q' e ρ σ) {e:Exit} {a:Act} {w:World} (h:mb g' n Q e a w):mb g n Q' e a w:=by
 obtain⟨hd,g1,ρ,σ,h1,h2,h3,h4⟩:=h
 exact⟨hd,g1,ρ,σ,hle.trans h1,h2,h3,hq _ _ _ h4⟩
def bk.then (next:Env→aa→Prop) (Q:bk):bk
 | .normal,ρ,σ=>next ρ σ
 |e,ρ,σ=>Q e ρ σ
def bk.inBlock (id:Nat) (Q:bk):bk
 | .exit id',ρ,σ=>if id'=id then Q .normal ρ σ else Q (.exit id') ρ σ
 |e,ρ,σ=>Q e ρ σ
section
variable {P:Program} {n:Nat} {Q:bk} {ρ:Env} {σ:aa}
theorem ua {c:Code} {Q':bk} (h:W P n c Q ρ σ) (hq:∀e ρ σ,Q e ρ σ→Q' e ρ σ):W P n c Q' ρ σ:=
 fun g a w hd he hc=>wp_mono (h g a w hd he hc) fun _ _ _ hl=>hl.mono (.refl g) hq
theorem lb {c:Code} {ρ':Env} {σ':aa} (hρ:ρ'.Sub ρ) (hσ:σ'.Sub σ) (h:W P n c Q ρ' σ'):W P n c Q ρ σ:=
 fun g a w hd he hc=>h g a w hd (he.sub hρ) (hc.sub hσ)
theorem yg {x y:Code} (h:W P n x (bk.then (W P n y Q) Q) ρ σ):W P n (.seq x y) Q ρ σ:=by
 intro g a w hd he hc
 refine wp_seq (wp_mono (h g a w hd he hc) ?_)
 rintro e a' w' ⟨hd',g',ρ',σ',hle,he',hc',hq⟩
 cases e with
 |normal=>exact wp_mono (hq g' a' w' hd' he' hc') fun _ _ _ hl=>hl.mono hle (fun _ _ _ h=>h)
 |exit id=>exact⟨hd',g',ρ',σ',hle,he',hc',hq⟩
 |goto l=>exact⟨hd',g',ρ',σ',hle,he',hc',hq⟩
 |ret=>exact⟨hd',g',ρ',σ',hle,he',hc',hq⟩
 |panic ch=>exact⟨hd',g',ρ',σ',hle,he',hc',hq⟩
 |outgrown=>exact⟨hd',g',ρ',σ',hle,he',hc',hq⟩
theorem AR (h:Q .normal ρ σ):W P n .skip Q ρ σ:=fun g a w hd he hc=>wp_skip ⟨hd,g,ρ,σ,.refl g,he,hc,h⟩
theorem Cg (h:Q .ret ρ σ):W P n .ret Q ρ σ:=fun g a w hd he hc=>wp_ret ⟨hd,g,ρ,σ,.refl g,he,hc,h⟩
theorem AU {id:Nat} (h:Q (.exit id) ρ σ):W P n (.exit id) Q ρ σ:=fun g a w hd he hc=>wp_exit ⟨hd,g,ρ,σ,.refl g,he,hc,h⟩
theorem zU {id:Nat} {c:Code} (h:W P n c (bk.inBlock id Q) ρ σ):W P n (.block id c) Q ρ σ:=by
  intro g a w hd he hc
  refine wp_block (wp_mono (h g a w hd he hc) ?_)
  rintro e a' w' ⟨hd',g',ρ',σ',hle,he',hc',hq⟩
  cases e with
  | exit id'=>
    simp only[bk.inBlock] at hq
    simp only[Exit.inBlock]
    split
    · rename_i e;rw[if_pos e] at hq;exact⟨hd',g',ρ',σ',hle,he',hc',hq⟩
    · rename_i e;rw[if_neg e] at hq;exact⟨hd',g',ρ',σ',hle,he',hc',hq⟩
  |normal=>exact⟨hd',g',ρ',σ',hle,he',hc',hq⟩
  |goto l=>exact⟨hd',g',ρ',σ',hle,he',hc',hq⟩
  |ret=>exact⟨hd',g',ρ',σ',hle,he',hc',hq⟩
  |panic ch=>exact⟨hd',g',ρ',σ',hle,he',hc',hq⟩
  |outgrown=>exact⟨hd',g',ρ',σ',hle,he',hc',hq⟩
theorem jR {c:Operand} {x y:Code} {b:Bool} (hb:ev ρ c= .bool b) (ht:b=true→W P n x Q ρ σ) (hf:b=false→W P n y Q ρ σ):W P n (.cond c x y) Q ρ σ:=by
 intro g a w hd he hc
 have hr:=he.eval c
 rw[hb] at hr
 generalize hv:a.eval c=v at hr
 cases hr
 refine wp_cond_split hv (fun e=>ht e g a w hd he hc) (fun e=>hf e g a w hd he hc)
theorem AT {c:Code} (I:Nat→Env→aa→Prop) (k:Nat) (h0:I k ρ σ)
    (hr:∀k ρ σ,I k ρ σ→W P n c (bk.then (fun ρ' σ'=>∃k',k'<k∧I k' ρ' σ') Q) ρ σ):W P n (.loop c) Q ρ σ:=by
  intro g a w hd he hc
  refine wp_loop_ghost (fun k a' w'=>a'.defers=[]∧∃g' ρ' σ',g.Le g'∧RE g' n ρ' a'.tmps∧ay g' w' σ'∧I k ρ' σ') k ⟨hd,g,ρ,σ,.refl g,he,hc,h0⟩ ?_
  rintro k a' w' ⟨hd',g',ρ',σ',hle,he',hc',hi⟩
  refine wp_mono (hr k ρ' σ' hi g' a' w' hd' he' hc') ?_
  rintro e a2 w2 ⟨hd2,g2,ρ2,σ2,hle2,he2,hc2,hq⟩
  cases e with
  | normal=>
    obtain⟨k',hk,hi'⟩:=hq
    exact⟨k',hk,hd2,g2,ρ2,σ2,hle.trans hle2,he2,hc2,hi'⟩
  |exit id'=>exact⟨hd2,g2,ρ2,σ2,hle.trans hle2,he2,hc2,hq⟩
  |goto l=>exact⟨hd2,g2,ρ2,σ2,hle.trans hle2,he2,hc2,hq⟩
  |ret=>exact⟨hd2,g2,ρ2,σ2,hle.trans hle2,he2,hc2,hq⟩
  |panic ch=>exact⟨hd2,g2,ρ2,σ2,hle.trans hle2,he2,hc2,hq⟩
  |outgrown=>exact⟨hd2,g2,ρ2,σ2,hle.trans hle2,he2,hc2,hq⟩
end
def af (P:Program) (f:FuncId) (args:List AV) (σ:aa) (K:AV→aa→Prop):Prop:=
  (∃fn,P.funcs[f]? =some fn∧(fn.name== "runtime.NumGoroutine")=false∧fn.body.isNone=false)∧
  ∀ (g:Gh) (w:World) (vs:Array Value),args.length=vs.size→(∀ (i:Nat) (c:AV) (v:Value),args[i]? =some c→vs[i]? =some v→R g c v)→ay g w σ→
    Calls P f vs w fun e w'=>∃v,e= .returned v∧∃g' r σ',g.Le g'∧ay g' w' σ'∧R g' r v∧K r σ'
theorem af.mono {P:Program} {f:FuncId} {args:List AV} {σ:aa} {K K':AV→aa→Prop} (h:af P f args σ K) (hk:∀r s,K r s→K' r s):af P f args σ K':=
 ⟨h.1,fun g w vs hl hr hc=>(h.2 g w vs hl hr hc).mono fun _ _ ⟨v,he,g',r,σ',h1,h2,h3,h4⟩=>⟨v,he,g',r,σ',h1,h2,h3,hk _ _ h4⟩⟩
def kO:Nat→List AV→Env
 |_,[]=>[]
 |i,x::r=>(i,x)::kO (i+1) r
theorem o5:∀ (l:List AV) (j i:Nat),(kO j l).get i=if j≤i then l.getD (i-j) .any else .any
  | [],j,i=>by simp[kO,Env.get]
  | x::r,j,i=>by
    simp only[kO,Env.get,o5 r (j+1) i]
    by_cases h:i=j
    · subst h;simp
    · rw[if_neg h]
      by_cases h2:j≤i
      · rw[if_pos h2,if_pos (by omega)]
        obtain⟨d,rfl⟩:∃d,i=j+1+d:=⟨i-(j+1),by omega⟩
        rw[show j+1+d-(j+1)=d by omega,show j+1+d-j=d+1 by omega]
        rfl
      · rw[if_neg h2,if_neg (by omega)]
theorem ym {g:Gh} {a b:AV} {u v:Value} (h1:R g a u) (h2:R g b v):R g (.bK [a,b]) (.tuple #[u,v]):=
 .bK rfl fun i c x hc hx=>by
  match i with
  |0=>simp at hc hx;subst hc;subst hx;exact h1
  |1=>simp at hc hx;subst hc;subst hx;exact h2
  |i+2=>simp at hc
theorem yr {g:Gh} {n:Nat} {args:List AV} {vs:Array Value} (hsz:args.length≤n) (hl:args.length=vs.size) (hr:∀ (i:Nat) (x:AV) (v:Value),args[i]? =some x→vs[i]? =some v→R g x v):
  RE g n (kO 0 args) (vs++Array.replicate (n-vs.size) undef):=by
 refine⟨by simp;omega,fun i=>?_⟩
 rw[o5,if_pos (Nat.zero_le _),Nat.sub_zero,Array.getD_eq_getD_getElem?,Array.getElem?_append]
 by_cases hi:i<vs.size
 ·rw[if_pos hi]
  have h2:args[i]? =some (args.getD i .any):=by simp[List.getD_eq_getElem?_getD,List.getElem?_eq_getElem (show i<args.length by omega)]
  exact hr i _ _ h2 (by simp[Array.getElem?_eq_getElem hi])
 ·have:args.getD i .any= .any:=by simp[List.getD_eq_getElem?_getD,List.getElem?_eq_none (show args.length≤i by omega)]
  rw[this]
  exact .any _
end Go.Kern

namespace Go.Kern
open Go.RowKit
theorem jT.lt {g:Gh} {w:World} {o b:Nat} {x:Ob} (h:jT g w o b x):b<w.heap.size:=by
 cases x with
 |arr e rows=>obtain⟨sz,cells,_,hh,_⟩:=h;exact(Array.getElem?_eq_some_iff.1 hh).1
 |tip n e sz=>obtain⟨cap,cur,_,_,hh,_⟩:=h;exact(Array.getElem?_eq_some_iff.1 hh).1
 |map es=>obtain⟨en,ck,_,hh,_⟩:=h;exact(Array.getElem?_eq_some_iff.1 hh).1
 |mapR es en ck=>obtain⟨_,hh,_⟩:=h;exact(Array.getElem?_eq_some_iff.1 hh).1
 |iter m en ck sn=>obtain⟨_,bm,_,hh⟩:=h;exact(Array.getElem?_eq_some_iff.1 hh).1
 |iterN=>obtain⟨_,a,b,c,hh⟩:=h;exact(Array.getElem?_eq_some_iff.1 hh).1
theorem jT.iy {g g':Gh} {w w':World} {o b:Nat} {x:Ob} (h:jT g w o b x) (hle:g.Le g') (hw:w'.heap[b]? =w.heap[b]?) (hi:∀off,g'.bf b off=g.bf b off)
    (ht:∀m,g'.tipv o m=g.tipv o m):jT g' w' o b x:=by
  cases x with
  | arr e rows=>
    obtain⟨sz,cells,⟨n,h1,h1'⟩,h2,h3,h4,h5,h6⟩:=h
    exact⟨sz,cells,⟨n,hle.loc _ _ h1,h1'⟩,hw.trans h2,h3,h4,fun i c v hc hv=>(h5 i c v hc hv).le hle,fun off=>(hi off).trans (h6 off)⟩
  | tip n e sz=>
    obtain⟨cap,cur,h1,h2,h3,h4,h5,h6,h7⟩:=h
    exact⟨cap,cur,hle.tipv _ _ _ h1,fun m hm=>(ht m).trans (h2 m hm),hw.trans h3,h4,h5,h6,fun off ho=>(hi off).trans (h7 off ho)⟩
  | map es=>
    obtain⟨en,ck,h1,h2,h3,h4,h5⟩:=h
    exact⟨en,ck,hle.loc _ _ h1,hw.trans h2,h3,fun i kv e hk he=>⟨(h4 i kv e hk he).1.le hle,(h4 i kv e hk he).2.le hle⟩,h5⟩
  | mapR es en ck=>
    obtain⟨h1,h2,h3,h4,h5⟩:=h
    exact⟨hle.loc _ _ h1,hw.trans h2,h3,fun i kv e hk he=>⟨(h4 i kv e hk he).1.le hle,(h4 i kv e hk he).2.le hle⟩,h5⟩
  | iter m en ck sn=>
    obtain⟨h1,bm,h2,h3⟩:=h
    exact⟨hle.loc _ _ h1,bm,hle.loc _ _ h2,hw.trans h3⟩
  | iterN=>
    obtain⟨h1,a,b,c,h2⟩:=h
    exact⟨hle.loc _ _ h1,a,b,c,hw.trans h2⟩
theorem ay.nh {g:Gh} {w:World} {s:aa} (h:ay g w s) {b o:Nat} {v:Value} (hi:g.bf b o=some v):b<w.heap.size:=
 World.block_lt_of_cell? w ⟨b,o,none⟩ (h.bf b o v hi)
theorem ay.drew {g:Gh} {w:World} {s:aa} (h:ay g w s):ay g w.drew s:=
 ⟨h.below.drew,h.bf,h.loc,h.fresh,h.res,h.obj⟩
theorem ay.grow {g:Gh} {w w':World} {s:aa} (h:ay g w s) (hb:Below w.heap.size w w'):ay g w' s:=by
 have hsz:=h.below.size
 have heq:∀k,k<w.heap.size→w'.heap[k]? =w.heap[k]? :=hb.block
 refine⟨h.below.trans (hb.mono hsz),fun b o v hi=>?_,fun o b sz n hl=>⟨(h.loc o b sz n hl).1,Nat.lt_of_lt_of_le (h.loc o b sz n hl).2 hb.size⟩,h.fresh,h.res,?_⟩
 ·exact(World.cell?_of_block (heq b (h.nh hi))).trans (h.bf b o v hi)
 ·obtain⟨blk,h1,h2⟩:=h.obj
  exact⟨blk,fun o x hx=>⟨(h1 o x hx).1,(h1 o x hx).2.iy (.refl g) (heq _ (h1 o x hx).2.lt) (fun _=>rfl) (fun _=>rfl)⟩,h2⟩
def Gh.bp (g:Gh) (b:Nat) (cs:Array Value) (m:Nat):Gh:= {g with bf:=fun b' o=>if b'=b then(if o<m then cs[o]? else none) else g.bf b' o}
theorem Gh.jn {g:Gh} {w:World} {s:aa} (h:ay g w s) (cs:Array Value) (m:Nat):g.Le (g.bp w.heap.size cs m):=
 ⟨rfl,fun b o v hi=>by
  have:=h.nh hi
  simp only[Gh.bp]
  rw[if_neg (by omega)];exact hi,fun _ _ h=>h,fun _ _ _ h=>h,rfl⟩
theorem ay.bp {g:Gh} {w w':World} {s:aa} (h:ay g w s) (hb:Below w.heap.size w w') (cs:Array Value) (m:Nat)
    (hc:∀o v,o<m→cs[o]? =some v→w'.cell? ⟨w.heap.size,o,none⟩=some v):ay (g.bp w.heap.size cs m) w' s:=by
  have h':=h.grow hb
  have hle:=Gh.jn h cs m
  refine⟨h'.below,fun b o v hi=>?_,h'.loc,h'.fresh,h'.res,?_⟩
  · simp only[Gh.bp] at hi
    split at hi
    · rename_i e
      subst e
      split at hi
      · exact hc o v (by assumption) hi
      · cases hi
    · exact h'.bf b o v hi
  · obtain⟨blk,h1,h2⟩:=h'.obj
    refine⟨blk,fun o x hx=>⟨(h1 o x hx).1,?_⟩,h2⟩
    obtain⟨blk0,h10,h20⟩:=h.obj
    have:=(h1 o x hx).2
    by_cases hlt:blk o<w.heap.size
    · exact this.iy hle rfl (fun off=>by simp only[Gh.bp];rw[if_neg (by omega)]) (fun _=>rfl)
    ·
      exfalso
      cases x with
      |arr e rows=>obtain⟨sz,cells,⟨n,hl,_⟩,_⟩:=this;exact hlt (h.loc _ _ _ _ hl).2
      |map es=>obtain⟨en,ck,hl,_⟩:=this;exact hlt (h.loc _ _ _ _ hl).2
      |mapR es en ck=>exact hlt (h.loc _ _ _ _ this.1).2
      |iter m en ck sn=>exact hlt (h.loc _ _ _ _ this.1).2
      |iterN=>exact hlt (h.loc _ _ _ _ this.1).2
      | tip n e sz=>
        obtain⟨cap,cur,ht,_⟩:=this
        have h10':=(h10 o _ hx).2
        obtain⟨cap',cur',ht',_,hh',_⟩:=h10'
        rw[ht'] at ht
        injection ht with ht
        injection ht with ht
        injection ht with ht
        injection ht with ht
        have:=(Array.getElem?_eq_some_iff.1 hh').1
        omega
def Gh.bj (g:Gh) (o:Nat) (x:Nat×Nat×Nat):Gh:= {g with loc:=fun p=>if p=o then some x else g.loc p}
theorem Gh.bx {g:Gh} {o:Nat} (x:Nat×Nat×Nat) (h:g.loc o=none):g.Le (g.bj o x):=
 ⟨rfl,fun _ _ _ h=>h,fun p y hp=>by
  simp only[Gh.bj]
  rw[if_neg (fun e=>by subst e;rw[h] at hp;cases hp)];exact hp,fun _ _ _ h=>h,rfl⟩
theorem ay.gh {g:Gh} {w w':World} {s:aa} (h:ay g w s) (hb:Below w.heap.size w w') (hs:w.heap.size<w'.heap.size) (o:Nat) (ho:g.loc o=none) (hso:s o=none) (ht:∀m,g.tipv o m=none) (hnr:¬g.res o)
  (x:Ob) (sz n:Nat) (hx:∀g':Gh,g.Le g'→g'.loc o=some (w.heap.size,sz,n)→(∀off,g'.bf w.heap.size off=none)→jT g' w' o w.heap.size x):
  ay (g.bj o (w.heap.size,sz,n)) w' (s.put o x):=by
 have h':=h.grow hb
 have hle:=Gh.bx (g:=g) (w.heap.size,sz,n) ho
 refine⟨h'.below,h'.bf,fun p b sz' n' hl=>?_,?_,fun p hp=>?_,?_⟩
 ·simp only[Gh.bj] at hl
  split at hl
  ·injection hl with hl
   injection hl with hl _
   subst hl
   exact⟨h.below.size,hs⟩
  ·exact h'.loc p b sz' n' hl
 ·obtain⟨N,hN⟩:=h'.fresh
  refine⟨max N (o+1),fun p hp=>?_⟩
  have hpo:p≠o:=by omega
  have:=hN p (by omega)
  refine⟨by simp only[Gh.bj];rw[if_neg hpo];exact this.1,this.2.1,by simp only[aa.put];rw[if_neg hpo];exact this.2.2.1,this.2.2.2⟩
 ·have hpo:p≠o:=fun e=>hnr (by rw[←e];exact hp)
  have:=h'.res p hp
  exact⟨by simp only[Gh.bj];rw[if_neg hpo];exact this.1,this.2.1,by simp only[aa.put];rw[if_neg hpo];exact this.2.2⟩
 ·obtain⟨blk,h1,h2⟩:=h.obj
  refine⟨fun p=>if p=o then w.heap.size else blk p,fun p y hp=>?_,fun p q y z hp hq he=>?_⟩
  ·simp only[aa.put] at hp
   by_cases hpo:p=o
   ·subst hpo
    rw[if_pos rfl] at hp
    injection hp with hp
    subst hp
    simp only[if_pos]
    refine⟨h.below.size,hx _ hle (by simp[Gh.bj]) (fun off=>?_)⟩
    cases hi:(g.bj p (w.heap.size,sz,n)).bf w.heap.size off with
    |none=>rfl
    |some v=>exact absurd (h.nh hi) (Nat.lt_irrefl _)
   ·rw[if_neg hpo] at hp
    simp only[if_neg hpo]
    exact⟨(h1 p y hp).1,(h1 p y hp).2.iy hle (hb.block _ (h1 p y hp).2.lt) (fun _=>rfl) (fun _=>rfl)⟩
  ·simp only[aa.put] at hp hq
   by_cases hpo:p=o<;>by_cases hqo:q=o
   ·rw[hpo,hqo]
   ·rw[if_pos hpo] at hp;rw[if_neg hqo] at hq
    simp only[if_pos hpo,if_neg hqo] at he
    exact absurd (h1 q z hq).2.lt (by omega)
   ·rw[if_neg hpo] at hp;rw[if_pos hqo] at hq
    simp only[if_neg hpo,if_pos hqo] at he
    exact absurd (h1 p y hp).2.lt (by omega)
   ·rw[if_neg hpo] at hp;rw[if_neg hqo] at hq
    simp only[if_neg hpo,if_neg hqo] at he
    exact h2 p q y z hp hq he
theorem ay.write {g:Gh} {w w':World} {s:aa} (h:ay g w s) {o b:Nat} {x y:Ob} (hx:s o=some x) (hb:∀blk:Nat→Nat,jT g w o (blk o) x→blk o=b)
  (hw:∀k,k≠b→w'.heap[k]? =w.heap[k]?) (hos:w'.os=w.os) (htp:w'.tape=w.tape) (hout:w'.output=w.output) (hsz:w'.heap.size=w.heap.size)
  (hi:∀off,g.bf b off=none) (hy:jT g w' o b y):ay g w' (s.put o y):=by
 obtain⟨blk,h1,h2⟩:=h.obj
 have hbo:blk o=b:=hb blk (h1 o x hx).2
 have hge:g.w0.heap.size≤b:=by rw[←hbo];exact(h1 o x hx).1
 refine⟨h.below.trans ⟨hos,htp,hout,by omega,fun k hk=>hw k (by omega)⟩,fun b' off v hv=>?_,fun p b' sz n hl=>⟨(h.loc p b' sz n hl).1,by rw[hsz];exact(h.loc p b' sz n hl).2⟩,?_,fun p hp=>?_,?_⟩
 ·have hne:b'≠b:=fun e=>by subst e;rw[hi off] at hv;cases hv
  exact(World.cell?_of_block (a:=⟨b',off,none⟩) (hw b' hne)).trans (h.bf b' off v hv)
 ·obtain⟨N,hN⟩:=h.fresh
  refine⟨N,fun p hp=>⟨(hN p hp).1,(hN p hp).2.1,?_,(hN p hp).2.2.2⟩⟩
  simp only[aa.put]
  by_cases hpo:p=o
  ·subst hpo;rw[(hN p hp).2.2.1] at hx;cases hx
  ·rw[if_neg hpo];exact(hN p hp).2.2.1
 ·have hr:=h.res p hp
  refine⟨hr.1,hr.2.1,?_⟩
  simp only[aa.put]
  by_cases hpo:p=o
  ·subst hpo;rw[hr.2.2] at hx;cases hx
  ·rw[if_neg hpo];exact hr.2.2
 ·refine⟨blk,fun p z hp=>?_,fun p q u v hp hq he=>?_⟩
  ·simp only[aa.put] at hp
   by_cases hpo:p=o
   ·subst hpo;rw[if_pos rfl] at hp;injection hp with hp;subst hp
    rw[hbo];exact⟨hge,hy⟩
   ·rw[if_neg hpo] at hp
    have hne:blk p≠b:=fun e=>hpo (h2 p o z x hp hx (by rw[e,hbo]))
    exact⟨(h1 p z hp).1,(h1 p z hp).2.iy (.refl g) (hw _ hne) (fun _=>rfl) (fun _=>rfl)⟩
  ·have hp':∃u',s p=some u':=by
    simp only[aa.put] at hp
    by_cases hpo:p=o
    ·subst hpo;exact⟨x,hx⟩
    ·rw[if_neg hpo] at hp;exact⟨u,hp⟩
   have hq':∃u',s q=some u':=by
    simp only[aa.put] at hq
    by_cases hqo:q=o
    ·subst hqo;exact⟨x,hx⟩
    ·rw[if_neg hqo] at hq;exact⟨v,hq⟩
   exact h2 p q _ _ hp'.choose_spec hq'.choose_spec he
theorem ay.rename {g:Gh} {w:World} {s:aa} (h:ay g w s) {o o':Nat} {et:TypeId} {rows:List AV} {b sz n:Nat} (hy:s o=some (.arr et rows)) (hl:g.loc o=some (b,sz,n)) (hlo:g.loc o'=none) (hso:s o'=none) (ht:∀m,g.tipv o' m=none) (hnr:¬g.res o'):
  ay (g.bj o' (b,sz,n)) w ((s.drop o).put o' (.arr et rows)):=by
 have hle:=Gh.bx (g:=g) (b,sz,n) hlo
 have hne:o'≠o:=fun e=>by rw[e,hl] at hlo;cases hlo
 have hput:∀p,((s.drop o).put o' (.arr et rows)) p=if p=o' then some (.arr et rows) else if p=o then none else s p:=fun p=>rfl
 refine⟨h.below,h.bf,fun p b' sz' n' hp=>?_,?_,fun p hp=>?_,?_⟩
 ·simp only[Gh.bj] at hp
  split at hp
  ·injection hp with hp
   injection hp with hp _
   subst hp
   exact h.loc o _ _ _ hl
  ·exact h.loc p b' sz' n' hp
 ·obtain⟨N,hN⟩:=h.fresh
  refine⟨max N (o'+1),fun p hp=>?_⟩
  have hpo:p≠o':=by omega
  have:=hN p (by omega)
  refine⟨by simp only[Gh.bj];rw[if_neg hpo];exact this.1,this.2.1,?_,this.2.2.2⟩
  rw[hput,if_neg hpo,this.2.2.1];simp
 ·have hpo:p≠o':=fun e=>hnr (by rw[←e];exact hp)
  have:=h.res p hp
  refine⟨by simp only[Gh.bj];rw[if_neg hpo];exact this.1,this.2.1,?_⟩
  rw[hput,if_neg hpo,this.2.2];simp
 ·obtain⟨blk,h1,h2⟩:=h.obj
  have hbo:blk o=b:=by
   obtain⟨_,sz',cells,⟨n',hl',_⟩,_⟩:=h1 o _ hy
   rw[hl] at hl'
   injection hl' with hl'
   injection hl' with hl' _
   exact hl'.symm
  refine⟨fun p=>if p=o' then b else blk p,fun p y hp=>?_,fun p q y z hp hq he=>?_⟩
  ·rw[hput] at hp
   by_cases hpo:p=o'
   ·subst hpo
    rw[if_pos rfl] at hp
    injection hp with hp
    subst hp
    simp only[if_pos]
    obtain⟨hB,sz',cells,⟨n',hl',h3⟩,h4,h5,h6,h7,h8⟩:=h1 o _ hy
    rw[hl] at hl'
    injection hl' with hl'
    injection hl' with e1 e2
    injection e2 with e2 e3
    subst e2;subst e3
    rw[hbo] at hB h4 h8
    exact⟨hB,sz,cells,⟨n,by simp[Gh.bj],h3⟩,h4,h5,h6,fun i c v a b=>(h7 i c v a b).le hle,h8⟩
   ·rw[if_neg hpo] at hp
    by_cases hpo2:p=o
    ·rw[if_pos hpo2] at hp;cases hp
    ·rw[if_neg hpo2] at hp
     simp only[if_neg hpo]
     exact⟨(h1 p y hp).1,(h1 p y hp).2.iy hle rfl (fun _=>rfl) (fun _=>rfl)⟩
  ·rw[hput] at hp hq
   by_cases hpo:p=o'<;>by_cases hqo:q=o'
   ·rw[hpo,hqo]
   ·rw[if_neg hqo] at hq
    simp only[if_pos hpo,if_neg hqo] at he
    by_cases hq2:q=o
    ·rw[if_pos hq2] at hq;cases hq
    ·rw[if_neg hq2] at hq
     exact absurd (h2 q o z _ hq hy (by rw[hbo,he])) hq2
   ·rw[if_neg hpo] at hp
    simp only[if_neg hpo,if_pos hqo] at he
    by_cases hp2:p=o
    ·rw[if_pos hp2] at hp;cases hp
    ·rw[if_neg hp2] at hp
     exact absurd (h2 p o y _ hp hy (by rw[hbo,he])) hp2
   ·rw[if_neg hpo] at hp
    rw[if_neg hqo] at hq
    simp only[if_neg hpo,if_neg hqo] at he
    by_cases hp2:p=o
    ·rw[if_pos hp2] at hp;cases hp
    ·by_cases hq2:q=o
     ·rw[if_pos hq2] at hq;cases hq
     ·rw[if_neg hp2] at hp
      rw[if_neg hq2] at hq
      exact h2 p q y z hp hq he
theorem ay.new {g:Gh} {w:World} {s:aa} (h:ay g w s):∃o,s o=none∧g.loc o=none∧(∀m,g.tipv o m=none)∧¬g.res o:=by
 obtain⟨N,hN⟩:=h.fresh
 exact⟨N,(hN N (Nat.le_refl _)).2.2.1,(hN N (Nat.le_refl _)).1,(hN N (Nat.le_refl _)).2.1,(hN N (Nat.le_refl _)).2.2.2⟩
end Go.Kern

namespace Go.Kern
open Go.RowKit
inductive PK where
 |bool|int (k:IntKind)|str
 deriving DecidableEq
inductive TK where
 |bool|int (k:IntKind)|str|slice|array (n:Nat)|struct|map|ptr|func|iface|other|uptr
 |wide (ks:List PK)
 deriving DecidableEq
def aF:TypeDesc→TK
 | .bool=> .bool
 | .int k=> .int k
 | .string=> .str
 | .slice _=> .slice
 | .array n _=> .array n
 | .struct _=> .struct
 | .map .. => .map
 | .pointer _=> .ptr
 | .func .. => .func
 | .interface _=> .iface
 | .unsafePointer=> .uptr
 |_=> .other
def TK.agg:TK→Bool
 | .struct| .array _=>true
 |_=>false
def lG (P:Program) (g:TypeId→Option (List PK)):Nat→List Field→Option (List PK)
  |_,[]=>some []
  | off,f::fs=>if f.name= "_" ∨f.offset≠off then none else match g f.type with
    |some ks=>if P.cellsOf f.type=ks.length then(lG P g (off+ks.length) fs).map (ks++ ·) else none
    |none=>none
def b9 (P:Program):Nat→TypeId→Option (List PK)
  |0,_=>none
  | m+1,t=>match P.underlying t with
    |some .bool=>some [.bool]
    |some (.int k)=>some [.int k]
    |some .string=>some [.str]
    | some (.array n e)=>match b9 P m e with
      |some ks=>if P.cellsOf e=ks.length then some (List.replicate n ks).flatten else none
      |none=>none
    |some (.struct fs)=>if P.stoodInHeld t=true then none else lG P (b9 P m) 0 fs.toList
    |_=>none
def uB (P:Program) (t:TypeId):TK:=
  match P.underlying t with
  | some (.array n e)=>if P.eqGuardType P.depth t=true then .array n else match b9 P 6 t with
    |some ks=> .wide ks
    |none=> .array n
  | some (.struct fs)=>if P.eqGuardType P.depth t=true then .struct else match b9 P 6 t with
    |some ks=> .wide ks
    |none=> .struct
  |some d=>aF d
  |none=> .other
structure Ty where
 ok:Bool
 kind:TK
 size:Nat
 bytes:Nat
 elem:TypeId
 key:TypeId
 fields:List (Nat×Nat×Bool×TypeId)
 zero:Option AV
 kk:TK
def cf (P:Program) (f:Field):Nat×Nat×Bool×TypeId:=
 match P.info? f.type,P.underlying f.type with
 |some i,some d=>(f.offset,i.size,(aF d).agg,f.type)
 |_,_=>(f.offset,0,false,f.type)
def ae (P:Program) (t:TypeId):Ty:=
  match P.info? t,P.underlying t with
  | some i,some d=>
    { ok:=true,kind:=aF d,size:=i.size,bytes:=i.bytes,
      elem:=(match d with| .slice e=>e| .array _ e=>e| .map _ e=>e| .pointer e=>e|_=>0),
      key:=(match d with| .map k _=>k|_=>0),
      fields:=(match d with| .struct fs=>fs.toList.map (cf P)|_=>[]),
      zero:=i.zero.map ofConst,kk:=uB P t}
  |_,_=> {ok:=false,kind:= .other,size:=0,bytes:=0,elem:=0,key:=0,fields:=[],zero:=none,kk:= .other}
section
variable {P:Program} {t:TypeId}
theorem fu (h:(ae P t).ok=true):∃i d,P.info? t=some i∧P.underlying t=some d∧ae P t=
    { ok:=true,kind:=aF d,size:=i.size,bytes:=i.bytes,
      elem:=(match d with| .slice e=>e| .array _ e=>e| .map _ e=>e| .pointer e=>e|_=>0),
      key:=(match d with| .map k _=>k|_=>0),
      fields:=(match d with| .struct fs=>fs.toList.map (cf P)|_=>[]),
      zero:=i.zero.map ofConst,kk:=uB P t}:=by
  unfold ae at h ⊢
  cases h1:P.info? t with
  |none=>simp[h1] at h
  | some i=>
    cases h2:P.underlying t with
    |none=>simp[h1,h2] at h
    |some d=>exact⟨i,d,rfl,rfl,rfl⟩
theorem mQ (h:(ae P t).ok=true) (w:World):(isAgg t).run P w= .ok (ae P t).kind.agg w:=by
 obtain⟨i,d,h1,h2,h3⟩:=fu h
 rw[h3]
 cases d<;>simp[isAgg,run_underlying h2,aF,TK.agg]
theorem c7 (h:(ae P t).ok=true) (w:World):(sizeOf t).run P w= .ok (ae P t).size w:=by
 obtain⟨i,d,h1,h2,h3⟩:=fu h
 rw[h3]
 simp[sizeOf,typeInfo,h1]
theorem gm {z:AV} (h:(ae P t).ok=true) (hz:(ae P t).zero=some z) (w:World):∃v,(zeroValue t).run P w= .ok v w∧(∀g,R g z v)∧z=ofConst v:=by
 obtain⟨i,d,h1,h2,h3⟩:=fu h
 rw[h3] at hz
 obtain⟨v,hv,rfl⟩:=Option.map_eq_some_iff.1 hz
 exact⟨v,by simp[zeroValue,typeInfo,h1,hv],fun g=>mD g v,rfl⟩
theorem bT (h:(ae P t).kind= .slice):P.underlying t=some (.slice (ae P t).elem):=by
 by_cases hok:(ae P t).ok=true
 ·obtain⟨i,d,h1,h2,h3⟩:=fu hok
  rw[h3] at h ⊢
  cases d<;>simp[aF] at h
  exact h2
 ·unfold ae at h hok
  cases h1:P.info? t<;>cases h2:P.underlying t<;>simp[h1,h2] at h hok
theorem bC {d:TK} (h:(ae P t).kind=d) (hd:d≠ .other):∃i u,P.info? t=some i∧P.underlying t=some u∧aF u=d:=by
 by_cases hok:(ae P t).ok=true
 ·obtain⟨i,u,h1,h2,h3⟩:=fu hok
  rw[h3] at h
  exact⟨i,u,h1,h2,h⟩
 ·exfalso
  unfold ae at h hok
  cases h1:P.info? t<;>cases h2:P.underlying t<;>simp[h1,h2] at h hok<;>exact hd h.symm
end
abbrev KK:=AV→aa→Prop
def lS (T:Ty) (cs:List AV) (off:Nat) (k:AV→Prop):Prop:=
 T.ok=true∧(if T.kind.agg=true then off+T.size≤cs.length∧k (.agg ((cs.drop off).take T.size))
  else match cs[off]? with|some c=>k c|none=>False)
def behind (σ:aa) (p:AV) (k:List AV→Nat→Prop):Prop:=
  match p with
  | .ip x off=>k x.cells off
  | .ptr o i off=>match σ o with
    | some (.arr _ rows)=>match rows[i]? with
      |some x=>k x.cells off
      |none=>False
    |_=>False
  |_=>False
def oneOf (vs:List AV) (x:AV):AV:=
 match vs with
 | [v]=>v
 |_=>x
def dY (x:AV) (off:Nat) (vs:List AV):AV:=
 match x with
 | .agg cs=> .agg (cs.take off++vs++cs.drop (off+vs.length))
 |_=>oneOf vs x
def pC (T:Ty) (σ:aa) (p v:AV) (k:aa→Prop):Prop:=
  match p with
  | .ptr o i off=>match σ o with
    | some (.arr e rows)=>match rows[i]? with
      |some x=>T.ok=true∧v.known=true∧v.cells.length=T.size∧v.cells.all AV.one=true∧off+v.cells.length≤x.cells.length∧
          k (σ.put o (.arr e (rows.set i (dY x off v.cells))))
      |none=>False
    |_=>False
  |_=>False
def Cd (mu:Bool) (t:TypeId) (x:AV) (σ:aa) (k:KK):Prop:=
 x.known=true∧(if mu=true then ∀o,σ o=none→k (.ptr o 0 0) (σ.put o (.arr t [x])) else k (.ip x 0) σ)
def yd (t:TypeId) (T:Ty) (σ:aa) (k:KK):Prop:=
 T.ok=true∧match T.zero with
  |some z=>z.known=true∧∀o,σ o=none→k (.ptr o 0 0) (σ.put o (.arr t [z]))
  |none=>False
def nB (place:Nat→Option (Nat×Nat)):List AV→List (Nat×AV)→Option (List AV)
  |cs,[]=>some cs
  | cs,(i,v)::r=>match place i with
    |none=>none
    |some (off,size)=>if v.known=true∧v.cells.length=size∧off+v.cells.length≤cs.length then nB place (cs.take off++v.cells++cs.drop (off+v.cells.length)) r else none
def tU (P:Program) (T:Ty) (parts:List (Nat×AV)) (k:AV→Prop):Prop:=
  T.ok=true∧(match T.kind with
    | .struct=>T.fields.all (fun f=>decide (f.2.1≠0))=true∧(match T.zero with
      | some (.agg zs)=>(match nB (fun i=>(T.fields[i]?).map fun f=>(f.1,f.2.1)) zs parts with
        |some cs=>k (.agg cs)
        |none=>False)
      |_=>False)
    | .array _=>(ae P T.elem).ok=true∧(match T.zero with
      | some (.agg zs)=>(match nB (fun i=>some (i*(ae P T.elem).size,(ae P T.elem).size)) zs parts with
        |some cs=>k (.agg cs)
        |none=>False)
      |_=>False)
    |_=>False)
def gw (sz:Nat):Nat→List (Nat×AV)→Bool
 |_,[]=>true
 |i,(j,v)::r=>decide (j=i)&&v.known&&decide (v.cells.length=sz)&&gw sz (i+1) r
def iK (P:Program) (T:Ty) (n:Nat) (parts:List (Nat×AV)) (k:AV→Prop):Prop:=
 T.kind= .slice∧(ae P T.elem).ok=true∧parts.length=n∧n*(ae P T.elem).size≤16777216∧0<(ae P T.elem).size∧(ae P T.elem).zero.isSome=true∧gw (ae P T.elem).size 0 parts=true∧k (.sl .full (parts.map (·.2)))
def fX (P:Program) (T:Ty) (n:Nat) (parts:List (Nat×AV)) (σ:aa) (nu:Nat) (k:KK):Prop:=
 T.kind= .slice∧(ae P T.elem).ok=true∧parts.length=n∧n*(ae P T.elem).size≤16777216∧0<(ae P T.elem).size∧(ae P T.elem).zero.isSome=true∧gw (ae P T.elem).size 0 parts=true∧
  k (.ms nu (ae P T.elem).size 0 n) (σ.put nu (.arr T.elem (parts.map (·.2))))
def fY (P:Program) (T:Ty) (n:Nat) (parts:List (Nat×AV)) (mu:Bool) (σ:aa) (k:KK):Prop:=
 if mu=true then ∀o,σ o=none→fX P T n parts σ o k else iK P T n parts fun c=>k c σ
def SK.isNil:SK→Bool
 | .nil=>true
 |_=>false
def gE (kind:TK) (x:AV):Option Bool:=
 match kind,x with
 | .slice,.sl k _=>some k.isNil
 | .slice,.ms .. =>some false
 | .ptr,.nilp=>some true
 | .ptr,.ip .. =>some false
 | .ptr,.ptr .. =>some false
 | .map,.map _=>some false
 | .map,.nilmap=>some true
 | .func,.fn .. =>some false
 | .func,.nilfn=>some true
 |_,_=>none
def qc (op:BinOp) (i:IntKind) (a b:Int) (k:AV→Prop):Prop:=
 match op with
 | .add=>k (.int i (i.wrap (a+b)))
 | .sub=>k (.int i (i.wrap (a-b)))
 | .mul=>k (.int i (i.wrap (a*b)))
 | .quo=>b≠0∧k (.int i (i.wrap (a.tdiv b)))
 | .rem=>b≠0∧k (.int i (a.tmod b))
 | .eql=>k (.bool (decide (a=b)))
 | .neq=>k (.bool (!decide (a=b)))
 | .lss=>k (.bool (decide (a<b)))
 | .leq=>k (.bool (decide (a≤b)))
 | .gtr=>k (.bool (decide (b<a)))
 | .geq=>k (.bool (decide (b≤a)))
 | .and=>k (.int i (bits .and i a b))
 | .or=>k (.int i (bits .or i a b))
 | .xor=>k (.int i (bits .xor i a b))
 | .andNot=>k (.int i (bits .andNot i a b))
 |_=>False
def pB (op:BinOp) (a b:ByteArray) (k:AV→Prop):Prop:=
 match op with
 | .add=>a.size+b.size≤9223372036854775807∧k (.str (a++b))
 | .eql=>k (.bool (decide (a=b)))
 | .neq=>k (.bool (!decide (a=b)))
 | .lss=>k (.bool (Op.bytesLess a.toList b.toList))
 | .gtr=>k (.bool (!(Op.bytesLess a.toList b.toList||decide (a=b))))
 | .leq=>k (.bool (Op.bytesLess a.toList b.toList||decide (a=b)))
 | .geq=>k (.bool (!Op.bytesLess a.toList b.toList))
 |_=>False
def pT (kind:TK) (op:BinOp) (x y:AV) (k:AV→Prop):Prop:=
  match gE kind x,gE kind y with
  | some a,some b=>(a=true∨b=true)∧(match op with
    | .eql=>k (.bool (a&&b))
    | .neq=>k (.bool (!(a&&b)))
    |_=>False)
  |_,_=>False
def fH:PK→AV→Bool
 | .int i,.int j _=>decide (i=j)
 | .str,.str _=>true
 | .bool,.bool _=>true
 |_,_=>false
def bL:List PK→List AV→Bool
 | [],[]=>true
 |k::ks,a::as=>fH k a&&bL ks as
 |_,_=>false
def pb (a b:AV):Bool:=
 match a,b with
 | .int _ x,.int _ y=>decide (x=y)
 | .str x,.str y=>decide (x=y)
 | .bool x,.bool y=>x==y
 |_,_=>false
def dL:List AV→List AV→Bool
 | [],[]=>true
 |a::as,b::bs=>pb a b&&dL as bs
 |_,_=>false
def aH (K:TK) (a:AV):Bool:=
 match K,a with
 | .wide ks,.agg cs=>bL ks cs
 | .int i,.int j _=>decide (i=j)
 | .str,.str _=>true
 | .bool,.bool _=>true
 |_,_=>false
def dv (a b:AV):Bool:=
 match a,b with
 | .int _ x,.int _ y=>decide (x=y)
 | .str x,.str y=>decide (x=y)
 | .bool x,.bool y=>x==y
 | .agg xs,.agg ys=>dL xs ys
 |_,_=>false
def AP (P:Program) (op:BinOp) (t:TypeId) (x y:AV) (k:AV→Prop):Prop:=
  match x,y with
  | .int i a,.int j b=>(match op with
    | .shl=>0≤b∧k (.int i (i.wrap (a*2^(min b.toNat i.bits))))
    | .shr=>0≤b∧k (.int i (a.fdiv (2^(min b.toNat i.bits))))
    |_=>i=j∧qc op i a b k)
  | .str a,.str b=>pB op a b k
  | .bool a,.bool b=>(ae P t).kind= .bool∧(match op with
    | .eql=>k (.bool (a==b))
    | .neq=>k (.bool (!(a==b)))
    |_=>False)
  | .agg xs,.agg ys=>aH (ae P t).kk (.agg xs)=true∧aH (ae P t).kk (.agg ys)=true∧(match op with
    | .eql=>k (.bool (dL xs ys))
    | .neq=>k (.bool (!dL xs ys))
    |_=>False)
  | .ptr o i a,.ptr o' i' a'=>(ae P t).kind= .ptr∧(ae P t).ok=true∧(ae P (ae P t).elem).ok=true∧o=o'∧i=i'∧a=a'∧(match op with
    | .eql=>k (.bool true)
    | .neq=>k (.bool false)
    |_=>False)
  |x,y=>pT (ae P t).kind op x y k
def Cm (op:UnOp) (x:AV) (k:AV→Prop):Prop:=
 match op,x with
 | .not,.bool b=>k (.bool (!b))
 | .neg,.int i a=>k (.int i (i.wrap (0-a)))
 |_,_=>False
def xO (S D:Ty) (x:AV) (k:AV→Prop):Prop:=
 S.ok=true∧D.ok=true∧match D.kind,x with
 | .int i,.int _ a=>k (.int i (i.wrap a))
 | .str,.str s=>k (.str s)
 |_,_=>False
def jK (S:Ty) (p:AV) (i:Nat) (k:AV→Prop):Prop:=
  S.kind= .struct∧match S.fields[i]? with
    | some (off,sz,_,_)=>sz≠0∧(match p with
      | .ip x o=>k (.ip x (o+off))
      | .ptr o r c=>k (.ptr o r (c+off))
      |_=>False)
    |none=>False
def tH (P:Program) (S:Ty) (x:AV) (i:Nat) (k:AV→Prop):Prop:=
 S.kind= .struct∧match S.fields[i]?,x with
  |some (off,_,_,t),.agg cs=>lS (ae P t) cs off k
  |_,_=>False
def gI (P:Program) (S:Ty) (x ix:AV) (k:AV→Prop):Prop:=
 match x,ix with
 | .sl _ xs,.int _ i=>S.kind= .slice∧(ae P S.elem).ok=true∧0≤i∧i<xs.length∧(xs.getD i.toNat .any).cells.length=(ae P S.elem).size∧k (.ip (xs.getD i.toNat .any) 0)
 | .ms o sz st n,.int _ i=>S.kind= .slice∧(ae P S.elem).ok=true∧0≤i∧i<n∧sz=(ae P S.elem).size∧k (.ptr o (st+i.toNat) 0)
 |_,_=>False
def qd (S:Ty) (x ix:AV) (k:AV→Prop):Prop:=
 match x,ix with
 | .str s,.int _ i=>S.kind= .str∧0≤i∧i<s.size∧k (.int .u8 ((s.data.getD i.toNat 0).toNat:Int))
 |_,_=>False
def y0 (T:Ty) (σ:aa) (x:AV) (k:AV→Prop):Prop:=
  match x with
  | .str s=>T.kind= .str∧k (.int .i64 s.size)
  | .sl _ xs=>T.kind= .slice∧k (.int .i64 xs.length)
  | .ms _ _ _ n=>T.kind= .slice∧k (.int .i64 n)
  | .nilmap=>T.kind= .map∧k (.int .i64 0)
  | .map o=>T.kind= .map∧(match σ o with
    |some (.map es)=>k (.int .i64 es.length)
    |_=>False)
  |_=>False
def oM (sz:Nat) (z:AV):Bool:=z.known&&decide (z.cells.length=sz)&&z.cells.all AV.one
def aO (sz:Nat) (l:List AV):Bool:=l.all (oM sz)
theorem sN (sz:Nat):aO sz []=true:=by unfold aO;exact List.all_nil
theorem qW (sz:Nat) (z:AV) (l:List AV):aO sz (z::l)=(oM sz z&&aO sz l):=by unfold aO;exact List.all_cons
theorem aZ (sz:Nat) (a b:List AV):aO sz (a++b)=(aO sz a&&aO sz b):=by unfold aO;exact List.all_append
theorem eF {sz:Nat} {l:List AV} (h:aO sz l=true):∀z∈l,z.known=true∧z.cells.length=sz∧z.cells.all AV.one=true:=by
 intro z hz
 have:=List.all_eq_true.1 h z hz
 simp only[oM,Bool.and_eq_true,decide_eq_true_eq] at this
 exact⟨this.1.1,this.1.2,this.2⟩
theorem jG {α:Type} (sz:Nat) (f:α→AV) (h:∀a,oM sz (f a)=true) (l:List α):aO sz (l.map f)=true:=by
 unfold aO
 rw[List.all_map]
 exact List.all_eq_true.2 fun a _=>h a
def SK.cut:SK→SK
 | .nil=> .nil
 |_=> .bf
def SK.jh:SK→SK
 | .nil=> .nil
 |_=> .full
def SK.fresh:SK→Bool
 | .nil=>true
 | .full=>true
 |_=>false
def df (d:Int):Option AV→Option Int
 |none=>some d
 |some (.int _ i)=>some i
 |_=>none
def pG (P:Program) (S:Ty) (x:AV) (lo hi mx:Option AV) (k:AV→Prop):Prop:=
  match x with
  | .str s=>S.kind= .str∧mx=none∧(match df 0 lo,df s.size hi with
    |some l,some h=>0≤l∧l≤h∧h≤s.size∧k (.str (s.extract l.toNat h.toNat))
    |_,_=>False)
  | .sl kd xs=>S.kind= .slice∧(ae P S.elem).ok=true∧aO (ae P S.elem).size xs=true∧(match df 0 lo,df xs.length hi,mx with
    |some l,some h,none=>0≤l∧l≤h∧h≤xs.length∧k (.sl kd.cut ((xs.take h.toNat).drop l.toNat))
    |some l,some h,some (.int _ m)=>hi.isSome=true∧0≤l∧l≤h∧h≤xs.length∧m=h∧k (.sl kd.jh ((xs.take h.toNat).drop l.toNat))
    |_,_,_=>False)
  | .ms o sz st n=>S.kind= .slice∧(ae P S.elem).ok=true∧sz=(ae P S.elem).size∧mx=none∧(match df 0 lo,df n hi with
    |some l,some h=>0≤l∧l≤h∧h≤n∧k (.ms o sz (st+l.toNat) (h.toNat-l.toNat))
    |_,_=>False)
  |_=>False
def kK (x:AV) (i:Nat) (k:AV→Prop):Prop:=
  match x with
  | .bK vs=>match vs[i]? with
    |some v=>k v
    |none=>False
  |_=>False
def dJ (K:TK) (es:List (AV×AV)):Bool:=es.all fun e=>aH K e.1
def dq (k v:AV):List (AV×AV)→List (AV×AV)
 | []=>[(k,v)]
 |e::r=>if dv k e.1=true then(k,v)::r else e::dq k v r
def nM (k:AV):List (AV×AV)→List (AV×AV)
 | []=>[]
 |e::r=>if dv k e.1=true then r else e::nM k r
def pZ (P:Program) (T:Ty) (σ:aa) (m key:AV) (ok:Bool) (k:AV→Prop):Prop:=
  T.kind= .map∧aH (ae P T.key).kk key=true∧(ae P T.elem).ok=true∧(match m with
    | .nilmap=>(match (ae P T.elem).zero with
      |some z=>k (if ok=true then .bK [z,.bool false] else z)
      |none=>False)
    | .map o=>(match σ o with
      | some (.map es)=>dJ (ae P T.key).kk es=true∧(match es.find? (fun e=>dv key e.1) with
        |some e=>k (if ok=true then .bK [e.2,.bool true] else e.2)
        | none=>(match (ae P T.elem).zero with
          |some z=>k (if ok=true then .bK [z,.bool false] else z)
          |none=>False))
      |_=>False)
    |_=>False)
def mj (P:Program) (T:Ty) (σ:aa) (m key v:AV) (k:aa→Prop):Prop:=
  T.kind= .map∧aH (ae P T.key).kk key=true∧(match m with
    | .map o=>(match σ o with
      |some (.map es)=>dJ (ae P T.key).kk es=true∧k (σ.put o (.map (dq key v es)))
      |_=>False)
    |_=>False)
def pY (P:Program) (T:Ty) (σ:aa) (m key:AV) (k:aa→Prop):Prop:=
  T.kind= .map∧aH (ae P T.key).kk key=true∧(match m with
    | .map o=>(match σ o with
      |some (.map es)=>dJ (ae P T.key).kk es=true∧k (σ.put o (.map (nM key es)))
      |_=>False)
    |_=>False)
def jJ (P:Program) (T:Ty) (l c:AV) (σ:aa) (k:KK):Prop:=
  T.kind= .slice∧(ae P T.elem).ok=true∧(match l,c with
    | .int _ n,.int _ m=>0≤n∧n≤m∧(ae P T.elem).bytes*m≤140737488355328∧m≤140737488355328∧0<(ae P T.elem).size∧(match (ae P T.elem).zero with
      | some z=>z.known=true∧z.cells.length=(ae P T.elem).size∧
        (if n=0 then ∀o,σ o=none→k (.sl (.tip o) []) (σ.put o (.tip 0 T.elem (ae P T.elem).size))
        else n=m∧∀o,σ o=none→k (.ms o (ae P T.elem).size 0 n.toNat) (σ.put o (.arr T.elem (List.replicate n.toNat z))))
      |none=>False)
    |_,_=>False)
def eD (T:Ty):Bool:=
 match T.zero with
 |some z=>decide (z.cells.length=T.size)
 |none=>false
def vV (kd:SK) (xs ys:List AV) (σ:aa) (e:TypeId) (sz:Nat) (k:KK):Prop:=
 match kd with
 | .nil=>∀o,σ o=none→k (.sl (.tip o) ys) (σ.put o (.tip ys.length e sz))
 | .full=>∀o,σ o=none→k (.sl (.tip o) (xs++ys)) (σ.put o (.tip (xs++ys).length e sz))
 | .tip o=>σ o=some (.tip xs.length e sz)∧k (.sl (.tip o) (xs++ys)) (σ.put o (.tip (xs++ys).length e sz))
 | .bf=>False
theorem ya {xs ys:List AV} {σ:aa} {e:TypeId} {sz:Nat} {k:KK}:vV .nil xs ys σ e sz k=∀o,σ o=none→k (.sl (.tip o) ys) (σ.put o (.tip ys.length e sz)):=propext Iff.rfl
theorem vU {xs ys:List AV} {σ:aa} {e:TypeId} {sz:Nat} {k:KK}:vV .full xs ys σ e sz k=∀o,σ o=none→k (.sl (.tip o) (xs++ys)) (σ.put o (.tip (xs++ys).length e sz)):=propext Iff.rfl
theorem x9 {xs ys:List AV} {σ:aa} {e:TypeId} {sz:Nat} {k:KK} {o:Nat}:vV (.tip o) xs ys σ e sz k=(σ o=some (.tip xs.length e sz)∧k (.sl (.tip o) (xs++ys)) (σ.put o (.tip (xs++ys).length e sz))):=propext Iff.rfl
def k9 (P:Program) (T:Ty) (mu:Bool) (σ:aa) (x y:AV) (k:KK):Prop:=
  T.kind= .slice∧(ae P T.elem).ok=true∧eD (ae P T.elem)=true∧0<(ae P T.elem).size∧(match y with
    | .sl _ ys=>aO (ae P T.elem).size ys=true∧(match x with
      | .ms o sz st n=>sz=(ae P T.elem).size∧st=0∧(n+ys.length)*(ae P T.elem).bytes≤140737488355328∧n+ys.length≤140737488355328∧(match σ o with
        |some (.arr e rows)=>e=T.elem∧n≤rows.length∧(if ys=[] then k x σ else ∀o',σ o'=none→k (.ms o' (ae P T.elem).size 0 (n+ys.length)) ((σ.drop o).put o' (.arr T.elem (rows.take n++ys))))
        |_=>False)
      | .sl kd xs=>aO (ae P T.elem).size xs=true∧(xs.length+ys.length)*(ae P T.elem).bytes≤140737488355328∧xs.length+ys.length≤140737488355328∧
        (if ys=[] then k x σ else if mu=true then(kd.fresh=true∧∀o,σ o=none→k (.ms o (ae P T.elem).size 0 (xs.length+ys.length)) (σ.put o (.arr T.elem (xs++ys)))) else
          vV kd xs ys σ T.elem (ae P T.elem).size k)
      |_=>False)
    |_=>False)
def ec (P:Program) (T:Ty) (mu:Bool) (σ:aa) (x y:AV) (nu:Nat) (k:KK):Prop:=
  T.kind= .slice∧(ae P T.elem).ok=true∧eD (ae P T.elem)=true∧0<(ae P T.elem).size∧(match y with
    | .sl _ ys=>aO (ae P T.elem).size ys=true∧(match x with
      | .ms o sz st n=>sz=(ae P T.elem).size∧st=0∧(n+ys.length)*(ae P T.elem).bytes≤140737488355328∧n+ys.length≤140737488355328∧(match σ o with
        |some (.arr e rows)=>e=T.elem∧n≤rows.length∧(if ys=[] then k x σ else k (.ms nu (ae P T.elem).size 0 (n+ys.length)) ((σ.drop o).put nu (.arr T.elem (rows.take n++ys))))
        |_=>False)
      | .sl kd xs=>aO (ae P T.elem).size xs=true∧(xs.length+ys.length)*(ae P T.elem).bytes≤140737488355328∧xs.length+ys.length≤140737488355328∧
        (if ys=[] then k x σ else if mu=true then(kd.fresh=true∧k (.ms nu (ae P T.elem).size 0 (xs.length+ys.length)) (σ.put nu (.arr T.elem (xs++ys)))) else
          match kd with
          | .nil=>k (.sl (.tip nu) ys) (σ.put nu (.tip ys.length T.elem (ae P T.elem).size))
          | .full=>k (.sl (.tip nu) (xs++ys)) (σ.put nu (.tip (xs++ys).length T.elem (ae P T.elem).size))
          | .tip o=>σ o=some (.tip xs.length T.elem (ae P T.elem).size)∧k (.sl (.tip o) (xs++ys)) (σ.put o (.tip (xs++ys).length T.elem (ae P T.elem).size))
          | .bf=>False)
      |_=>False)
    |_=>False)
theorem vT {P:Program} {T:Ty} {mu:Bool} {σ:aa} {x y:AV} {k:KK} (h:k9 P T mu σ x y k) {nu:Nat} (hn:σ nu=none):ec P T mu σ x y nu k:=by
 unfold k9 at h
 unfold ec
 obtain⟨h1,h2,h3,h4,h⟩:=h
 refine⟨h1,h2,h3,h4,?_⟩
 split at h
 ·obtain⟨h5,h⟩:=h
  refine⟨h5,?_⟩
  split at h
  ·obtain⟨h6,h7,h8,h9,h⟩:=h
   refine⟨h6,h7,h8,h9,?_⟩
   split at h
   ·rename_i rows hr
    refine⟨h.1,h.2.1,?_⟩
    have h:=h.2.2
    split at h
    ·rename_i q;rw[if_pos q];exact h
    ·rename_i q;rw[if_neg q];exact h nu hn
   ·exact h.elim
  ·obtain⟨h6,h7,h8,h⟩:=h
   refine⟨h6,h7,h8,?_⟩
   split at h
   ·rename_i q;rw[if_pos q];exact h
   ·rename_i q
    rw[if_neg q]
    split at h
    ·rename_i q2;rw[if_pos q2];exact⟨h.1,h.2 nu hn⟩
    ·rename_i q2
     rw[if_neg q2]
     unfold vV at h
     split at h
     ·exact h nu hn
     ·exact h nu hn
     ·exact h
     ·exact h
  ·exact h.elim
 ·exact h.elim
def lA (x:AV) (k:AV→Prop):Prop:=
 match x with
 | .ip .. =>k x
 | .ptr .. =>k x
 | .fn .. =>k x
 |_=>False
end Go.Kern

namespace Go.Kern
open Go.RowKit
theorem bU {sz:Nat} (hs:0<sz):∀ (xs:List AV),(∀x∈xs,x.cells.length=sz)→∀k,(ar xs)[k]? =(xs[k/sz]?).bind (fun x=>x.cells[k%sz]?)
  | [],_,k=>by simp[ar]
  | x::xs,hx,k=>by
    have hl:x.cells.length=sz:=hx x List.mem_cons_self
    have ih:=bU hs xs (fun y hy=>hx y (List.mem_cons_of_mem _ hy))
    unfold ar at ih ⊢
    rw[List.flatMap_cons]
    by_cases hk:k<sz
    · rw[List.getElem?_append_left (by omega),Nat.div_eq_of_lt hk,Nat.mod_eq_of_lt hk]
      simp
    · have h1:k/sz=(k-sz)/sz+1:=by
        have:=Nat.sub_add_cancel (Nat.le_of_not_lt hk)
        conv=>lhs;rw[←this]
        rw[Nat.add_div_right _ hs]
      have h2:k%sz=(k-sz)%sz:=by
        have:=Nat.sub_add_cancel (Nat.le_of_not_lt hk)
        conv=>lhs;rw[←this]
        rw[Nat.add_mod_right]
      rw[List.getElem?_append_right (by omega),hl,ih (k-sz),h1,h2,List.getElem?_cons_succ]
theorem aI {sz:Nat}:∀ (xs:List AV),(∀x∈xs,x.cells.length=sz)→(ar xs).length=xs.length*sz
  | [],_=>by simp[ar]
  | x::xs,hx=>by
    have ih:=aI xs (fun y hy=>hx y (List.mem_cons_of_mem _ hy))
    unfold ar at ih ⊢
    rw[List.flatMap_cons,List.length_append,ih,hx x List.mem_cons_self,List.length_cons,Nat.add_mul]
    omega
theorem fG {sz:Nat} (xs:List AV) (hx:∀x∈xs,x.cells.length=sz) (i j:Nat) (x:AV) (hi:xs[i]? =some x) (hj:j<sz):(ar xs)[i*sz+j]? =x.cells[j]? :=by
 rw[bU (by omega) xs hx,Nat.mul_comm,Nat.mul_add_div (by omega),Nat.div_eq_of_lt hj,Nat.add_zero,hi,Nat.mul_add_mod,Nat.mod_eq_of_lt hj]
 rfl
def AZ (g:Gh) (w:World) (a:Addr) (cs:List AV):Prop:=
 a.spot=none∧∀i c,cs[i]? =some c→∃v,w.cell? ⟨a.block,a.off+i,none⟩=some v∧R g c v
theorem bF {a:Addr} (h:a.spot=none) (n:Nat):a.add n=⟨a.block,a.off+n,none⟩:=by
 obtain⟨b,o,s⟩:=a
 simp only at h
 subst h
 unfold Addr.add
 split<;>simp_all
theorem AZ.load {P:Program} {g:Gh} {w:World} {a:Addr} {cs:List AV} (h:AZ g w a cs) {t:TypeId} {k:AV→Prop} {off:Nat}
  (hk:lS (ae P t) cs off k):∃v r,(loadVar t (a.add off)).run P w= .ok v w∧R g r v∧k r:=by
 obtain⟨hok,hk⟩:=hk
 have hag:=mQ hok w
 have hsz:=c7 hok w
 have hadd:=bF h.1
 split at hk
 ·rename_i hagg
  obtain⟨hle,hk⟩:=hk
  obtain⟨f,hf⟩:∃f:Nat→Value,∀j,j<(ae P t).size→w.cell? ⟨a.block,a.off+(off+j),none⟩=some (f j)∧∀c,cs[off+j]? =some c→R g c (f j):=by
   refine⟨fun j=>((w.cell? ⟨a.block,a.off+(off+j),none⟩).getD undef),fun j hj=>?_⟩
   obtain⟨v,hv,hr⟩:=h.2 (off+j) cs[off+j] (by simp)
   refine⟨by simp[hv],fun c hc=>?_⟩
   simp only[hv,Option.getD_some]
   rw[List.getElem?_eq_getElem (by omega)] at hc
   injection hc with hc
   subst hc
   exact hr
  have hl:=run_loadCells (P:=P) w (a.add off) (ae P t).size f (fun j hj=>by
   rw[bF (a:=a.add off) (by rw[hadd])]
   rw[hadd]
   simp only
   rw[Nat.add_assoc]
   exact(hf j hj).1)
  refine⟨.agg ((List.range (ae P t).size).map f).toArray,.agg ((cs.drop off).take (ae P t).size),?_,?_,hk⟩
  ·simp[loadVar,hag,hagg,hsz,hl]
  ·refine .agg (by simp;omega) fun i c v hc hv=>?_
   simp only[List.getElem?_take,List.getElem?_drop] at hc
   split at hc
   ·rename_i hi
    simp[hi] at hv
    subst hv
    exact(hf i hi).2 c hc
   ·cases hc
 ·rename_i hagg
  split at hk
  ·rename_i c hc
   obtain⟨v,hv,hr⟩:=h.2 off c hc
   refine⟨v,c,?_,hr,hk⟩
   have:(ae P t).kind.agg=false:=by simpa using hagg
   rw[hadd]
   simp[loadVar,hag,this,load,Sem.run,hv]
  ·exact hk.elim
theorem R.behind {g:Gh} {w:World} {σ:aa} (hc:ay g w σ) {p:AV} {v:Value} (hr:R g p v) {k:List AV→Nat→Prop} (hk:behind σ p k):
    ∃a cs off,v= .pointer (some (Addr.add a off))∧AZ g w a cs∧k cs off:=by
  unfold Kern.behind at hk
  split at hk
  · rename_i x off
    cases hr with
    | ip hs ho hi h=>
      rename_i base a vs
      refine⟨⟨a.block,base,none⟩,x.cells,off,?_,⟨rfl,fun i c hcx=>?_⟩,hk⟩
      · rw[bF rfl]
        simp only
        rw[←ho]
        cases a;simp only at hs;subst hs;rfl
      · have hlt:i<x.cells.length:=(List.getElem?_eq_some_iff.1 hcx).1
        exact⟨vs i,hc.bf _ _ _ (hi i hlt),h i c hcx⟩
  · rename_i o i off
    split at hk
    · rename_i rows hrows
      split at hk
      · rename_i x hx
        cases hr with
        | ptr hb=>
          rename_i b sz n
          obtain⟨blk,h1,h2⟩:=hc.obj
          obtain⟨hB,sz',cells,⟨n',hl,_⟩,hh,hu,hcs,hrr,him⟩:=h1 o _ hrows
          rw[hb] at hl
          injection hl with hl
          injection hl with hl1 hl2
          injection hl2 with hl2 hl3
          subst hl2;subst hl3
          rw[←hl1] at hh
          refine⟨⟨b,i*sz,none⟩,x.cells,off,by rw[bF rfl],⟨rfl,fun j c hcx=>?_⟩,hk⟩
          have hj:j<x.cells.length:=(List.getElem?_eq_some_iff.1 hcx).1
          have hxs:x.cells.length=sz:=hu x (List.mem_of_getElem? hx)
          have hrow:=fG rows hu i j x hx (by omega)
          rw[hcx] at hrow
          have hlt:i*sz+j<cells.size:=by
            refine Nat.lt_of_lt_of_le ?_ hcs
            rw[←aI rows hu]
            exact(List.getElem?_eq_some_iff.1 hrow).1
          exact⟨cells[i*sz+j],by simp[World.cell?,hh,hlt],hrr _ _ _ hrow (by simp[hlt])⟩
      · exact hk.elim
    · exact hk.elim
  · exact hk.elim
theorem mK {P:Program} {g:Gh} {w:World} {σ:aa} (hc:ay g w σ) {t:TypeId} {p:AV} {v:Value} (hr:R g p v) {k:AV→Prop} (hk:behind σ p fun cs off=>lS (ae P t) cs off k):
  ∃u r,(Instr.loadAt t v).run P w= .ok u w∧R g r u∧k r:=by
 obtain⟨a,cs,off,rfl,hl,hk⟩:=hr.behind hc hk
 obtain⟨u,r,hrun,h1,h2⟩:=hl.load hk
 exact⟨u,r,by simp[Instr.loadAt,Instr.sureAddr,hrun],h1,h2⟩
theorem vY {P:Program} {g:Gh} {w:World} {σ:aa} (hc:ay g w σ) {x:AV} {v:Value} (hx:R g x v) (hk:x.known=true) (e:TypeId):
  ∃g',g.Le g'∧ay g' (w.alloc (.cells v.cells e)) σ∧R g' (.ip x 0) (.pointer (some ⟨w.heap.size,0,none⟩)):=by
 have hle:=Gh.jn hc v.cells v.cells.size
 refine⟨g.bp w.heap.size v.cells v.cells.size,hle,hc.bp (Below.alloc (Below.refl _ _) (Nat.le_refl _) _) _ _ (fun o u ho hu=>?_),?_⟩
 ·rw[World.cell?_alloc_new];exact hu
 ·obtain⟨hl,hcs⟩:=hx.cells hk
  refine .ip (base:=0) (vs:=fun i=>v.cells.getD i undef) rfl rfl (fun i hi=>?_) (fun i c hic=>?_)
  ·simp[Gh.bp,show i<v.cells.size by omega]
  ·have hi:i<x.cells.length:=(List.getElem?_eq_some_iff.1 hic).1
   exact(hcs i c _ hic (by simp[show i<v.cells.size by omega])).le hle
theorem oB {v:Value}:(∃cs,v= .agg cs)∨v.cells= #[v]:=by
 cases v<;>first|exact .inr rfl|exact .inl ⟨_,rfl⟩
theorem R.zT {g:Gh} {cs:List AV} {v:Value} (h:R g (.agg cs) v):∃vs,v= .agg vs∧cs.length=vs.size∧∀ (i:Nat) (c:AV) (u:Value),cs[i]? =some c→vs[i]? =some u→R g c u:=by
 cases h with
 |agg hl h=>exact⟨_,rfl,hl,h⟩
theorem l8 {P:Program} {g:Gh} {w:World} {s:TypeId} {p:AV} {i:Nat} {v:Value} (hr:R g p v) {k:AV→Prop} (hk:jK (ae P s) p i k):
    ∃u r,(Instr.fieldAt s v i).run P w= .ok u w∧R g r u∧k r:=by
  obtain⟨hs,hk⟩:=hk
  obtain⟨ti,td,h1,h2,h3⟩:=bC hs (by simp)
  cases td<;>simp[aF] at h3
  rename_i fs
  have hf:(ae P s).fields=fs.toList.map (cf P):=by simp[ae,h1,h2]
  rw[hf] at hk
  cases hfi:fs[i]? with
  |none=>simp[hfi] at hk
  | some f=>
    simp only[List.getElem?_map,Array.getElem?_toList,hfi,Option.map_some] at hk
    have hfo:∃ii,P.info? f.type=some ii∧ii.size≠0∧(cf P f).1=f.offset:=by
      unfold cf at hk ⊢
      cases hi1:P.info? f.type with
      |none=>simp[hi1] at hk
      | some ii=>
        cases hi2:P.underlying f.type with
        |none=>simp[hi1,hi2] at hk
        |some dd=>simp only[hi1,hi2] at hk ⊢;exact⟨ii,rfl,hk.1,trivial⟩
    obtain⟨ii,hii,hne,hoff⟩:=hfo
    have hrun:∀a:Addr,(Instr.fieldAt s (.pointer (some a)) i).run P w= .ok (.pointer (some (a.add f.offset))) w:=by
      intro a
      simp[Instr.fieldAt,run_underlying h2,hfi,Instr.sureAddr,fieldPlace,sizeOf,typeInfo,hii,hne]
    revert hk
    rcases hfd:cf P f with ⟨off,sz,ag,ft⟩
    rw[hfd] at hoff
    simp only at hoff
    subst hoff
    intro hk
    obtain⟨_,hk⟩:=hk
    cases p<;>simp only at hk<;>try exact hk.elim
    · rename_i x o
      cases hr with
      | ip hs ho hi h=>
        rename_i base a vs
        refine⟨_,_,hrun a,?_,hk⟩
        refine .ip (base:=base) (vs:=vs) (by rw[bF hs]) ?_ ?_ h
        · rw[bF hs];simp only;omega
        · rw[bF hs];exact hi
    · rename_i o r c
      cases hr with
      | ptr hb=>
        refine⟨_,_,hrun _,?_,hk⟩
        rw[bF rfl]
        simp only
        rw[Nat.add_assoc]
        exact .ptr hb
theorem sG {P:Program} {g:Gh} {w:World} {t:TypeId} {cs:List AV} {vs:Array Value} (hl:cs.length=vs.size) (h:∀ (i:Nat) (c:AV) (u:Value),cs[i]? =some c→vs[i]? =some u→R g c u)
  {off:Nat} {k:AV→Prop} (hk:lS (ae P t) cs off k):∃u r,(part t vs off).run P w= .ok u w∧R g r u∧k r:=by
 obtain⟨hok,hk⟩:=hk
 have hag:=mQ hok w
 have hsz:=c7 hok w
 split at hk
 ·rename_i hagg
  obtain⟨hle,hk⟩:=hk
  refine⟨.agg (vs.extract off (off+(ae P t).size)),_,by simp[part,hag,hagg,hsz],?_,hk⟩
  refine .agg (by simp;omega) fun i c v hc hv=>?_
  simp only[List.getElem?_take,List.getElem?_drop] at hc
  split at hc
  ·rename_i hi
   have hlt:off+i<cs.length:=(List.getElem?_eq_some_iff.1 hc).1
   refine h _ c v hc ?_
   rw[Array.getElem?_extract] at hv
   split at hv
   ·exact hv
   ·cases hv
  ·cases hc
 ·rename_i hagg
  have hf:(ae P t).kind.agg=false:=by simpa using hagg
  split at hk
  ·rename_i c hcx
   have hlt:off<cs.length:=(List.getElem?_eq_some_iff.1 hcx).1
   have hv:vs[off]? =some (vs[off]'(by omega)):=by simp[show off<vs.size by omega]
   exact⟨vs[off]'(by omega),c,by simp[part,hag,hf,hv],h _ c _ hcx hv,hk⟩
  ·exact hk.elim
theorem qN {P:Program} {g:Gh} {w:World} {s:TypeId} {x:AV} {i:Nat} {v:Value} (hr:R g x v) {k:AV→Prop} (hk:tH P (ae P s) x i k):
    ∃u r,(Instr.field s v i).run P w= .ok u w∧R g r u∧k r:=by
  obtain⟨hs,hk⟩:=hk
  obtain⟨ti,td,h1,h2,h3⟩:=bC hs (by simp)
  cases td<;>simp[aF] at h3
  rename_i fs
  have hf:(ae P s).fields=fs.toList.map (cf P):=by simp[ae,h1,h2]
  rw[hf] at hk
  cases hfi:fs[i]? with
  |none=>simp[hfi] at hk
  | some f=>
    simp only[List.getElem?_map,Array.getElem?_toList,hfi,Option.map_some] at hk
    have e1:(cf P f).1=f.offset∧(cf P f).2.2.2=f.type:=by unfold cf;split<;>exact⟨rfl,rfl⟩
    revert hk
    rcases hfd:cf P f with ⟨off,sz,ag,ft⟩
    rw[hfd] at e1
    simp only at e1
    obtain⟨rfl,rfl⟩:=e1
    intro hk
    cases x<;>simp only at hk<;>try exact hk.elim
    rename_i cs
    obtain⟨vs,rfl,hl,h⟩:=hr.zT
    obtain⟨u,r,hrun,h4,h5⟩:=sG (w:=w) hl h hk
    exact⟨u,r,by simp[Instr.field,run_underlying h2,hfi,asAgg,hrun],h4,h5⟩
theorem l7 {P:Program} {g:Gh} {w:World} {s:TypeId} {x ix:AV} {v iv:Value} (hr:R g x v) (hri:R g ix iv) {k:AV→Prop} (hk:gI P (ae P s) x ix k):
    ∃u r,(Instr.indexAt s v iv).run P w= .ok u w∧R g r u∧k r:=by
  unfold gI at hk
  split at hk
  · rename_i kd xs ki i
    obtain⟨hs,hok,h0,hlt,hsz,hk⟩:=hk
    have hu:=bT hs
    cases hri
    have hso:=c7 hok w
    cases hr with
    |slnil=>simp at hlt;omega
    | sl hkk hsp huu hi h=>
      rename_i a cap sz vs
      have hlt':i.toNat<xs.length:=by omega
      have hx:xs[i.toNat]? =some (xs.getD i.toNat .any):=by simp[List.getD_eq_getElem?_getD,hlt']
      have hszz:(xs.getD i.toNat .any).cells.length=sz:=huu _ (List.mem_of_getElem? hx)
      have hsp':a.spot=none:=hsp (by intro e;subst e;simp at hlt')
      refine⟨.pointer (some (a.add (i.toNat*(ae P (ae P s).elem).size))),_,?_,?_,hk⟩
      · simp[Instr.indexAt,asIntOf,run_underlying hu,h0,hlt,hso]
      · rw[bF hsp',←hsz,hszz]
        refine .ip (base:=a.off+i.toNat*sz) (vs:=fun j=>vs (i.toNat*sz+j)) rfl rfl (fun j hj=>?_) (fun j c hc=>?_)
        · have hrow:=fG xs huu i.toNat j _ hx (by omega)
          have:i.toNat*sz+j<(ar xs).length:=by
            rw[List.getElem?_eq_getElem hj] at hrow
            exact(List.getElem?_eq_some_iff.1 hrow).1
          have:=hi _ this
          simp only
          rw[Nat.add_assoc]
          exact this
        · have hj:j<(xs.getD i.toNat .any).cells.length:=(List.getElem?_eq_some_iff.1 hc).1
          have hrow:=fG xs huu i.toNat j _ hx (by omega)
          exact h _ c (hrow.trans hc)
  · rename_i o sz st n ki i
    obtain⟨hs,hok,h0,hlt,rfl,hk⟩:=hk
    have hu:=bT hs
    cases hri
    have hso:=c7 hok w
    cases hr with
    | ms hb hc hln ha=>
      rename_i b nn cap a
      have:=ha (by omega)
      subst this
      refine⟨.pointer (some (Addr.add ⟨b,st*(ae P (ae P s).elem).size,none⟩ (i.toNat*(ae P (ae P s).elem).size))),_,?_,?_,hk⟩
      · simp[Instr.indexAt,asIntOf,run_underlying hu,h0,hlt,hso]
      · rw[bF rfl]
        have:=R.ptr (g:=g) (i:=st+i.toNat) (off:=0) hb
        rw[Nat.add_zero,Nat.add_mul] at this
        exact this
  · exact hk.elim
theorem qM {P:Program} {g:Gh} {w:World} {s:TypeId} {x ix:AV} {v iv:Value} (hr:R g x v) (hri:R g ix iv) {k:AV→Prop} (hk:qd (ae P s) x ix k):
  ∃u r,(Instr.index s v iv).run P w= .ok u w∧R g r u∧k r:=by
 unfold qd at hk
 split at hk
 ·rename_i str ki i
  obtain⟨hs,h0,hlt,hk⟩:=hk
  obtain⟨ti,td,h1,h2,h3⟩:=bC hs (by simp)
  cases td<;>simp[aF] at h3
  cases hri
  cases hr
  have hlt':i.toNat<str.size:=by omega
  refine⟨_,_,?_,.int _ _,hk⟩
  have hb:str[i.toNat]? =some (str.data.getD i.toNat 0):=by
   have e:str[i.toNat]? =some str[i.toNat]:=by simp[hlt']
   rw[e]
   congr 1
   have hd:i.toNat<str.data.size:=hlt'
   simp[Array.getD_eq_getD_getElem?,Array.getElem?_eq_getElem hd]
   rfl
  simp[Instr.index,asIntOf,run_underlying h2,h0,hb]
 ·exact hk.elim
theorem u6 {P:Program} {g:Gh} {w:World} {σ:aa} (hc:ay g w σ) {t:TypeId} {ty:TypeId} {x:AV} {v:Value} (hr:R g x v) {k:AV→Prop} (hk:y0 (ae P t) σ x k):
    ∃u r,(Builtin.len_ #[t] ty #[v]).run P w= .ok u w∧R g r u∧k r:=by
  unfold y0 at hk
  split at hk
  · obtain⟨hs,hk⟩:=hk
    obtain⟨ti,td,h1,h2,h3⟩:=bC hs (by simp)
    cases td<;>simp[aF] at h3
    cases hr
    exact⟨.int .i64 _,_,by simp[Builtin.len_,run_underlying h2,goInt],.int _ _,hk⟩
  · obtain⟨hs,hk⟩:=hk
    have h2:=bT hs
    cases hr with
    |slnil=>exact⟨.int .i64 _,_,by simp[Builtin.len_,run_underlying h2,goInt],.int _ _,hk⟩
    |sl=>exact⟨.int .i64 _,_,by simp[Builtin.len_,run_underlying h2,goInt],.int _ _,hk⟩
  · obtain⟨hs,hk⟩:=hk
    have h2:=bT hs
    cases hr
    exact⟨.int .i64 _,_,by simp[Builtin.len_,run_underlying h2,goInt],.int _ _,hk⟩
  · obtain⟨hs,hk⟩:=hk
    obtain⟨ti,td,h1,h2,h3⟩:=bC hs (by simp)
    cases td<;>simp[aF] at h3
    cases hr
    exact⟨.int .i64 _,_,by simp[Builtin.len_,run_underlying h2,goInt],.int _ _,hk⟩
  · obtain⟨hs,hk⟩:=hk
    obtain⟨ti,td,h1,h2,h3⟩:=bC hs (by simp)
    cases td<;>simp[aF] at h3
    split at hk
    · rename_i es hes
      cases hr with
      | map hb=>
        rename_i b
        obtain⟨blk,h4,_⟩:=hc.obj
        obtain⟨_,en,ck,hl,hh,hlen,_⟩:=h4 _ _ hes
        rw[hb] at hl
        injection hl with hl
        injection hl with hl _
        subst hl
        refine⟨_,_,?_,.int _ _,hk⟩
        rw[hlen]
        simp[Builtin.len_,run_underlying h2,goInt,getObj,Sem.run,hh]
    · exact hk.elim
  · exact hk.elim
theorem nS {P:Program} {g:Gh} {w:World} {x:AV} {i:Nat} {v:Value} (hr:R g x v) {k:AV→Prop} (hk:kK x i k):
    ∃u r,(Instr.extract v i).run P w= .ok u w∧R g r u∧k r:=by
  unfold kK at hk
  split at hk
  · rename_i vs
    split at hk
    · rename_i c hcx
      cases hr with
      | bK hl h=>
        rename_i us
        have hlt:i<vs.length:=(List.getElem?_eq_some_iff.1 hcx).1
        have hv:us[i]? =some (us[i]'(by omega)):=by simp[show i<us.size by omega]
        exact⟨us[i]'(by omega),c,by simp[Instr.extract,hv],h _ c _ hcx hv,hk⟩
    · exact hk.elim
  · exact hk.elim
end Go.Kern

namespace Go.Kern
open Go.RowKit
theorem wA {g:Gh} {k:SK} {xs:List AV} {v:Value} (h:R g (.sl k xs) v):∃a n c,v= .slice a n c∧a.isNone=k.isNil:=by
  cases h with
  |slnil=>exact⟨_,_,_,rfl,rfl⟩
  | sl hk hs hu hi h=>
    refine⟨_,_,_,rfl,?_⟩
    cases k<;>first|rfl|exact hk.elim
theorem nY {P:Program} {w:World} {op:BinOp} {i:IntKind} {a b:Int} {t:TypeId} (h1:op≠ .shl) (h2:op≠ .shr):
  binOp op t (.int i a) (.int i b)=(match op with
  | .add| .sub| .mul=>Op.intArith op i a b
  | .quo| .rem=>Op.intDiv op i a b
  | .and| .or| .xor| .andNot=>Op.intBits op i a b
  |_=>Op.intCmp op a b):=by
 cases op<;>first|exact(h1 rfl).elim|exact(h2 rfl).elim|simp[binOp]
theorem u7 {P:Program} {w:World} {op:BinOp} {i:IntKind} {a b:Int} {k:AV→Prop} (hk:qc op i a b k) (h1:op≠ .shl) (h2:op≠ .shr) {t:TypeId} {g:Gh}:
  ∃u r,(binOp op t (.int i a) (.int i b)).run P w= .ok u w∧R g r u∧k r:=by
 rw[nY (P:=P) (w:=w) h1 h2]
 cases op<;>simp only[qc] at hk
 case add=>exact⟨_,_,rfl,.int _ _,hk⟩
 case sub=>exact⟨_,_,rfl,.int _ _,hk⟩
 case mul=>exact⟨_,_,rfl,.int _ _,hk⟩
 case quo=>exact⟨.int i (i.wrap (a.tdiv b)),_,by simp[Op.intDiv,hk.1],.int _ _,hk.2⟩
 case rem=>exact⟨.int i (a.tmod b),_,by simp[Op.intDiv,hk.1],.int _ _,hk.2⟩
 case eql=>exact⟨.bool (decide (a=b)),_,by simp only[Op.intCmp,Sem.run_pure];congr 2,.bool _,hk⟩
 case neq=>exact⟨.bool (!decide (a=b)),_,by simp only[Op.intCmp,Sem.run_pure];congr 2,.bool _,hk⟩
 case lss=>exact⟨_,_,rfl,.bool _,hk⟩
 case leq=>exact⟨_,_,rfl,.bool _,hk⟩
 case gtr=>exact⟨_,_,rfl,.bool _,hk⟩
 case geq=>exact⟨_,_,rfl,.bool _,hk⟩
 case and=>exact⟨_,_,rfl,.int _ _,hk⟩
 case or=>exact⟨_,_,rfl,.int _ _,hk⟩
 case xor=>exact⟨_,_,rfl,.int _ _,hk⟩
 case andNot=>exact⟨_,_,rfl,.int _ _,hk⟩
 all_goals exact hk.elim
theorem toList_inj {a b:ByteArray}:a.toList=b.toList↔a=b:=by
 constructor
 ·intro h
  have e:∀x:ByteArray,x.toList=x.data.toList:=fun x=>Lib.toList_data x
  rw[e,e] at h
  cases a;cases b
  simp only at h
  congr 1
  exact Array.toList_inj.1 h
 ·rintro rfl;rfl
theorem beq_toList (a b:ByteArray):(a.toList==b.toList)=decide (a=b):=by
 by_cases h:a=b
 ·subst h;simp
 ·have:a.toList≠b.toList:=fun e=>h (toList_inj.1 e)
  rw[decide_eq_false h]
  exact beq_eq_false_iff_ne.2 this
theorem uY {P:Program} {w:World} {op:BinOp} {a b:ByteArray} {k:AV→Prop} (hk:pB op a b k) {t:TypeId} {g:Gh}:
    ∃u r,(binOp op t (.string a) (.string b)).run P w= .ok u w∧R g r u∧k r:=by
  have hmax:IntKind.i64.max=9223372036854775807:=by decide
  have hb:=beq_toList a b
  have e1:∀o:BinOp,binOp o t (.string a) (.string b)=Op.stringOp o a b:=fun o=>by cases o<;>rfl
  cases op<;>simp only[pB] at hk<;>first
    |exact hk.elim
    | (refine⟨.string (a++b),_,?_,.str _,hk.2⟩
       rw[e1]
       simp only[Op.stringOp]
       rw[if_neg (by rw[hmax];omega)]
       rfl)
    | (refine⟨.bool _,_,?_,.bool _,hk⟩
       rw[e1]
       simp only[Op.stringOp,hb]
       rfl)
def oe (kind:TK) (v:Value):Option Bool:=
 match kind,v with
 | .slice,.slice a _ _=>some a.isNone
 | .ptr,.pointer a=>some a.isNone
 | .map,.map a=>some a.isNone
 | .func,.func .. =>some false
 | .func,.nilFunc=>some true
 |_,_=>none
theorem oT {g:Gh} {kind:TK} {x:AV} {v:Value} (h:R g x v) {a:Bool} (ha:gE kind x=some a):oe kind v=some a:=by
 cases kind<;>cases x<;>simp[gE] at ha<;>subst ha
 case slice.sl=>
  obtain⟨a,n,c,rfl,h2⟩:=wA h
  simp[oe,h2]
 all_goals (cases h;rfl)
theorem nX {P:Program} {w:World} {t:TypeId} {u v:Value} {a b:Bool} (h1:oe (ae P t).kind u=some a) (h2:oe (ae P t).kind v=some b) (hab:a=true∨b=true):
  (Op.equal t u v).run P w= .ok (a&&b) w:=by
 unfold Op.equal
 obtain⟨d,hd⟩:∃d,Op.maxDepth=d+1:=⟨9999,rfl⟩
 rw[hd]
 clear hd
 cases hkd:(ae P t).kind<;>rw[hkd] at h1 h2<;>try (simp[oe] at h1;done)
 all_goals
  obtain⟨ti,td,i1,i2,i3⟩:=bC hkd (by simp)
  cases td<;>simp[aF] at i3
  cases u<;>simp[oe] at h1<;>cases v<;>simp[oe] at h2<;>simp only[Op.equalIn,Sem.run_bind,run_underlying i2,Result.andThen_ok]
 ·rename_i a1 _ _ b1 _ _
  cases a1<;>cases b1<;>simp at h1 h2<;>subst h1<;>subst h2<;>simp at hab ⊢
 ·rename_i a1 b1
  cases a1<;>cases b1<;>simp at h1 h2<;>subst h1<;>subst h2<;>simp at hab ⊢
 ·rename_i a1 b1
  cases a1<;>cases b1<;>simp at h1 h2<;>subst h1<;>subst h2<;>simp at hab ⊢
 all_goals (subst h1;subst h2;simp at hab ⊢)
theorem uZ {P:Program} {w:World} {op:BinOp} {t:TypeId} {x y:AV} {u v:Value} {g:Gh} (hx:R g x u) (hy:R g y v) {k:AV→Prop} (hk:pT (ae P t).kind op x y k):
    ∃z r,(binOp op t u v).run P w= .ok z w∧R g r z∧k r∧∀p q,eqGuard op t p q u v=pure ():=by
  unfold pT at hk
  cases hnx:gE (ae P t).kind x with
  |none=>simp[hnx] at hk
  | some a=>
    cases hny:gE (ae P t).kind y with
    |none=>simp[hnx,hny] at hk
    | some b=>
      simp only[hnx,hny] at hk
      obtain⟨hab,hk⟩:=hk
      have h1:=oT hx hnx
      have h2:=oT hy hny
      have hrun:=nX (P:=P) (w:=w) h1 h2 hab
      have hg:∀o p q,eqGuard o t p q u v=pure ():=by
        intro o p q
        cases hkd:(ae P t).kind<;>rw[hkd] at h1 h2<;>cases u<;>simp[oe] at h1<;>cases o<;>rfl
      have hbo:∀o:BinOp,o= .eql∨o= .neq→(binOp o t u v).run P w= .ok (.bool (if o= .eql then(a&&b) else !(a&&b))) w:=by
        intro o ho
        cases hkd:(ae P t).kind<;>rw[hkd] at h1 h2<;>cases u<;>simp[oe] at h1<;>cases v<;>simp[oe] at h2<;>rcases ho with rfl|rfl<;>simp[binOp,hrun]
      cases op<;>simp only at hk<;>first|exact hk.elim|skip
      · exact⟨_,_,hbo _ (.inl rfl),.bool _,by simpa using hk,hg _⟩
      · exact⟨_,_,hbo _ (.inr rfl),.bool _,by simpa using hk,hg _⟩
end Go.Kern

namespace Go.Kern
open Go.RowKit
theorem wy {P:Program} {w:World} {op:UnOp} {x:AV} {v:Value} {g:Gh} (hx:R g x v) {k:AV→Prop} (hk:Cm op x k):
  ∃u r,(Op.unary op v).run P w= .ok u w∧R g r u∧k r:=by
 unfold Cm at hk
 split at hk
 ·cases hx;exact⟨_,_,rfl,.bool _,hk⟩
 ·cases hx;exact⟨_,_,rfl,.int _ _,hk⟩
 ·exact hk.elim
theorem sI {P:Program} {w:World} {s d:TypeId} {x:AV} {v:Value} {g:Gh} (hx:R g x v) {k:AV→Prop} (hk:xO (ae P s) (ae P d) x k):
  ∃u r,(convert s d v).run P w= .ok u w∧R g r u∧k r:=by
 obtain⟨hs,hd,hk⟩:=hk
 obtain⟨i1,d1,a1,a2,a3⟩:=fu hs
 obtain⟨i2,d2,b1,b2,b3⟩:=fu hd
 rw[b3] at hk
 cases d2<;>cases x<;>simp only[aF] at hk<;>first|exact hk.elim|skip
 ·cases hx
  exact⟨.int _ _,_,by simp[convert,run_underlying a2,run_underlying b2,Conv.intToInt],.int _ _,hk⟩
 ·cases hx
  exact⟨.string _,_,by cases d1<;>(simp[convert,run_underlying a2,run_underlying b2]),.str _,hk⟩
theorem uy {xs:List AV} {l h:Nat} {x:AV} (hx:x∈(xs.take h).drop l):x∈xs:=List.mem_of_mem_take (List.mem_of_mem_drop hx)
theorem nG {sz:Nat} (xs:List AV) (hu:∀x∈xs,x.cells.length=sz) (l h i:Nat) (hi:i<(ar ((xs.take h).drop l)).length):
  (ar xs)[l*sz+i]? =(ar ((xs.take h).drop l))[i]? :=by
 have hu':∀x∈(xs.take h).drop l,x.cells.length=sz:=fun x hx=>hu x (uy hx)
 rcases Nat.eq_zero_or_pos sz with h0|h0
 ·rw[aI _ hu',h0] at hi;omega
 ·rw[bU h0 _ hu',bU h0 _ hu,Nat.mul_comm,Nat.mul_add_div h0,Nat.mul_add_mod]
  have hlt:i/sz<((xs.take h).drop l).length:=by
   rw[aI _ hu'] at hi
   exact Nat.div_lt_of_lt_mul (by rw[Nat.mul_comm];exact hi)
  have:((xs.take h).drop l)[i/sz]? =xs[l+i/sz]? :=by
   rw[List.getElem?_drop,List.getElem?_take]
   rw[List.length_drop,List.length_take] at hlt
   generalize i/sz=q at hlt ⊢
   rw[if_pos (by omega)]
  rw[this]
theorem iR {P:Program} {w:World} (kk:IntKind) (i:Int) (y:Nat) (c:BoundsCode) (h0:0≤i) (h1:i≤y):(Instr.sliceBound (.int kk i) y c).run P w= .ok i.toNat w:=by
 simp[Instr.sliceBound,asIntOf,h0,h1]
theorem jF {P:Program} {w:World} {g:Gh} (isS:Bool) (len cap:Nat) (hlc:len≤cap) {lo hi:Option AV} {lo' hi':Option Value}
    (hlo:∀a,lo=some a→∃v,lo'=some v∧R g a v) (hlo0:lo=none→lo'=none) (hhi:∀a,hi=some a→∃v,hi'=some v∧R g a v) (hhi0:hi=none→hi'=none)
    {l h:Int} (hl:df 0 lo=some l) (hh:df len hi=some h) (h0:0≤l) (h1:l≤h) (h2:h≤len):
    (Instr.sliceBounds isS len cap lo' hi' none).run P w= .ok (l.toNat,h.toNat,cap) w:=by
  have hlow:∀c,((match lo' with|some v=>Instr.sliceBound v h.toNat c|none=>pure 0:Sem Nat)).run P w= .ok l.toNat w:=by
    intro c
    cases lo with
    | none=>
      rw[hlo0 rfl]
      simp only[df,Option.some.injEq] at hl
      subst hl
      rfl
    | some a=>
      obtain⟨v,rfl,hr⟩:=hlo a rfl
      cases a<;>simp only[df,Option.some.injEq] at hl<;>try (cases hl;done)
      subst hl
      cases hr
      exact iR _ _ _ _ h0 (by omega)
  cases hi with
  | none=>
    rw[hhi0 rfl]
    simp only[df,Option.some.injEq] at hh
    subst hh
    have:=hlow .sliceB
    simp only[Int.toNat_natCast] at this
    cases lo' with
    |none=>simp only[Instr.sliceBounds];simp at this ⊢;exact this
    |some v=>simp only[Instr.sliceBounds];simp at this ⊢;simp[this]
  | some a=>
    obtain⟨v,rfl,hr⟩:=hhi a rfl
    cases a<;>simp only[df,Option.some.injEq] at hh<;>try (cases hh;done)
    subst hh
    cases hr
    rename_i kk n
    have hb:∀c,(Instr.sliceBound (.int kk n) cap c).run P w= .ok n.toNat w:=fun c=>iR _ _ _ _ (by omega) (by omega)
    have:=hlow .sliceB
    cases lo' with
    |none=>simp only[Instr.sliceBounds];simp[hb] at this ⊢;exact this
    |some v=>simp only[Instr.sliceBounds];simp[hb] at this ⊢;simp[this]
theorem qU {P:Program} {w:World} {g:Gh} (len cap:Nat) (hlc:len≤cap) {lo:Option AV} {lo':Option Value} (hlo:∀a,lo=some a→∃v,lo'=some v∧R g a v) (hlo0:lo=none→lo'=none)
    (k1 k2:IntKind) {l h:Int} (hl:df 0 lo=some l) (h0:0≤l) (h1:l≤h) (h2:h≤len):
    (Instr.sliceBounds true len cap lo' (some (.int k1 h)) (some (.int k2 h))).run P w= .ok (l.toNat,h.toNat,h.toNat) w:=by
  have hb:∀kk y c,h≤(y:Nat)→(Instr.sliceBound (.int kk h) y c).run P w= .ok h.toNat w:=fun kk y c hy=>iR _ _ _ _ (by omega) hy
  have hlow:∀c,((match lo' with|some v=>Instr.sliceBound v h.toNat c|none=>pure 0:Sem Nat)).run P w= .ok l.toNat w:=by
    intro c
    cases lo with
    | none=>
      rw[hlo0 rfl]
      simp only[df,Option.some.injEq] at hl
      subst hl
      rfl
    | some a=>
      obtain⟨v,rfl,hr⟩:=hlo a rfl
      cases a<;>simp only[df,Option.some.injEq] at hl<;>try (cases hl;done)
      subst hl
      cases hr
      exact iR _ _ _ _ h0 (by omega)
  have hb1:=fun c=>hb k2 cap c (by omega)
  have hb2:=fun c=>hb k1 h.toNat c (by omega)
  have:=hlow .slice3C
  cases lo' with
  |none=>simp only[Instr.sliceBounds];simp[hb1,hb2] at this ⊢;exact this
  |some v=>simp only[Instr.sliceBounds];simp[hb1,hb2] at this ⊢;simp[this]
theorem yp {g:Gh} {kd:SK} {xs:List AV} {v:Value} (hx:R g (.sl kd xs) v) {size l h m:Nat} (hsz:∀x∈xs,x.cells.length=size) (h1:l≤h) (h2:h≤xs.length) (kd':SK)
    (hkd:kd'=kd.cut∨(kd'=kd.jh∧m=h)):
    ∀a n cap,v= .slice a n cap→n=xs.length∧n≤cap∧(h≤m→m≤cap→R g (.sl kd' ((xs.take h).drop l)) (.slice (if m=l then a else a.map (·.add (l*size))) (h-l) (m-l))):=by
  intro a n cap hv
  cases hx with
  | slnil=>
    injection hv with e1 e2 e3
    subst e1;subst e2;subst e3
    refine⟨rfl,Nat.le_refl _,fun hm hmc=>?_⟩
    simp at h2
    have:l=0:=by omega
    have hm0:m=0:=by omega
    subst h2;subst this;subst hm0
    have:kd'= .nil:=by rcases hkd with e|⟨e,_⟩<;>simpa [SK.cut,SK.jh] using e
    subst this
    simp
    exact .slnil
  | sl hk hs hu hi hr=>
    rename_i a0 cap0 sz vs
    injection hv with e1 e2 e3
    subst e1;subst e2;subst e3
    have hcap:xs.length≤cap0:=by
      cases kd with
      |nil=>exact hk.elim
      |bf=>exact hk
      |full=>have:cap0=xs.length:=hk;omega
      |tip o=>exact hk.1
    refine⟨rfl,hcap,fun hm hmc=>?_⟩
    have hlen:((xs.take h).drop l).length=h-l:=by simp;omega
    have hnn:kd≠ .nil:=by rintro rfl;exact hk
    have hk':∀a',su g kd' a' ((xs.take h).drop l).length (m-l):=by
      intro a'
      rcases hkd with e|⟨e,rfl⟩
      · have:kd'= .bf:=by cases kd<;>first|exact(hnn rfl).elim|simpa [SK.cut,SK.jh] using e
        subst this
        simp only[su]
        omega
      · have:kd'= .full:=by cases kd<;>first|exact(hnn rfl).elim|simpa [SK.cut,SK.jh] using e
        subst this
        simp only[su]
        omega
    have hu':∀x∈(xs.take h).drop l,x.cells.length=sz:=fun x hx=>hu x (uy hx)
    have hgoal:∀a':Addr,((xs.take h).drop l≠[]→a'=⟨a0.block,a0.off+l*sz,none⟩)→R g (.sl kd' ((xs.take h).drop l)) (.slice (some a') (h-l) (m-l)):=by
      intro a' ha'
      rw[←hlen]
      refine .sl (sz:=sz) (vs:=fun i=>vs (l*sz+i)) (hk' a') (fun hne=>by rw[ha' hne]) hu' (fun i hii=>?_) (fun i c hic=>?_)
      · have hne:(xs.take h).drop l≠[]:=by intro e;rw[e] at hii;simp[ar] at hii
        rw[ha' hne]
        have:=nG xs hu l h i hii
        rw[List.getElem?_eq_getElem hii] at this
        have h3:=hi _ (List.getElem?_eq_some_iff.1 this).1
        simp only
        rw[Nat.add_assoc]
        exact h3
      · have hii:i<(ar ((xs.take h).drop l)).length:=(List.getElem?_eq_some_iff.1 hic).1
        exact hr _ c ((nG xs hu l h i hii).trans hic)
    by_cases hml:m=l
    · rw[if_pos hml]
      refine hgoal a0 (fun hne=>absurd ?_ hne)
      rw[←List.length_eq_zero_iff];omega
    · rw[if_neg hml]
      refine hgoal (a0.add (l*size)) (fun hne=>?_)
      have hxne:xs≠[]:=by rintro rfl;simp at hne
      have hsp:=hs hxne
      obtain⟨x,hx⟩:=List.exists_mem_of_ne_nil xs hxne
      rw[←hu x hx,hsz x hx,bF hsp]
theorem qJ {P:Program} {w:World} {g:Gh} {t:TypeId} {x:AV} {v:Value} (hx:R g x v) {lo hi mx:Option AV} {lo' hi' mx':Option Value}
    (hlo:∀a,lo=some a→∃v,lo'=some v∧R g a v) (hlo0:lo=none→lo'=none) (hhi:∀a,hi=some a→∃v,hi'=some v∧R g a v) (hhi0:hi=none→hi'=none)
    (hmx:∀a,mx=some a→∃v,mx'=some v∧R g a v) (hmx0:mx=none→mx'=none) {k:AV→Prop} (hk:pG P (ae P t) x lo hi mx k):
    ∃u r,(Instr.sliceAt t v lo' hi' mx').run P w= .ok u w∧R g r u∧k r:=by
  unfold pG at hk
  split at hk
  · rename_i s
    obtain⟨hs,hm,hk⟩:=hk
    obtain⟨ti,td,i1,i2,i3⟩:=bC hs (by simp)
    cases td<;>simp[aF] at i3
    rw[hmx0 hm]
    split at hk
    · rename_i l h hl hh
      obtain⟨h0,h1,h2,hk⟩:=hk
      cases hx
      have hb:=jF (P:=P) (w:=w) (g:=g) false s.size s.size (Nat.le_refl _) hlo hlo0 hhi hhi0 hl hh h0 h1 h2
      exact⟨_,_,by simp[Instr.sliceAt,Instr.slice,run_underlying i2,hb],.str _,hk⟩
    · exact hk.elim
  · rename_i kd xs
    obtain⟨hs,hok,hsz,hk⟩:=hk
    replace hsz:=fun x hx=>(eF hsz x hx).2.1
    have i2:=bT hs
    have hso:=c7 hok w
    obtain⟨a,n,cap,rfl⟩:∃a n cap,v= .slice a n cap:=by cases hx<;>exact⟨_,_,_,rfl⟩
    obtain⟨hn,hnc,_⟩:=yp hx (size:=(ae P (ae P t).elem).size) (l:=0) (h:=0) (m:=0) hsz (Nat.le_refl _) (Nat.zero_le _) _ (.inl rfl) a n cap rfl
    split at hk
    · rename_i l h hl hh
      obtain⟨h0,h1,h2,hk⟩:=hk
      rw[hmx0 rfl]
      have hb:=jF (P:=P) (w:=w) (g:=g) true n cap hnc hlo hlo0 hhi hhi0 hl (by rw[hn];exact hh) h0 h1 (by omega)
      obtain⟨_,_,hR⟩:=yp hx (size:=(ae P (ae P t).elem).size) (l:=l.toNat) (h:=h.toNat) (m:=cap) hsz (by omega) (by omega) _ (.inl rfl) a n cap rfl
      exact⟨_,_,by simp[Instr.sliceAt,Instr.slice,run_underlying i2,hb,hso],hR (by omega) (Nat.le_refl _),hk⟩
    · rename_i l h km m hl hh
      obtain⟨hsome,h0,h1,h2,hmh,hk⟩:=hk
      subst hmh
      obtain⟨mv,rfl,hrm⟩:=hmx _ rfl
      cases hrm
      obtain⟨ha,hha⟩:=Option.isSome_iff_exists.1 hsome
      subst hha
      obtain⟨hv,rfl,hrh⟩:=hhi _ rfl
      cases ha<;>simp only[df,Option.some.injEq] at hh<;>try (cases hh;done)
      rename_i kz z
      subst hh
      cases hrh
      have hb:=qU (P:=P) (w:=w) (g:=g) n cap hnc hlo hlo0 kz km hl h0 h1 (by omega)
      obtain⟨_,_,hR⟩:=yp hx (size:=(ae P (ae P t).elem).size) (l:=l.toNat) (h:=z.toNat) (m:=z.toNat) hsz (by omega) (by omega) _ (.inr ⟨rfl,rfl⟩) a n cap rfl
      exact⟨_,_,by simp[Instr.sliceAt,Instr.slice,run_underlying i2,hb,hso],hR (Nat.le_refl _) (by omega),hk⟩
    · exact hk.elim
  · rename_i o sz st n
    obtain⟨hs,hok,rfl,hm,hk⟩:=hk
    have i2:=bT hs
    have hso:=c7 hok w
    rw[hmx0 hm]
    split at hk
    · rename_i l h hl hh
      obtain⟨h0,h1,h2,hk⟩:=hk
      cases hx with
      | ms hb hc hln ha=>
        rename_i b nn cap a
        have hbd:=jF (P:=P) (w:=w) (g:=g) true n cap hln hlo hlo0 hhi hhi0 hl hh h0 h1 (by omega)
        refine⟨.slice (if cap=l.toNat then some a else(some a).map (·.add (l.toNat*(ae P (ae P t).elem).size))) (h.toNat-l.toNat) (cap-l.toNat),_,by simp[Instr.sliceAt,Instr.slice,run_underlying i2,hbd,hso],?_,hk⟩
        by_cases hcl:cap=l.toNat
        · rw[if_pos hcl]
          exact .ms hb (by omega) (by omega) (fun hp=>by omega)
        · rw[if_neg hcl]
          have hcp:0<cap:=by omega
          have:=ha hcp
          subst this
          rw[Option.map_some,bF rfl]
          exact .ms hb (by omega) (by omega) (fun hp=>by simp only[Nat.add_mul])
    · exact hk.elim
  · exact hk.elim
end Go.Kern

namespace Go.Kern
open Go.RowKit
def RL (g:Gh) (xs:List AV) (vs:List Value):Prop:=xs.length=vs.length∧∀ (i:Nat) (x:AV) (v:Value),xs[i]? =some x→vs[i]? =some v→R g x v
theorem RL.le {g g':Gh} (hle:g.Le g') {xs:List AV} {vs:List Value} (h:RL g xs vs):RL g' xs vs:=⟨h.1,fun i x v hx hv=>(h.2 i x v hx hv).le hle⟩
theorem RL.cells {g:Gh} {xs:List AV} {vs:List Value} (h:RL g xs vs) {sz:Nat} (hs:0<sz) (hk:∀x∈xs,x.known=true∧x.cells.length=sz):
    (∀v∈vs,v.cells.size=sz)∧∀ (i:Nat) (c:AV),(ar xs)[i]? =some c→∃u,(vs.flatMap fun v=>v.cells.toList)[i]? =some u∧R g c u:=by
  have hv:∀v∈vs,v.cells.size=sz:=by
    intro v hv
    obtain⟨i,hi,rfl⟩:=List.getElem_of_mem hv
    have hx:xs[i]? =some (xs[i]'(by rw[h.1];exact hi)):=by simp[h.1,hi]
    have hm:=hk _ (List.mem_of_getElem? hx)
    have:=(h.2 i _ _ hx (List.getElem?_eq_getElem hi)).cells hm.1
    rw[←this.1,hm.2]
  refine⟨hv,fun i c hc=>?_⟩
  rw[Great.flat_get hs vs hv i]
  rw[bU hs xs (fun x hx=>(hk x hx).2)] at hc
  cases hx:xs[i/sz]? with
  |none=>simp[hx] at hc
  | some x=>
    simp only[hx,Option.bind_some] at hc
    have hlt:i/sz<xs.length:=(List.getElem?_eq_some_iff.1 hx).1
    have hvv:vs[i/sz]? =some (vs[i/sz]'(by rw[←h.1];exact hlt)):=by simp[←h.1,hlt]
    rw[hvv]
    have hm:=hk x (List.mem_of_getElem? hx)
    obtain⟨h1,h2⟩:=(h.2 _ _ _ hx hvv).cells hm.1
    have hj:i%sz<x.cells.length:=(List.getElem?_eq_some_iff.1 hc).1
    refine⟨_,by simp only[Option.bind_some];exact Array.getElem?_eq_getElem (by rw[←h1];exact hj),h2 _ c _ hc (by simp)⟩
theorem jy {g:Gh} {xs:List AV} {vs:List Value} (h:RL g xs vs) {sz:Nat} (hk:∀x∈xs,x.cells.length=sz) (hv:∀v∈vs,v.cells.size=sz):
    (ar xs).length=(vs.flatMap fun v=>v.cells.toList).length:=by
  rw[aI xs hk,h.1]
  clear h hk
  induction vs with
  |nil=>simp
  | cons v vs ih=>
    rw[List.flatMap_cons,List.length_append,←ih (fun u hu=>hv u (List.mem_cons_of_mem _ hu))]
    have:=hv v List.mem_cons_self
    simp[Nat.add_mul,this]
    omega
theorem vb {g:Gh} {w:World} {σ:aa} (hc:ay g w σ) {xs:List AV} {vs:List Value} (h:RL g xs vs) {sz:Nat} (hs:0<sz) (hk:∀x∈xs,x.known=true∧x.cells.length=sz) (e:TypeId):
  ∃g',g.Le g'∧ay g' (w.alloc (.cells (vs.flatMap fun v=>v.cells.toList).toArray e)) σ∧R g' (.sl .full xs) (.slice (some ⟨w.heap.size,0,none⟩) xs.length xs.length):=by
 obtain⟨hv,hcs⟩:=h.cells hs hk
 have hle:=Gh.jn hc (vs.flatMap fun v=>v.cells.toList).toArray (vs.flatMap fun v=>v.cells.toList).toArray.size
 refine⟨_,hle,hc.bp (Below.alloc (Below.refl _ _) (Nat.le_refl _) _) _ _ (fun o u ho hu=>?_),?_⟩
 ·rw[World.cell?_alloc_new];exact hu
 ·have hlen:=jy h (fun x hx=>(hk x hx).2) hv
  refine .sl (sz:=sz) (vs:=fun i=>(vs.flatMap fun v=>v.cells.toList).toArray.getD i undef) rfl (fun _=>rfl) (fun x hx=>(hk x hx).2) (fun i hi=>?_) (fun i c hic=>?_)
  ·have:i<(vs.flatMap fun v=>v.cells.toList).length:=by rw[←hlen];exact hi
   simp only[Gh.bp,Nat.zero_add,if_pos,List.size_toArray,this]
   rw[Array.getD_eq_getD_getElem?,List.getElem?_toArray,List.getElem?_eq_getElem this]
   rfl
  ·obtain⟨u,hu,hr⟩:=hcs i c hic
   have:i<(vs.flatMap fun v=>v.cells.toList).length:=(List.getElem?_eq_some_iff.1 hu).1
   have e:(vs.flatMap fun v=>v.cells.toList).toArray.getD i undef=u:=by
    rw[Array.getD_eq_getD_getElem?]
    simp[hu]
   rw[e]
   exact hr.le hle
theorem gg {sz:Nat}:∀ (i:Nat) (ps:List (Nat×AV)),gw sz i ps=true→(ps.map (·.1)=(List.range' i ps.length))∧∀x∈ps.map (·.2),x.known=true∧x.cells.length=sz
  |_,[],_=>⟨rfl,fun x hx=>by simp at hx⟩
  | i,(j,v)::r,h=>by
    simp only[gw,Bool.and_eq_true,decide_eq_true_eq] at h
    obtain⟨⟨⟨rfl,hk⟩,hsz⟩,hr⟩:=h
    obtain⟨h1,h2⟩:=gg (j+1) r hr
    refine⟨by simp[h1,List.range'_succ],fun x hx=>?_⟩
    simp only[List.map_cons,List.mem_cons] at hx
    rcases hx with rfl|hx
    · exact⟨hk,hsz⟩
    · exact h2 x hx
theorem lh:∀ (l:List (Nat×Value)) (i:Nat),l.map (·.1)=List.range' i l.length→l=((l.map (·.2)).zipIdx i).map fun x=>(x.2,x.1)
  | [],_,_=>rfl
  | (j,v)::r,i,h=>by
    simp only[List.map_cons,List.length_cons,List.range'_succ,List.cons.injEq] at h
    obtain⟨rfl,h⟩:=h
    have:=lh r (j+1) h
    simp only[List.map_cons,List.zipIdx_cons]
    rw[←this]
theorem ll {P:Program} {g:Gh} {w:World} {σ:aa} (hc:ay g w σ) {t:TypeId} {n:Nat} {ps:List (Nat×AV)} {pv:Array (Nat×Value)}
  (h1:ps.map (·.1)=pv.toList.map (·.1)) (h2:RL g (ps.map (·.2)) (pv.toList.map (·.2))) {k:AV→Prop} (hk:iK P (ae P t) n ps k):
  ∃u w' g' r,(Instr.buildSlice t n pv).run P w= .ok u w'∧g.Le g'∧ay g' w' σ∧R g' r u∧k r:=by
 obtain⟨hs,hok,hn,hsm,hpos,hz,hfit,hk⟩:=hk
 have hu:=bT hs
 obtain⟨i,d,i1,i2,i3⟩:=fu hok
 have esz:(ae P (ae P t).elem).size=i.size:=by rw[i3]
 have ez:(ae P (ae P t).elem).zero=i.zero.map ofConst:=by rw[i3]
 rw[ez] at hz
 obtain⟨z,hz⟩:∃z,i.zero=some z:=by
  cases hzz:i.zero with
  |none=>simp[hzz] at hz
  |some z=>exact⟨z,rfl⟩
 rw[esz] at hsm hpos hfit
 obtain⟨f1,f2⟩:=gg 0 ps hfit
 obtain⟨hv,_⟩:=h2.cells hpos f2
 have hlen:pv.toList.length=ps.length:=by have:=congrArg List.length h1;simp at this;simp[this]
 have hpv:pv.toList=((pv.toList.map (·.2)).zipIdx 0).map fun x=>(x.2,x.1):=lh _ _ (by rw[←h1,f1,hlen])
 obtain⟨g',hle,hc',hr⟩:=vb hc h2 hpos f2 (ae P t).elem
 rw[List.length_map,hn] at hr
 refine⟨_,_,g',_,?_,hle,hc',hr,hk⟩
 by_cases h0:n=0
 ·subst h0
  have hp0:ps=[]:=List.eq_nil_of_length_eq_zero hn
  have hpv0:pv= #[]:=by
   have:pv.toList=[]:=List.eq_nil_of_length_eq_zero (by rw[hlen,hp0];rfl)
   exact Array.toList_eq_nil_iff.1 this
  subst hpv0
  have hr0:Array.range 0= #[]:=Array.size_eq_zero_iff.1 (by simp)
  simp[Instr.buildSlice,run_underlying hu,sizeOf,typeInfo,i1,Instr.fill,newRow,hr0]
 ·refine run_buildSlice w t (ae P t).elem n pv (((pv.toList.map (·.2)).flatMap fun v=>v.cells.toList).toArray) i z hu i1 hz (by omega) (by rw[Nat.mul_eq_zero];omega) ?_
  have hw:=Great.fill_whole hpos (pv.toList.map (·.2)) ((Array.range (n*i.size)).map (z.cells[·%z.cells.size]!)) hv (by simp;rw[←hn,←hlen];simp)
  rw[←hpv] at hw
  exact hw
theorem qj {g:Gh} {place:Nat→Option (Nat×Nat)}:∀ (ps:List (Nat×AV)) (pv:List (Nat×Value)) (cs cs':List AV) (zs:Array Value),ps.map (·.1)=pv.map (·.1)→RL g (ps.map (·.2)) (pv.map (·.2))→
    cs.length=zs.size→(∀ (i:Nat) (c:AV) (v:Value),cs[i]? =some c→zs[i]? =some v→R g c v)→nB place cs ps=some cs'→
    ∃zs',Instr.fill place zs pv=some zs'∧cs'.length=zs'.size∧∀ (i:Nat) (c:AV) (v:Value),cs'[i]? =some c→zs'[i]? =some v→R g c v
  | [],[],cs,cs',zs,_,_,hl,h,hf=>by
    simp only[nB,Option.some.injEq] at hf
    subst hf
    exact⟨zs,rfl,hl,h⟩
  | [],_::_,_,_,_,h1,_,_,_,_=>by simp at h1
  |_::_,[],_,_,_,h1,_,_,_,_=>by simp at h1
  | (i,x)::ps,(j,v)::pv,cs,cs',zs,h1,h2,hl,h,hf=>by
    simp only[List.map_cons,List.cons.injEq] at h1
    obtain⟨rfl,h1⟩:=h1
    have hr:R g x v:=h2.2 0 x v rfl rfl
    have h2':RL g (ps.map (·.2)) (pv.map (·.2)):=⟨by have:=h2.1;simpa using this,fun k a b ha hb=>h2.2 (k+1) a b (by simpa using ha) (by simpa using hb)⟩
    simp only[nB] at hf
    cases hp:place i with
    |none=>simp[hp] at hf
    | some os=>
      obtain⟨off,size⟩:=os
      simp only[hp] at hf
      split at hf
      · rename_i hcond
        obtain⟨hkn,hsz,hle⟩:=hcond
        obtain⟨c1,c2⟩:=hr.cells hkn
        have hfold:∀ (l:List Value) (o:Nat) (z:Array Value),o+l.length≤z.size→(l.zipIdx).foldl (fun cs (c,j)=>cs.setIfInBounds (o+j) c) z=(z.toList.take o++l++z.toList.drop (o+l.length)).toArray:=by
          have key:∀ (l:List Value) (o s:Nat) (z:Array Value),o+s+l.length≤z.size→(l.zipIdx s).foldl (fun cs (c,j)=>cs.setIfInBounds (o+j) c) z=(z.toList.take (o+s)++l++z.toList.drop (o+s+l.length)).toArray:=by
            intro l
            induction l with
            |nil=>intro o s z hz;simp
            | cons a l ih=>
              intro o s z hz
              simp only[List.zipIdx_cons,List.foldl_cons]
              rw[ih o (s+1) _ (by simp at hz ⊢;omega)]
              congr 1
              simp only[List.length_cons] at hz
              have ho:o+s<z.toList.length:=by simp;omega
              rw[Array.toList_setIfInBounds,show o+(s+1)=o+s+1 by omega]
              rw[List.take_set,List.drop_set,if_pos (by omega)]
              rw[List.take_succ_eq_append_getElem ho,List.set_append_right _ _ (by simp;omega)]
              simp only[List.length_take,Nat.min_eq_left (Nat.le_of_lt ho),Nat.sub_self,List.set_cons_zero,List.append_assoc,List.length_cons,List.cons_append,List.nil_append]
              rw[show o+s+1+l.length=o+s+(l.length+1) by omega]
          intro l o z hz
          have:=key l o 0 z (by omega)
          simpa using this
        obtain⟨zs',hz1,hz2,hz3⟩:=qj ps pv (cs.take off++x.cells++cs.drop (off+x.cells.length)) cs' (zs.toList.take off++v.cells.toList++zs.toList.drop (off+v.cells.toList.length)).toArray h1 h2'
          (by simp[hl,c1]) (fun m c u hcm hum=>by
            have hl':cs.length=zs.toList.length:=by simpa using hl
            have c1':x.cells.length=v.cells.toList.length:=by simpa using c1
            simp only[List.getElem?_toArray] at hum
            simp only[List.getElem?_append,List.length_append,List.length_take,List.getElem?_take,List.getElem?_drop] at hcm hum
            rw[←hl',←c1'] at hum
            split at hcm
            · rename_i q1
              rw[if_pos q1] at hum
              split at hcm
              · rename_i q2
                rw[if_pos q2] at hum
                split at hcm
                · rename_i q3
                  rw[if_pos q3] at hum
                  exact h m c u hcm (by simpa using hum)
                · cases hcm
              · rename_i q2
                rw[if_neg q2] at hum
                exact c2 _ c u hcm (by simpa using hum)
            · rename_i q1
              rw[if_neg q1] at hum
              exact h _ c u hcm (by simpa using hum)) hf
        refine⟨zs',?_,hz2,hz3⟩
        simp only[Instr.fill,hp]
        have hnot:¬(v.cells.size≠size∨off+v.cells.size>zs.size):=by
          intro hh
          rcases hh with hh|hh
          · exact hh (by rw[←c1];exact hsz)
          · rw[←c1,←hl] at hh;omega
        rw[if_neg (by simpa using hnot)]
        have hf2:=hfold v.cells.toList off zs (by simp only[Array.length_toList];rw[←c1,←hl];exact hle)
        rw[←Array.foldl_toList,Array.toList_zipIdx,hf2]
        exact hz1
      · cases hf
end Go.Kern

namespace Go.Kern
open Go.RowKit
theorem gi {P:Program} {t:TypeId} (h:(ae P t).ok=true):∃i d,P.info? t=some i∧P.underlying t=some d∧(ae P t).zero=i.zero.map ofConst∧(ae P t).size=i.size∧(ae P t).bytes=i.bytes∧(ae P t).kind=aF d:=by
 obtain⟨i,d,h1,h2,h3⟩:=fu h
 exact⟨i,d,h1,h2,by rw[h3],by rw[h3],by rw[h3],by rw[h3]⟩
theorem lP {v:Value} {zs:List AV} (h:ofConst v= .agg zs):∃cs,v= .agg cs∧zs=cs.toList.map dI:=by
 cases v<;>simp only[ofConst] at h<;>first
  |(injection h with h;exact⟨_,rfl,h.symm⟩)
  |(simp only[dI] at h;split at h<;>cases h)
  |(simp only[dI] at h;cases h)
  |cases h
theorem oP {P:Program}:∀ (fs:List Field),(fs.map (cf P)).all (fun f=>decide (f.2.1≠0))=true→
    fs.mapM (fun f=>(P.info? f.type).map fun i=>(f.offset,i.size))=some ((fs.map (cf P)).map fun f=>(f.1,f.2.1))
  | [],_=>rfl
  | f::fs,h=>by
    simp only[List.map_cons,List.all_cons,Bool.and_eq_true,decide_eq_true_eq] at h
    have ih:=oP fs h.2
    have hf:∃i,P.info? f.type=some i∧cf P f=(f.offset,i.size,(cf P f).2.2.1,f.type):=by
      have h1:=h.1
      unfold cf at h1 ⊢
      cases hi:P.info? f.type with
      |none=>simp[hi] at h1
      | some i=>
        cases hd:P.underlying f.type with
        |none=>simp[hi,hd] at h1
        |some d=>exact⟨i,rfl,rfl⟩
    obtain⟨i,hi,he⟩:=hf
    simp only[List.mapM_cons,hi,Option.map_some,Option.bind_eq_bind,Option.bind_some,ih,Option.pure_def,List.map_cons]
    rw[he]
theorem qQ {P:Program} {g:Gh} {w:World} {t:TypeId} {ps:List (Nat×AV)} {pv:Array (Nat×Value)}
  (h1:ps.map (·.1)=pv.toList.map (·.1)) (h2:RL g (ps.map (·.2)) (pv.toList.map (·.2))) {k:AV→Prop} (hk:tU P (ae P t) ps k):
  ∃u r,(Instr.build t pv).run P w= .ok u w∧R g r u∧k r:=by
 obtain⟨hok,hk⟩:=hk
 obtain⟨i,d,i1,i2,i3,i4,i5,i6⟩:=gi hok
 split at hk
 ·rename_i hkind
  obtain⟨hall,hk⟩:=hk
  split at hk
  ·rename_i zs hz
   split at hk
   ·rename_i cs hf
    rw[i3] at hz
    obtain⟨zv,hzv,hze⟩:=Option.map_eq_some_iff.1 hz
    obtain⟨zc,rfl,rfl⟩:=lP hze
    have hd:∃fs,d= .struct fs:=by
     rw[i6] at hkind
     cases d<;>simp[aF] at hkind
     exact⟨_,rfl⟩
    obtain⟨fs,rfl⟩:=hd
    have hfs:(ae P t).fields=fs.toList.map (cf P):=by simp[ae,i1,i2]
    rw[hfs] at hall hf
    have hpl:=oP fs.toList hall
    obtain⟨zs',hz1,hz2,hz3⟩:=qj ps pv.toList _ cs zc h1 h2 (eN g zc).1 (eN g zc).2 hf
    refine⟨.agg zs',.agg cs,run_build w t pv zs' ?_,.agg hz2 hz3,hk⟩
    unfold Program.built
    simp only[i1,i2,hzv,hpl]
    rw[←hz1]
    congr 1
    funext j
    simp
   ·exact hk.elim
  ·exact hk.elim
 ·rename_i n hkind
  obtain⟨hoe,hk⟩:=hk
  split at hk
  ·rename_i zs hz
   split at hk
   ·rename_i cs hf
    rw[i3] at hz
    obtain⟨zv,hzv,hze⟩:=Option.map_eq_some_iff.1 hz
    obtain⟨zc,rfl,rfl⟩:=lP hze
    have hd:∃n' e,d= .array n' e:=by
     rw[i6] at hkind
     cases d<;>simp[aF] at hkind
     exact⟨_,_,rfl⟩
    obtain⟨n',e,rfl⟩:=hd
    have hel:(ae P t).elem=e:=by simp[ae,i1,i2]
    rw[hel] at hoe hf
    obtain⟨ie,de,j1,j2,j3,j4,j5,j6⟩:=gi hoe
    rw[j4] at hf
    obtain⟨zs',hz1,hz2,hz3⟩:=qj ps pv.toList _ cs zc h1 h2 (eN g zc).1 (eN g zc).2 hf
    refine⟨.agg zs',.agg cs,run_build w t pv zs' ?_,.agg hz2 hz3,hk⟩
    unfold Program.built
    simp only[i1,i2,hzv,j1]
    exact hz1
   ·exact hk.elim
  ·exact hk.elim
 ·exact hk.elim
theorem jO (x:AV):ar [x]=x.cells:=by simp[ar]
theorem ux {P:Program} {g:Gh} {w:World} {σ:aa} (hc:ay g w σ) {x:AV} {v:Value} (hx:R g x v) (hk:x.known=true) (e:TypeId) {k:KK}
  (h:∀o,σ o=none→k (.ptr o 0 0) (σ.put o (.arr e [x]))):
  ∃g' r σ',g.Le g'∧ay g' (w.alloc (.cells v.cells e)) σ'∧R g' r (.pointer (some ⟨w.heap.size,0,none⟩))∧k r σ':=by
 obtain⟨o,ho,hol,hot,hor⟩:=hc.new
 obtain⟨c1,c2⟩:=hx.cells hk
 have hcc:=hc.gh (w':=w.alloc (.cells v.cells e)) (Below.alloc (Below.refl _ _) (Nat.le_refl _) _) (by simp) o hol ho hot hor (.arr e [x]) x.cells.length 1 (fun g' hle hl him=>
  ⟨x.cells.length,v.cells,⟨1,hl,by simp[c1]⟩,heap_alloc_new w _,fun r hr=>by rw[List.mem_singleton.1 hr],by simp[c1],fun i c u hci hui=>by
   rw[jO] at hci
   exact(c2 i c u hci hui).le hle,him⟩)
 refine⟨_,_,_,Gh.bx _ hol,hcc,?_,h o ho⟩
 have:=R.ptr (g:=g.bj o (w.heap.size,x.cells.length,1)) (o:=o) (i:=0) (off:=0) (b:=w.heap.size) (sz:=x.cells.length) (n:=1) (by simp[Gh.bj])
 simpa using this
theorem nR {P:Program} {g:Gh} {w:World} {σ:aa} (hc:ay g w σ) {k:KK} (h:∀o,σ o=none→k (.map o) (σ.put o (.map []))):
  ∃g' r σ',g.Le g'∧ay g' (w.alloc (.map #[] 0)) σ'∧R g' r (.map (some w.heap.size))∧k r σ':=by
 obtain⟨o,ho,hol,hot,hor⟩:=hc.new
 have hcc:=hc.gh (w':=w.alloc (.map #[] 0)) (Below.alloc (Below.refl _ _) (Nat.le_refl _) _) (by simp) o hol ho hot hor (.map []) 0 0 (fun g' hle hl him=>
  ⟨#[],0,hl,heap_alloc_new w _,rfl,(fun i kv en hi=>by simp at hi),Go.MapKept.stamped_empty 0⟩)
 refine⟨_,_,_,Gh.bx _ hol,hcc,.map (by simp[Gh.bj]),h o ho⟩
theorem eR (x:AV) (off:Nat) (vs:List AV) (h:off+vs.length≤x.cells.length) (h1:vs.all AV.one=true):(dY x off vs).cells=x.cells.take off++vs++x.cells.drop (off+vs.length):=by
  have gen:x.cells=[x]→dY x off vs=oneOf vs x→(dY x off vs).cells=x.cells.take off++vs++x.cells.drop (off+vs.length):=by
    intro hx hs
    rw[hs]
    have h':=h
    rw[hx] at h'
    match vs with
    | []=>
      simp only[List.append_nil,List.length_nil,Nat.add_zero,List.take_append_drop]
      rfl
    | [v]=>
      simp only[List.length_cons,List.length_nil] at h'
      have:off=0:=by omega
      subst this
      simp only[List.all_cons,List.all_nil,Bool.and_true] at h1
      rw[hx]
      cases v<;>first|(simp[AV.one] at h1;done)|rfl
    |a::b::r=>simp at h';omega
  cases x<;>first|rfl|exact gen rfl rfl
theorem setRow_size (w:World) (b:Nat) (cs:Array Value):(w.setRow b cs).heap.size=w.heap.size:=by simp[World.setRow]
theorem qI {P:Program} {g:Gh} {w:World} {σ:aa} (hc:ay g w σ) {t:TypeId} {p x:AV} {pv v:Value} (hp:R g p pv) (hx:R g x v) {k:aa→Prop} (hk:pC (ae P t) σ p x k):
    ∃w' σ',(Instr.storeAt t pv v).run P w= .ok () w'∧ay g w' σ'∧k σ':=by
  unfold pC at hk
  split at hk
  · rename_i o i off
    split at hk
    · rename_i e rows hrows
      split at hk
      · rename_i y hy
        obtain⟨hok,hkn,hsz,hone,hle,hk⟩:=hk
        cases hp with
        | ptr hb=>
          rename_i b sz n
          obtain⟨blk,h1,h2⟩:=hc.obj
          obtain⟨hB,sz',cells,⟨n',hl,hcn⟩,hh,hu,hcs,hrr,him⟩:=h1 o _ hrows
          rw[hb] at hl
          injection hl with hl
          injection hl with hl1 hl2
          injection hl2 with hl2 hl3
          subst hl2;subst hl3
          rw[←hl1] at hh him
          obtain⟨c1,c2⟩:=hx.cells hkn
          have hys:y.cells.length=sz:=hu y (List.mem_of_getElem? hy)
          have hi:i<rows.length:=(List.getElem?_eq_some_iff.1 hy).1
          have hspl:(dY y off x.cells).cells.length=sz:=by
            rw[eR y off x.cells hle hone]
            simp only[List.length_append,List.length_take,List.length_drop]
            omega
          obtain⟨N,hN⟩:∃N,N=cells.size:=⟨_,rfl⟩
          rw[←hN] at hcs
          have hlen:cells.toList.length=N:=by simp[hN]
          have hmul:i*sz+sz≤rows.length*sz:=by
            have:(i+1)*sz≤rows.length*sz:=Nat.mul_le_mul_right _ hi
            rw[Nat.add_mul] at this;omega
          have hv1:∀u∈v.cells.toList,u.oneCell'=true:=by
            intro u hu'
            obtain⟨j,hj,rfl⟩:=List.getElem_of_mem hu'
            have hj':j<x.cells.length:=by rw[c1];simpa using hj
            have hxj:x.cells[j]? =some x.cells[j]:=List.getElem?_eq_getElem hj'
            refine(c2 j _ _ hxj (by simp at hj ⊢)).one ?_
            exact List.all_eq_true.1 hone _ (List.getElem_mem hj')
          have hrun:=run_storeCells_at (P:=P) b (i*sz+off) e v.cells.toList 0 cells w hh (by simp only[Array.length_toList];omega) hv1
          refine⟨w.setRow b (cells.toList.take (i*sz+off+0)++v.cells.toList++cells.toList.drop (i*sz+off+0+v.cells.toList.length)).toArray,_,?_,?_,hk⟩
          · have hsz':=c7 hok w
            have hnn:¬v.cells.size≠(ae P t).size:=by rw[←c1];simp[hsz]
            simp only[Instr.storeAt,Instr.sureAddr,storeVar,Sem.run_bind,Sem.run_pure,Result.andThen_ok,hsz',if_neg hnn]
            exact hrun
          · refine hc.write (b:=b) hrows (fun blk' hb'=>?_) (fun q hq=>setRow_other w b q _ hq) rfl rfl rfl (setRow_size w b _) him ?_
            · obtain⟨sz2,cells2,⟨n2,hl2,_⟩,_⟩:=hb'
              rw[hb] at hl2
              injection hl2 with hl2
              injection hl2 with hl2 _
              exact hl2.symm
            · refine⟨sz,_,⟨n,hb,?_⟩,setRow_heap w b cells _ e _ hh,?_,?_,?_,him⟩
              · simp only[List.size_toArray,List.length_append,List.length_take,List.length_drop,hlen,Array.length_toList,←c1]
                omega
              · intro r hr
                rcases List.mem_or_eq_of_mem_set hr with hr|rfl
                · exact hu r hr
                · rw[eR y off x.cells hle hone]
                  simp
                  omega
              · simp only[List.length_set,List.size_toArray,List.length_append,List.length_take,List.length_drop,hlen,Array.length_toList,←c1]
                omega
              · intro m c u hm hu2
                have hsz0:0<sz:=by
                  rcases Nat.eq_zero_or_pos sz with h0|h0
                  · exfalso
                    have hall:∀r∈rows.set i (dY y off x.cells),r.cells.length=0:=by
                      intro r hr
                      rcases List.mem_or_eq_of_mem_set hr with hr|rfl
                      · rw[hu r hr,h0]
                      · rw[hspl,h0]
                    have:=aI _ hall
                    have h3:=(List.getElem?_eq_some_iff.1 hm).1
                    rw[this] at h3
                    omega
                  · exact h0
                have huni:∀r∈rows.set i (dY y off x.cells),r.cells.length=sz:=by
                  intro r hr
                  rcases List.mem_or_eq_of_mem_set hr with hr|rfl
                  · exact hu r hr
                  · rw[eR y off x.cells hle hone];simp;omega
                rw[bU hsz0 _ huni] at hm
                have hdm:m/sz*sz+m%sz=m:=by rw[Nat.mul_comm];exact Nat.div_add_mod m sz
                have hml:m%sz<sz:=Nat.mod_lt _ hsz0
                have hold:∀c',(ar rows)[m]? =some c'→∀u',cells[m]? =some u'→R g c' u':=fun c' a u' b=>hrr m c' u' a b
                simp only[Nat.add_zero,List.getElem?_toArray] at hu2
                by_cases hmi:m/sz=i
                · rw[hmi,List.getElem?_set_self hi,Option.bind_some,eR y off x.cells hle hone] at hm
                  have hmm:m=i*sz+m%sz:=by rw[←hmi];exact hdm.symm
                  simp only[List.getElem?_append,List.length_append,List.length_take,List.getElem?_take,List.getElem?_drop] at hm hu2
                  rw[hlen] at hu2
                  have hl2:v.cells.toList.length=x.cells.length:=by simp[c1]
                  rw[hl2] at hu2
                  have hrow:=fG rows hu i (m%sz) y hy (by omega)
                  rw[←hmm] at hrow
                  by_cases q1:m%sz<off
                  · rw[if_pos (by omega),if_pos (by omega),if_pos q1] at hm
                    rw[if_pos (by omega),if_pos (by omega),if_pos (by omega)] at hu2
                    exact hold c (hrow.trans hm) u (by simpa using hu2)
                  · by_cases q2:m%sz<off+x.cells.length
                    · rw[if_pos (by omega),if_neg (by omega)] at hm
                      rw[if_pos (by omega),if_neg (by omega)] at hu2
                      have e1:m-min (i*sz+off) N=m%sz-min off y.cells.length:=by omega
                      rw[e1] at hu2
                      exact c2 _ c u hm (by simpa using hu2)
                    · rw[if_neg (by omega)] at hm
                      rw[if_neg (by omega)] at hu2
                      have e2:off+x.cells.length+(m%sz-(min off y.cells.length+x.cells.length))=m%sz:=by omega
                      have e3:i*sz+off+x.cells.length+(m-(min (i*sz+off) N+x.cells.length))=m:=by omega
                      rw[e2] at hm
                      rw[e3] at hu2
                      exact hold c (hrow.trans hm) u (by simpa using hu2)
                · rw[List.getElem?_set_ne (fun h=>hmi h.symm)] at hm
                  have hc0:(ar rows)[m]? =some c:=by rw[bU hsz0 _ hu];exact hm
                  refine hold c hc0 u ?_
                  have hl2:v.cells.toList.length=x.cells.length:=by simp[c1]
                  simp only[List.getElem?_append,List.length_append,List.length_take,List.getElem?_take,List.getElem?_drop] at hu2
                  rw[hlen,hl2] at hu2
                  by_cases q:m/sz<i
                  · have:m<i*sz:=by
                      have:(m/sz+1)*sz≤i*sz:=Nat.mul_le_mul_right _ q
                      rw[Nat.add_mul] at this;omega
                    rw[if_pos (by omega),if_pos (by omega),if_pos (by omega)] at hu2
                    simpa using hu2
                  · have:i*sz+sz≤m:=by
                      have:(i+1)*sz≤(m/sz)*sz:=Nat.mul_le_mul_right _ (by omega)
                      rw[Nat.add_mul] at this;omega
                    rw[if_neg (by omega)] at hu2
                    have e3:i*sz+off+x.cells.length+(m-(min (i*sz+off) N+x.cells.length))=m:=by omega
                    rw[e3] at hu2
                    simpa using hu2
      · exact hk.elim
    · exact hk.elim
  · exact hk.elim
end Go.Kern

namespace Go.Kern
open Go.RowKit Go.MapKept
def PK.of:PK→Value→Bool
 | .bool,.bool _=>true
 | .int k,.int j _=>decide (j=k)
 | .str,.string _=>true
 |_,_=>false
def fits:List PK→List Value→Bool
 | [],[]=>true
 |k::ks,v::vs=>k.of v&&fits ks vs
 |_,_=>false
theorem dQ:∀{ks:List PK} {vs:List Value},fits ks vs=true→vs.length=ks.length
  | [],[],_=>rfl
  | [],_::_,h=>by simp[fits] at h
  |_::_,[],h=>by simp[fits] at h
  | k::ks,v::vs,h=>by
    simp only[fits,Bool.and_eq_true] at h
    simp[dQ h.2]
theorem fD:∀{as bs:List PK} {vs:List Value},fits (as++bs) vs=true→fits as (vs.take as.length)=true∧fits bs (vs.drop as.length)=true
  | [],bs,vs,h=>by simpa [fits] using h
  |k::as,bs,[],h=>by simp[fits] at h
  | k::as,bs,v::vs,h=>by
    simp only[List.cons_append,fits,Bool.and_eq_true] at h
    have ih:=fD h.2
    simp[fits,h.1,ih.1,ih.2]
def whole (P:Program) (t:TypeId) (a:Value):Bool:=
 match P.underlying t,a with
 |some (.array _ _),.agg _=>true
 |some (.struct _),.agg _=>true
 |some .bool,.bool _=>true
 |some (.int _),.int _ _=>true
 |some .string,.string _=>true
 |_,_=>false
section
variable {P:Program}
theorem eX {m:Nat} {t:TypeId} {ks:List PK} (h:b9 P m t=some ks) (hs:P.cellsOf t=ks.length) (w:World) (xs:Array Value) (off:Nat) (hf:fits ks ((xs.toList.drop off).take ks.length)=true):
    ∃a,(part t xs off).run P w= .ok a w∧whole P t a=true∧a.cells.toList=(xs.toList.drop off).take ks.length:=by
  cases m with
  |zero=>simp[b9] at h
  | succ m=>
    unfold b9 at h
    cases hu:P.underlying t with
    |none=>simp[hu] at h
    | some d=>
      obtain⟨i,hi⟩:=info_of_underlying hu
      have agg:(aF d).agg=true→(∀ys,whole P t (.agg ys)=true)→∃a,(part t xs off).run P w= .ok a w∧whole P t a=true∧a.cells.toList=(xs.toList.drop off).take ks.length:=by
        intro hk hw
        have hl:(xs.extract off (off+P.cellsOf t)).toList=(xs.toList.drop off).take ks.length:=by
          rw[Array.toList_extract,hs]
          simp[List.extract]
        refine⟨.agg (xs.extract off (off+P.cellsOf t)),?_,hw _,hl⟩
        cases d<;>simp[aF,TK.agg] at hk<;>simp[part,isAgg,run_underlying hu,run_sizeOf w hi]
      have one:∀{k:PK},ks=[k]→P.plainKey t=true→(∀v,k.of v=true→whole P t v=true∧v.cells= #[v])→∃a,(part t xs off).run P w= .ok a w∧whole P t a=true∧a.cells.toList=(xs.toList.drop off).take ks.length:=by
        rintro k rfl hp hv
        have hlen:=dQ hf
        simp only[List.length_singleton] at hlen hf ⊢
        match hq:(xs.toList.drop off).take 1,hlen with
        | [v],_=>
          rw[hq] at hf
          simp only[fits,Bool.and_true] at hf
          obtain⟨h1,h2⟩:=hv v hf
          refine⟨v,run_part_plain w hp ?_,h1,by rw[h2]⟩
          have:(xs.toList.drop off)[0]? =some v:=by
            have:=congrArg (fun l=>l[0]?) hq
            simpa using this
          simpa using this
      cases d
      case bool=>
        simp only[hu,Option.some.injEq] at h
        exact one h.symm (by simp[Program.plainKey,hu]) (fun v hv=>by cases v<;>simp[PK.of] at hv<;>simp[whole,hu,Value.cells])
      case int k=>
        simp only[hu,Option.some.injEq] at h
        exact one h.symm (by simp[Program.plainKey,hu]) (fun v hv=>by cases v<;>simp[PK.of] at hv<;>simp[whole,hu,Value.cells])
      case string=>
        simp only[hu,Option.some.injEq] at h
        exact one h.symm (by simp[Program.plainKey,hu]) (fun v hv=>by cases v<;>simp[PK.of] at hv<;>simp[whole,hu,Value.cells])
      case array n e=>exact agg rfl (fun ys=>by simp[whole,hu])
      case struct fs=>exact agg rfl (fun ys=>by simp[whole,hu])
      all_goals (simp[hu] at h;done)
def C6 (P:Program) (d:Nat) (t:TypeId) (ks:List PK):Prop:=
  ∀ (w:World) (a b:Value),whole P t a=true→whole P t b=true→fits ks a.cells.toList=true→fits ks b.cells.toList=true→
    ∃r:Bool,(Op.equalIn d t a b).run P w= .ok r w∧(r=true↔a.cells.toList=b.cells.toList)
def Dn (P:Program) (em:Bool) (d:Nat) (t:TypeId) (ks:List PK):Prop:=
 ∀ (w:World) (a:Value),whole P t a=true→fits ks a.cells.toList=true→(Instr.checkKey em d t a).run P w= .ok () w
theorem jc {ks:List PK}:∀{n:Nat} {vs:List Value},fits (List.replicate n ks).flatten vs=true→∀i,i<n→fits ks ((vs.drop (i*ks.length)).take ks.length)=true
  |0,_,_,i,hi=>by omega
  | n+1,vs,h,i,hi=>by
    rw[List.replicate_succ,List.flatten_cons] at h
    obtain⟨h1,h2⟩:=fD h
    cases i with
    |zero=>simpa using h1
    | succ i=>
      have:=jc h2 i (by omega)
      rw[List.drop_drop] at this
      rw[Nat.succ_mul,Nat.add_comm]
      exact this
theorem uj (c:Nat):∀ (n:Nat) (vs us:List Value),vs.length=n*c→us.length=n*c→(vs=us↔∀i,i<n→(vs.drop (i*c)).take c=(us.drop (i*c)).take c)
  | 0,vs,us,h1,h2=>by
    have e1:vs=[]:=List.eq_nil_of_length_eq_zero (by simpa using h1)
    have e2:us=[]:=List.eq_nil_of_length_eq_zero (by simpa using h2)
    subst e1;subst e2
    simp
  | n+1,vs,us,h1,h2=>by
    have ih:=uj c n (vs.drop c) (us.drop c) (by rw[List.length_drop,h1,Nat.succ_mul];omega) (by rw[List.length_drop,h2,Nat.succ_mul];omega)
    constructor
    · rintro rfl i _;rfl
    · intro h
      have h0:=h 0 (by omega)
      simp only[Nat.zero_mul,List.drop_zero] at h0
      have hr:=ih.2 fun i hi=>by
        have:=h (i+1) (by omega)
        rw[List.drop_drop,List.drop_drop,show c+i*c=(i+1)*c by rw[Nat.succ_mul];omega]
        exact this
      rw[←List.take_append_drop c vs,←List.take_append_drop c us,h0,hr]
theorem ng {d m:Nat} {e:TypeId} {ks:List PK} (he:b9 P m e=some ks) (hs:P.cellsOf e=ks.length) (IH:C6 P d e ks) (xs ys:Array Value) (w:World):
    ∀ (is:List Nat),(∀i∈is,fits ks ((xs.toList.drop (i*ks.length)).take ks.length)=true)→(∀i∈is,fits ks ((ys.toList.drop (i*ks.length)).take ks.length)=true)→
      ∃r:Bool,(Op.eqItems d e ks.length xs ys is).run P w= .ok r w∧(r=true↔∀i∈is,(xs.toList.drop (i*ks.length)).take ks.length=(ys.toList.drop (i*ks.length)).take ks.length)
  | [],_,_=>⟨true,by simp[Op.eqItems],by simp⟩
  | i::is,hx,hy=>by
    obtain⟨a,p1,f1,c1⟩:=eX he hs w xs (i*ks.length) (hx i List.mem_cons_self)
    obtain⟨b,p2,f2,c2⟩:=eX he hs w ys (i*ks.length) (hy i List.mem_cons_self)
    obtain⟨r,p3,hiff⟩:=IH w a b f1 f2 (by rw[c1];exact hx i List.mem_cons_self) (by rw[c2];exact hy i List.mem_cons_self)
    obtain⟨r',hr',hiff'⟩:=ng he hs IH xs ys w is (fun j hj=>hx j (List.mem_cons_of_mem _ hj)) (fun j hj=>hy j (List.mem_cons_of_mem _ hj))
    rw[c1,c2] at hiff
    simp only[Op.eqItems,Sem.run_bind,p1,p2,p3,Result.andThen_ok,List.forall_mem_cons]
    cases r
    · exact⟨false,by simp,by simp;intro e;exact absurd (hiff.2 e) (by simp)⟩
    · exact⟨r',by simpa using hr',by rw[hiff'];simp[hiff.1 rfl]⟩
theorem lV {d m:Nat} (IH:∀t ks,b9 P m t=some ks→C6 P d t ks) (xs ys:Array Value) (w:World):
    ∀ (fs:List Field) (off:Nat) (ks:List PK),lG P (b9 P m) off fs=some ks→fits ks (xs.toList.drop off)=true→fits ks (ys.toList.drop off)=true→
      ∃r:Bool,(Op.eqFields d xs ys fs).run P w= .ok r w∧(r=true↔xs.toList.drop off=ys.toList.drop off)
  | [],off,ks,h,hx,hy=>by
    simp only[lG,Option.some.injEq] at h
    subst h
    have e1:=List.eq_nil_of_length_eq_zero (dQ hx)
    have e2:=List.eq_nil_of_length_eq_zero (dQ hy)
    exact⟨true,by simp[Op.eqFields],by rw[e1,e2];simp⟩
  | f::fs,off,ks,h,hx,hy=>by
    unfold lG at h
    split at h
    · cases h
    · rename_i hn
      have hn1:f.name≠ "_" :=fun e=>hn (.inl e)
      have hn2:f.offset=off:=by
        by_cases e:f.offset=off
        · exact e
        · exact absurd (.inr e) hn
      split at h
      · rename_i k1 hk1
        split at h
        · rename_i hs
          obtain⟨k2,hk2,rfl⟩:=Option.map_eq_some_iff.1 h
          obtain⟨x1,x2⟩:=fD hx
          obtain⟨y1,y2⟩:=fD hy
          rw[List.drop_drop] at x2 y2
          obtain⟨a,p1,f1,c1⟩:=eX hk1 hs w xs off x1
          obtain⟨b,p2,f2,c2⟩:=eX hk1 hs w ys off y1
          obtain⟨r,p3,hiff⟩:=IH _ _ hk1 w a b f1 f2 (by rw[c1];exact x1) (by rw[c2];exact y1)
          obtain⟨r',hr',hiff'⟩:=lV IH xs ys w fs (off+k1.length) k2 hk2 x2 y2
          rw[c1,c2] at hiff
          have hall:xs.toList.drop off=ys.toList.drop off↔(xs.toList.drop off).take k1.length=(ys.toList.drop off).take k1.length∧xs.toList.drop (off+k1.length)=ys.toList.drop (off+k1.length):=by
            constructor
            · intro e
              refine⟨by rw[e],?_⟩
              rw[←List.drop_drop,←List.drop_drop,e]
            · rintro⟨e1,e2⟩
              rw[←List.drop_drop,←List.drop_drop] at e2
              rw[←List.take_append_drop k1.length (xs.toList.drop off),←List.take_append_drop k1.length (ys.toList.drop off),e1,e2]
          simp only[Op.eqFields,hn1,hn2,ne_eq,not_false_eq_true,if_true,Sem.run_bind,p1,p2,p3,Result.andThen_ok]
          cases r
          · exact⟨false,by simp,by rw[hall];simp;intro e;exact absurd (hiff.2 e) (by simp)⟩
          · exact⟨r',by simpa using hr',by rw[hiff',hall];simp[hiff.1 rfl]⟩
        · cases h
      · cases h
theorem gK (d:Nat):∀ (m:Nat) (t:TypeId) (ks:List PK),b9 P m t=some ks→C6 P (d+m) t ks
  |0,_,_,h=>by simp[b9] at h
  | m+1,t,ks,h=>by
    intro w a b wa wb fa fb
    unfold b9 at h
    cases hu:P.underlying t with
    |none=>simp[hu] at h
    | some kd=>
      cases kd
      case bool=>
        cases a<;>simp[whole,hu] at wa
        cases b<;>simp[whole,hu] at wb
        rename_i p q
        exact⟨p==q,by rw[show d+(m+1)=(d+m)+1 from rfl];simp[Op.equalIn,run_underlying hu],by simp[Value.cells]⟩
      case int k=>
        simp only[hu,Option.some.injEq] at h
        subst h
        cases a<;>simp[whole,hu] at wa
        cases b<;>simp[whole,hu] at wb
        rename_i k1 p k2 q
        simp[fits,PK.of,Value.cells] at fa fb
        subst fa;subst fb
        exact⟨p==q,by rw[show d+(m+1)=(d+m)+1 from rfl];simp[Op.equalIn,run_underlying hu],by simp[Value.cells]⟩
      case string=>
        cases a<;>simp[whole,hu] at wa
        cases b<;>simp[whole,hu] at wb
        rename_i p q
        exact⟨p==q,by rw[show d+(m+1)=(d+m)+1 from rfl];simp[Op.equalIn,run_underlying hu],by simp[Value.cells,bytes_beq]⟩
      case array n e=>
        simp only[hu] at h
        cases a<;>simp[whole,hu] at wa
        cases b<;>simp[whole,hu] at wb
        rename_i xs ys
        split at h
        · rename_i k1 hk1
          split at h
          · rename_i hs
            injection h with h
            subst h
            simp only[Value.cells] at fa fb ⊢
            have hie:∃i,P.info? e=some i:=by
              cases m with
              |zero=>simp[b9] at hk1
              | succ m'=>
                unfold b9 at hk1
                cases hue:P.underlying e with
                |none=>simp[hue] at hk1
                |some _=>exact info_of_underlying hue
            obtain⟨i,hi⟩:=hie
            obtain⟨r,hr,hiff⟩:=ng hk1 hs (gK d m e k1 hk1) xs ys w (List.range n) (fun i hi=>jc fa i (by simpa using hi)) (fun i hi=>jc fb i (by simpa using hi))
            have l1:=dQ fa
            have l2:=dQ fb
            have hlen:(List.replicate n k1).flatten.length=n*k1.length:=by simp
            rw[hlen] at l1 l2
            refine⟨r,by rw[show d+(m+1)=(d+m)+1 from rfl,run_equalIn_array w (d+m) xs ys hu hi,hs];exact hr,?_⟩
            rw[hiff,uj k1.length n _ _ l1 l2]
            simp
          · cases h
        · cases h
      case struct fs=>
        simp only[hu] at h
        cases a<;>simp[whole,hu] at wa
        cases b<;>simp[whole,hu] at wb
        rename_i xs ys
        split at h
        · cases h
        · rename_i bg
          simp only[Value.cells] at fa fb ⊢
          have hfs:P.fieldsOf t=fs:=by simp[Program.fieldsOf,hu]
          obtain⟨r,hr,hiff⟩:=lV (fun t ks h=>gK d m t ks h) xs ys w fs.toList 0 ks h (by simpa using fa) (by simpa using fb)
          refine⟨r,by rw[show d+(m+1)=(d+m)+1 from rfl,run_equalIn_struct w (d+m) t xs ys (by rw[hfs];exact hu) (by simpa using bg),hfs];exact hr,by simpa using hiff⟩
      all_goals (simp[hu] at h;done)
theorem jM (em:Bool) (d:Nat):∀ (m:Nat) (t:TypeId) (ks:List PK),b9 P m t=some ks→Dn P em (d+m) t ks
  |0,_,_,h=>by simp[b9] at h
  | m+1,t,ks,h=>by
    intro w a wa fa
    unfold b9 at h
    cases hu:P.underlying t with
    |none=>simp[hu] at h
    | some kd=>
      cases kd
      case bool=>cases a<;>simp[whole,hu] at wa;rw[show d+(m+1)=(d+m)+1 from rfl];simp[Instr.checkKey,run_underlying hu]
      case int k=>cases a<;>simp[whole,hu] at wa;rw[show d+(m+1)=(d+m)+1 from rfl];simp[Instr.checkKey,run_underlying hu]
      case string=>cases a<;>simp[whole,hu] at wa;rw[show d+(m+1)=(d+m)+1 from rfl];simp[Instr.checkKey,run_underlying hu]
      case array n e=>
        simp only[hu] at h
        cases a<;>simp[whole,hu] at wa
        rename_i xs
        split at h
        · rename_i k1 hk1
          split at h
          · rename_i hs
            injection h with h
            subst h
            simp only[Value.cells] at fa
            have hie:∃i,P.info? e=some i:=by
              cases m with
              |zero=>simp[b9] at hk1
              | succ m'=>
                unfold b9 at hk1
                cases hue:P.underlying e with
                |none=>simp[hue] at hk1
                |some _=>exact info_of_underlying hue
            obtain⟨i,hi⟩:=hie
            have IH:=jM em d m e k1 hk1
            have each:∀i∈List.range n,fits k1 ((xs.toList.drop (i*k1.length)).take k1.length)=true:=fun i hi=>jc fa i (by simpa using hi)
            rw[show d+(m+1)=(d+m)+1 from rfl,Instr.checkKey]
            simp only[Sem.run_bind,run_underlying hu,Result.andThen_ok]
            simp only[Std.Legacy.Range.forIn_eq_forIn_range',Std.Legacy.Range.size,Nat.sub_zero,Nat.add_one_sub_one,Nat.div_one]
            rw[List.range_eq_range'] at each
            generalize List.range' 0 n=is at each
            induction is with
            |nil=>simp
            | cons j is ih=>
              obtain⟨a,p1,f1,c1⟩:=eX hk1 hs w xs (j*k1.length) (each j List.mem_cons_self)
              have p2:=IH w a f1 (by rw[c1];exact each j List.mem_cons_self)
              simp only[List.forIn_cons,Sem.run_bind,run_sizeOf w hi,hs,Result.andThen_ok,p1,p2,Sem.run_pure]
              exact ih (fun y hy=>each y (List.mem_cons_of_mem _ hy))
          · cases h
        · cases h
      case struct fs=>
        simp only[hu] at h
        cases a<;>simp[whole,hu] at wa
        rename_i xs
        split at h
        · cases h
        · simp only[Value.cells] at fa
          rw[show d+(m+1)=(d+m)+1 from rfl,Instr.checkKey]
          simp only[Sem.run_bind,run_underlying hu,Result.andThen_ok]
          rw[←Array.forIn_toList]
          have fa0:fits ks (xs.toList.drop 0)=true:=by simpa using fa
          clear fa
          generalize fs.toList=L at h
          generalize 0=off at h fa0
          induction L generalizing off ks with
          |nil=>simp
          | cons f L ih=>
            unfold lG at h
            split at h
            · cases h
            · rename_i hn
              have hn1:f.name≠ "_" :=fun e=>hn (.inl e)
              have hn2:f.offset=off:=by
                by_cases e:f.offset=off
                · exact e
                · exact absurd (.inr e) hn
              split at h
              · rename_i k1 hk1
                split at h
                · rename_i hs
                  obtain⟨k2,hk2,rfl⟩:=Option.map_eq_some_iff.1 h
                  obtain⟨x1,x2⟩:=fD fa0
                  rw[List.drop_drop] at x2
                  obtain⟨a,p1,f1,c1⟩:=eX hk1 hs w xs off x1
                  have p2:=jM em d m _ _ hk1 w a f1 (by rw[c1];exact x1)
                  simp only[List.forIn_cons,Sem.run_bind,hn1,hn2,ne_eq,not_false_eq_true,if_true,Result.andThen_ok,p1,p2,Sem.run_pure]
                  exact ih k2 (off+k1.length) hk2 x2
                · cases h
              · cases h
      all_goals (simp[hu] at h;done)
end
end Go.Kern

namespace Go.Kern
open Go.RowKit Go.MapKept
def sy (P:Program) (t:TypeId) (v:Value):Prop:=
 (∃d,P.underlying t=some d∧IsKey d v)∨((∃d,P.underlying t=some d∧(aF d).agg=true)∧∃ks,b9 P 6 t=some ks∧whole P t v=true∧fits ks v.cells.toList=true)
theorem iJ {g:Gh}:∀{ks:List PK} {cs:List AV} {vs:List Value},cs.length=vs.length→(∀ (i:Nat) (c:AV) (v:Value),cs[i]? =some c→vs[i]? =some v→R g c v)→bL ks cs=true→fits ks vs=true
  | [],[],[],_,_,_=>rfl
  | [],[],_::_,hl,_,_=>by simp at hl
  | [],_::_,_,_,_,h=>by simp[bL] at h
  |_::_,[],_,_,_,h=>by simp[bL] at h
  |_::_,_::_,[],hl,_,_=>by simp at hl
  | k::ks,c::cs,v::vs,hl,hr,h=>by
    simp only[bL,Bool.and_eq_true] at h
    have h0:=hr 0 c v rfl rfl
    have ih:=iJ (ks:=ks) (cs:=cs) (vs:=vs) (by simpa using hl) (fun i c v h1 h2=>hr (i+1) c v (by simpa using h1) (by simpa using h2)) h.2
    simp only[fits,ih,Bool.and_true]
    have h1:=h.1
    cases k<;>cases c<;>simp[fH] at h1<;>cases h0<;>simp[PK.of,h1]
theorem vQ {k:PK} {g:Gh} {a b:AV} {u v:Value} (h1:R g a u) (h2:R g b v) (k1:fH k a=true) (k2:fH k b=true):pb a b=true↔u=v:=by
 cases k<;>cases a<;>simp[fH] at k1<;>cases b<;>simp[fH] at k2<;>cases h1<;>cases h2<;>simp[pb]
 subst k1;subst k2
 simp
theorem nH {g:Gh}:∀{ks:List PK} {as bs:List AV} {us vs:List Value},as.length=us.length→bs.length=vs.length→(∀ (i:Nat) (c:AV) (v:Value),as[i]? =some c→us[i]? =some v→R g c v)→(∀ (i:Nat) (c:AV) (v:Value),bs[i]? =some c→vs[i]? =some v→R g c v)→
    bL ks as=true→bL ks bs=true→(dL as bs=true↔us=vs)
  | [],[],[],[],[],_,_,_,_,_,_=>by simp[dL]
  | [],_::_,_,_,_,_,_,_,_,h,_=>by simp[bL] at h
  | [],_,_::_,_,_,_,_,_,_,_,h=>by simp[bL] at h
  | [],[],_,_::_,_,hl,_,_,_,_,_=>by simp at hl
  | [],_,[],_,_::_,_,hl,_,_,_,_=>by simp at hl
  |_::_,[],_,_,_,_,_,_,_,h,_=>by simp[bL] at h
  |_::_,_,[],_,_,_,_,_,_,_,h=>by simp[bL] at h
  |_::_,_::_,_,[],_,hl,_,_,_,_,_=>by simp at hl
  |_::_,_,_::_,_,[],_,hl,_,_,_,_=>by simp at hl
  | k::ks,a::as,b::bs,u::us,v::vs,l1,l2,r1,r2,h1,h2=>by
    simp only[bL,Bool.and_eq_true] at h1 h2
    have ih:=nH (ks:=ks) (as:=as) (bs:=bs) (us:=us) (vs:=vs) (by simpa using l1) (by simpa using l2) (fun i c v h1 h2=>r1 (i+1) c v (by simpa using h1) (by simpa using h2)) (fun i c v h1 h2=>r2 (i+1) c v (by simpa using h1) (by simpa using h2)) h1.2 h2.2
    have h0:=vQ (r1 0 a u rfl rfl) (r2 0 b v rfl rfl) h1.1 h2.1
    simp only[dL,Bool.and_eq_true,ih,h0,List.cons.injEq]
theorem ue {P:Program} {t:TypeId} {ks:List PK} (h:(ae P t).kk= .wide ks):b9 P 6 t=some ks∧P.eqGuardType P.depth t=false∧∃d,P.underlying t=some d∧(aF d).agg=true:=by
 unfold ae at h
 split at h
 ·rename_i i d h1 h2
  simp only at h
  unfold uB at h
  rw[h2] at h
  cases d
  case array n e=>
   simp only at h
   split at h
   ·cases h
   ·rename_i hg
    split at h
    ·rename_i ks' hk;cases h;exact⟨hk,by simpa using hg,_,h2,rfl⟩
    ·cases h
  case struct fs=>
   simp only at h
   split at h
   ·cases h
   ·rename_i hg
    split at h
    ·rename_i ks' hk;cases h;exact⟨hk,by simpa using hg,_,h2,rfl⟩
    ·cases h
  all_goals (simp[aF] at h;done)
 ·cases h
theorem wS {P:Program} {t:TypeId} {a:AV} (h:aH (ae P t).kk a=true) (hw:∀ks,(ae P t).kk≠ .wide ks):∃d,P.underlying t=some d∧(ae P t).kk=aF d:=by
  unfold ae at h hw ⊢
  split
  · rename_i i d h1 h2
    simp only[h1,h2] at h hw ⊢
    refine⟨d,rfl,?_⟩
    unfold uB at h hw ⊢
    rw[h2] at h hw ⊢
    cases d<;>simp only[aF]<;>simp only at h hw
    all_goals (split at h;· cases a<;>simp[aH] at h)
    all_goals (split at h;· rename_i hg _ ks hk;exact absurd (by rw[if_neg hg,hk]) (hw ks))
    all_goals (cases a<;>simp[aH] at h)
  · rename_i h1
    cases hi:P.info? t with
    |none=>simp[hi] at h;cases a<;>simp[aH] at h
    | some i=>cases hd:P.underlying t with
      |none=>simp[hi,hd] at h;cases a<;>simp[aH] at h
      |some d=>exact absurd hd (h1 i d hi)
theorem vZ {P:Program} {t:TypeId} {d:TypeDesc} (hu:P.underlying t=some d) (hd:(aF d).agg=true) (vs:Array Value):whole P t (.agg vs)=true:=by
 cases d<;>simp[aF,TK.agg] at hd<;>simp[whole,hu]
theorem fc {P:Program} {t:TypeId} {g:Gh} {a:AV} {v:Value} (h:R g a v) (hk:aH (ae P t).kk a=true):sy P t v:=by
  by_cases hw:∃ks,(ae P t).kk= .wide ks
  · obtain⟨ks,hw⟩:=hw
    obtain⟨h1,_,d,h2,h3⟩:=ue hw
    rw[hw] at hk
    cases a<;>simp[aH] at hk
    cases h with
    | agg hl hr=>
      rename_i cs vs
      exact .inr ⟨⟨d,h2,h3⟩,ks,h1,vZ h2 h3 _,iJ (by simpa [Value.cells] using hl) (fun i c v h1 h2=>hr i c v h1 (by simpa [Value.cells] using h2)) hk⟩
  · obtain⟨d,hu,hd⟩:=wS hk fun ks e=>hw ⟨ks,e⟩
    rw[hd] at hk
    refine .inl ⟨d,hu,?_⟩
    cases d<;>cases a<;>simp[aF,aH] at hk<;>cases h<;>simp[IsKey,hk]
theorem kF {K:TK} {g:Gh} {a b:AV} {u v:Value} (h1:R g a u) (h2:R g b v) (k1:aH K a=true) (k2:aH K b=true):dv a b=true↔u=v:=by
  by_cases hw:∃ks,K= .wide ks
  · obtain⟨ks,rfl⟩:=hw
    cases a<;>simp[aH] at k1
    cases b<;>simp[aH] at k2
    cases h1 with
    | agg l1 r1=>
      cases h2 with
      | agg l2 r2=>
        rename_i as bs us vs
        have:=nH (g:=g) (ks:=ks) (as:=as) (bs:=bs) (us:=us.toList) (vs:=vs.toList) (by simpa using l1) (by simpa using l2) (fun i c v h1 h2=>r1 i c v h1 (by simpa using h2)) (fun i c v h1 h2=>r2 i c v h1 (by simpa using h2)) k1 k2
        simp only[dv,this,Value.agg.injEq]
        exact⟨fun e=>Array.ext' e,fun e=>by rw[e]⟩
  · cases K
    case wide ks=>exact absurd ⟨ks,rfl⟩ hw
    all_goals
      cases a<;>simp[aH] at k1
    all_goals
      cases b<;>simp[aH] at k2
    all_goals
      cases h1
    all_goals
      cases h2
    all_goals
      first
        |(simp[dv];done)
        |(subst k1;subst k2;simp[dv];done)
open Classical in
noncomputable def cP (k:Value):List MapEntry→Nat→Option (Nat×Value)
 | [],_=>none
 |e::es,i=>if e.key=k then some (i,e.val) else cP k es (i+1)
theorem nq {k:Value}:∀{en:List MapEntry} {i:Nat},cP k en i=none→∀x,x∈en→¬x.key=k
  | [],_,_,x,hx=>by simp at hx
  | e::es,i,h,x,hx=>by
    simp only[cP] at h
    split at h
    · cases h
    · rename_i hn
      rcases List.mem_cons.1 hx with rfl|hx
      · exact hn
      · exact nq h x hx
theorem iQ {P:Program} {w:World} {t:TypeId} {k:Value} (hk:sy P t k) {en:List MapEntry} (hall:∀e∈en,sy P t e.key):(Instr.findKey t k en).run P w= .ok (cP k en 0) w:=by
  rcases hk with ⟨d,hu,hk⟩|⟨⟨d,hu,hd⟩,ks,hf,hwk,hfk⟩
  · have:∀ (en:List MapEntry) (i:Nat),(∀e∈en,sy P t e.key)→Instr.findNow d k en i=some (cP k en i):=by
      intro en
      induction en with
      |nil=>intro i _;rfl
      | cons e es ih=>
        intro i hall
        have he:IsKey d e.key:=by
          rcases hall e List.mem_cons_self with ⟨d',hu',h'⟩|⟨⟨d',hu',h'⟩,_⟩
          · rw[hu] at hu';injection hu' with hu';rw[hu'];exact h'
          · rw[hu] at hu';injection hu' with hu'
            subst hu'
            cases d<;>simp[aF,TK.agg] at h'<;>cases k<;>simp[IsKey] at hk
        obtain⟨r,hr,hiff⟩:=sameNow_of_keys hk he
        have ih':=ih (i+1) fun e he=>hall e (List.mem_cons_of_mem _ he)
        unfold Instr.findNow cP
        rw[hr]
        cases r with
        |true=>simp only;rw[if_pos (hiff.1 rfl).symm]
        |false=>simp only;rw[if_neg (fun e=>by have:=hiff.2 e.symm;cases this),ih']
    simp[Instr.findKey,run_underlying hu,this en 0 hall]
  · have hwide:(match P.underlying t with|some (.array _ _)|some (.struct _)=>true|_=>false)=true:=by
      rw[hu];cases d<;>simp[aF,TK.agg] at hd<;>rfl
    rw[run_findKey_eq w hwide]
    have:∀ (en:List MapEntry) (i:Nat),(∀e∈en,sy P t e.key)→(Instr.findAsking t k en i).run P w= .ok (cP k en i) w:=by
      intro en
      induction en with
      |nil=>intro i _;simp[Instr.findAsking,cP]
      | cons e es ih=>
        intro i hall
        obtain⟨hwe,hfe⟩:whole P t e.key=true∧fits ks e.key.cells.toList=true:=by
          rcases hall e List.mem_cons_self with ⟨d',hu',h'⟩|⟨_,ks',hf',h1,h2⟩
          · rw[hu] at hu';injection hu' with hu'
            subst hu'
            cases d<;>simp[aF,TK.agg] at hd<;>cases hq:e.key<;>simp[IsKey,hq] at h'
          · rw[hf] at hf';injection hf' with hf';subst hf';exact⟨h1,h2⟩
        obtain⟨r,hr,hiff⟩:=gK 9994 6 t ks hf w k e.key hwk hwe hfk hfe
        have heq:(Op.equal t k e.key).run P w= .ok r w:=hr
        have hag:∀v,whole P t v=true→∃xs,v= .agg xs:=by
          intro v hv
          unfold whole at hv
          rw[hu] at hv
          cases d<;>simp[aF,TK.agg] at hd<;>cases v<;>simp at hv<;>exact⟨_,rfl⟩
        have hiff2:r=true↔e.key=k:=by
          rw[hiff]
          obtain⟨xs,hx⟩:=hag _ hwk
          obtain⟨ys,hy⟩:=hag _ hwe
          rw[hx,hy]
          simp only[Value.cells,Value.agg.injEq]
          exact⟨fun e=>(Array.ext' e).symm,fun e=>by rw[e]⟩
        have ih':=ih (i+1) fun e he=>hall e (List.mem_cons_of_mem _ he)
        unfold Instr.findAsking cP
        simp only[Sem.run_bind,heq,Result.andThen_ok]
        cases r with
        |true=>rw[if_pos rfl,if_pos (hiff2.1 rfl)];rfl
        |false=>rw[if_neg (by simp),if_neg (fun e=>by have:=hiff2.2 e;cases this),ih']
    exact this en 0 hall
theorem jE {P:Program} {w:World} {t:TypeId} {k:Value} (hk:sy P t k) (b:Bool):(Instr.checkKey b 10000 t k).run P w= .ok () w:=by
 rcases hk with ⟨d,hu,hk⟩|⟨_,ks,hf,hwk,hfk⟩
 ·exact MapKept.run_checkKey hu hk b 9999
 ·exact jM b 9994 6 t ks hf w k hwk hfk
theorem nW {P:Program} {t:TypeId} {k:Value} (hk:sy P t k):Instr.sameBits 10000 k k=true:=by
  rcases hk with ⟨d,hu,hk⟩|⟨⟨d,hu,hd⟩,ks,hf,hwk,hfk⟩
  · cases d<;>cases k<;>simp[IsKey] at hk<;>simp[Instr.sameBits,bytes_beq]
  · have:∃xs,k= .agg xs:=by
      unfold whole at hwk
      rw[hu] at hwk
      cases d<;>simp[aF,TK.agg] at hd<;>cases k<;>simp at hwk<;>exact⟨_,rfl⟩
    obtain⟨xs,rfl⟩:=this
    show Instr.sameBits (9999+1) (.agg xs) (.agg xs)=true
    simp only[Instr.sameBits,beq_self_eq_true,Bool.true_and,List.all_eq_true]
    simp only[Value.cells] at hfk
    have one:∀ (p:PK) (v:Value),p.of v=true→Instr.sameBits 9999 v v=true:=by
      intro p v hp
      cases p<;>cases v<;>simp[PK.of] at hp<;>simp[Instr.sameBits,bytes_beq]
    have:∀ (ks:List PK) (vs:List Value),fits ks vs=true→∀q∈vs.zip vs,Instr.sameBits 9999 q.1 q.2=true:=by
      intro ks vs
      induction vs generalizing ks with
      |nil=>intro _ q hq;simp at hq
      | cons v vs ih=>
        intro h q hq
        cases ks with
        |nil=>simp[fits] at h
        | cons p ks=>
          simp only[fits,Bool.and_eq_true] at h
          simp only[List.zip_cons_cons,List.mem_cons] at hq
          rcases hq with rfl|hq
          · exact one p v h.1
          · exact ih ks h.2 q hq
    exact this ks _ hfk
def qy (g:Gh) (es:List (AV×AV)) (en:List MapEntry):Prop:=
 es.length=en.length∧∀ (i:Nat) (kv:AV×AV) (e:MapEntry),es[i]? =some kv→en[i]? =some e→R g kv.1 e.key∧R g kv.2 e.val
theorem qy.tail {g:Gh} {a:AV×AV} {b:MapEntry} {es:List (AV×AV)} {en:List MapEntry} (h:qy g (a::es) (b::en)):qy g es en:=
 ⟨by have:=h.1;simpa using this,fun i kv e h1 h2=>h.2 (i+1) kv e (by simpa using h1) (by simpa using h2)⟩
theorem qy.head {g:Gh} {a:AV×AV} {b:MapEntry} {es:List (AV×AV)} {en:List MapEntry} (h:qy g (a::es) (b::en)):R g a.1 b.key∧R g a.2 b.val:=h.2 0 a b rfl rfl
theorem rR {K:TK} {g:Gh} {key:AV} {kv:Value} (hkey:R g key kv) (hk:aH K key=true):
    ∀ (es:List (AV×AV)) (en:List MapEntry) (i:Nat),qy g es en→es.all (fun e=>aH K e.1)=true→
      (match es.find? (fun e=>dv key e.1) with
        |none=>cP kv en i=none∧dq key (.any) es=es++[(key,.any)]
        |some x=>∃j e,cP kv en i=some (i+j,e.val)∧en[j]? =some e∧e.key=kv∧R g x.2 e.val∧j<es.length)
  | [],[],i,_,_=>⟨rfl,rfl⟩
  | [],_::_,_,h,_=>by have:=h.1;simp at this
  |_::_,[],_,h,_=>by have:=h.1;simp at this
  | a::es,b::en,i,h,hall=>by
    simp only[List.all_cons,Bool.and_eq_true] at hall
    have hb:=h.head
    have hiff:=kF hkey hb.1 hk hall.1
    simp only[List.find?_cons]
    cases hq:dv key a.1 with
    | true=>
      have e1:=(hiff.1 hq).symm
      exact⟨0,b,by rw[cP,if_pos e1];rfl,rfl,e1,hb.2,by simp⟩
    | false=>
      have e1:¬b.key=kv:=fun e=>by have:=hiff.2 e.symm;rw[hq] at this;cases this
      have ih:=rR hkey hk es en (i+1) h.tail hall.2
      simp only
      cases hf:es.find? (fun e=>dv key e.1) with
      | none=>
        rw[hf] at ih
        exact⟨by rw[cP,if_neg e1];exact ih.1,by simp only[dq,hq,Bool.false_eq_true,if_false,List.cons_append,ih.2]⟩
      | some x=>
        rw[hf] at ih
        obtain⟨j,e,h1,h2,h3,h4,h5⟩:=ih
        exact⟨j+1,e,by rw[cP,if_neg e1,h1];congr 2;omega,by simpa using h2,h3,h4,by simp;omega⟩
theorem pV {P:Program} {t:TypeId} (h:(ae P t).kind= .map):P.underlying t=some (.map (ae P t).key (ae P t).elem):=by
 obtain⟨i,d,h1,h2,h3⟩:=bC h (by simp)
 cases d<;>simp[aF] at h3
 simp[ae,h1,h2]
theorem pW {g:Gh} {w:World} {σ:aa} (hc:ay g w σ) {o b:Nat} {es:List (AV×AV)} (ho:σ o=some (.map es)) (hb:g.loc o=some (b,0,0)):
  ∃ (en:Array MapEntry) (ck:Nat),w.heap[b]? =some (.map en ck)∧qy g es en.toList∧Go.MapKept.Stamped en ck:=by
 obtain⟨blk,h4,_⟩:=hc.obj
 obtain⟨_,en,ck,hl,hh,hlen,hr,bg⟩:=h4 o _ ho
 rw[hb] at hl
 injection hl with hl
 injection hl with hl _
 rw[←hl] at hh
 exact⟨en,ck,hh,⟨by simpa using hlen,fun i kv e h1 h2=>hr i kv e h1 (by simpa using h2)⟩,bg⟩
theorem qn {P:Program} {t:TypeId} {g:Gh} {es:List (AV×AV)} {en:List MapEntry} (h:qy g es en) (hall:es.all (fun e=>aH (ae P t).kk e.1)=true):∀e∈en,sy P t e.key:=by
 intro e he
 obtain⟨i,hi,rfl⟩:=List.getElem_of_mem he
 have hi':i<es.length:=by rw[h.1];exact hi
 have:=h.2 i es[i] en[i] (List.getElem?_eq_getElem hi') (List.getElem?_eq_getElem hi)
 exact fc this.1 (List.all_eq_true.1 hall _ (List.getElem_mem hi'))
theorem jZ {P:Program} {g:Gh} {w:World} {σ:aa} (hc:ay g w σ) {t:TypeId} {m key:AV} {mv kv:Value} (hm:R g m mv) (hkey:R g key kv) {ok:Bool} {k:AV→Prop} (hk:pZ P (ae P t) σ m key ok k):
    ∃u r,(Instr.lookup t mv kv ok).run P w= .ok u w∧R g r u∧k r:=by
  obtain⟨hkind,hkk,hoe,hk⟩:=hk
  have hu:=pV hkind
  have hisk:=fc hkey hkk
  have hck:∀b,(Instr.checkKey b 10000 (ae P t).key kv).run P w= .ok () w:=fun b=>jE hisk b
  have fin:∀ (a:AV) (v:Value) (b:Bool),R g a v→R g (if ok=true then .bK [a,.bool b] else a) (if ok=true then .tuple #[v,.bool b] else v):=by
    intro a v b h
    split
    · exact ym h (.bool b)
    · exact h
  split at hk
  · split at hk
    · rename_i z hz
      cases hm
      obtain⟨zv,hzv,hzr,_⟩:=gm hoe hz w
      refine⟨if ok=true then .tuple #[zv,.bool false] else zv,_,?_,fin z zv false (hzr g),hk⟩
      have hfk:=iQ (P:=P) (w:=w) hisk (en:=[]) (by simp)
      unfold Instr.lookup
      simp only[Sem.run_bind,run_underlying hu,Result.andThen_ok,hck,Array.toList_empty,hfk,cP,hzv,Sem.run_pure]
    · exact hk.elim
  · rename_i o
    split at hk
    · rename_i es hes
      cases hm with
      | map hb=>
        rename_i b
        obtain⟨en,ck,hh,hre,bg⟩:=pW hc hes hb
        obtain⟨hall,hk⟩:=hk
        replace hall:es.all (fun e=>aH (ae P (ae P t).key).kk e.1)=true:=hall
        have hgo:(getObj b).run P w= .ok (.map en ck) w:=by simp[getObj,Sem.run,hh]
        have habs:=rR hkey hkk es en.toList 0 hre hall
        have hfk:=iQ (P:=P) (w:=w) hisk (qn hre hall)
        cases hf:es.find? (fun e=>dv key e.1) with
        | none=>
          rw[hf] at habs hk
          simp only at hk
          cases hz:(ae P (ae P t).elem).zero with
          |none=>simp[hz] at hk
          | some z=>
            simp only[hz] at hk
            obtain⟨zv,hzv,hzr,_⟩:=gm hoe hz w
            refine⟨if ok=true then .tuple #[zv,.bool false] else zv,_,?_,fin z zv false (hzr g),hk⟩
            rw[habs.1] at hfk
            unfold Instr.lookup
            simp only[Sem.run_bind,run_underlying hu,Result.andThen_ok,hgo,Sem.run_pure,hck,hfk,hzv]
        | some x=>
          rw[hf] at habs hk
          simp only at hk
          obtain⟨j,e,h1,h2,h3,h4,h5⟩:=habs
          refine⟨if ok=true then .tuple #[e.val,.bool true] else e.val,_,?_,fin _ _ true h4,hk⟩
          rw[h1] at hfk
          unfold Instr.lookup
          simp only[Sem.run_bind,run_underlying hu,Result.andThen_ok,hgo,Sem.run_pure,hck,hfk]
    · exact hk.elim
  · exact hk.elim
theorem pd {K:TK} {g:Gh} {key v:AV} {kv vv:Value} (hkey:R g key kv) (hv:R g v vv) (hk:aH K key=true) (ck:Nat):
    ∀ (es:List (AV×AV)) (en:List MapEntry) (i:Nat),qy g es en→es.all (fun e=>aH K e.1)=true→
      (cP kv en i=none∧qy g (dq key v es) (en++[{key:=kv,val:=vv,born:=ck}]))∨
      (∃j e,cP kv en i=some (i+j,e.val)∧en[j]? =some e∧e.key=kv∧qy g (dq key v es) (en.set j {e with key:=kv,val:=vv}))
  | [],[],i,_,_=> .inl ⟨rfl,rfl,fun j kv' e h1 h2=>by
      cases j with
      |zero=>simp[dq] at h1 h2;subst h1;subst h2;exact⟨hkey,hv⟩
      |succ j=>simp[dq] at h1⟩
  | [],_::_,_,h,_=>by have:=h.1;simp at this
  |_::_,[],_,h,_=>by have:=h.1;simp at this
  | a::es,b::en,i,h,hall=>by
    simp only[List.all_cons,Bool.and_eq_true] at hall
    have hb:=h.head
    have hiff:=kF hkey hb.1 hk hall.1
    have cons:∀{x:AV×AV} {y:MapEntry} {xs:List (AV×AV)} {ys:List MapEntry},R g x.1 y.key→R g x.2 y.val→qy g xs ys→qy g (x::xs) (y::ys):=by
      intro x y xs ys q1 q2 q3
      refine⟨by simp[q3.1],fun j kv' e h1 h2=>?_⟩
      cases j with
      |zero=>simp at h1 h2;subst h1;subst h2;exact⟨q1,q2⟩
      |succ j=>exact q3.2 j kv' e (by simpa using h1) (by simpa using h2)
    simp only[dq]
    cases hq:dv key a.1 with
    | true=>
      have e1:=(hiff.1 hq).symm
      refine .inr ⟨0,b,by rw[cP,if_pos e1];rfl,rfl,e1,?_⟩
      simp only[if_true,List.set_cons_zero]
      exact cons hkey hv h.tail
    | false=>
      have e1:¬b.key=kv:=fun e=>by have:=hiff.2 e.symm;rw[hq] at this;cases this
      simp only[Bool.false_eq_true,if_false]
      rcases pd hkey hv hk ck es en (i+1) h.tail hall.2 with ⟨h1,h2⟩|⟨j,e,h1,h2,h3,h4⟩
      · exact .inl ⟨by rw[cP,if_neg e1];exact h1,cons hb.1 hb.2 h2⟩
      · exact .inr ⟨j+1,e,by rw[cP,if_neg e1,h1];congr 2;omega,by simpa using h2,h3,by simp only[List.set_cons_succ];exact cons hb.1 hb.2 h4⟩
theorem fS {P:Program} {w:World} {b:Nat} {en en':Array MapEntry} {ck ck':Nat} (hh:w.heap[b]? =some (.map en ck)):
  (setObj b (.map en' ck')).run P w= .ok () {w with heap:=w.heap.setIfInBounds b (.map en' ck')}:=by
 simp[setObj,Sem.run,hh]
theorem ay.pK {g:Gh} {w:World} {σ:aa} (hc:ay g w σ) {o b:Nat} {es es':List (AV×AV)} (ho:σ o=some (.map es)) (hb:g.loc o=some (b,0,0)) {en en':Array MapEntry} {ck ck':Nat} (hh:w.heap[b]? =some (.map en ck))
    (hre:qy g es' en'.toList) (bg:Go.MapKept.Stamped en' ck'):ay g {w with heap:=w.heap.setIfInBounds b (.map en' ck')} (σ.put o (.map es')):=by
  have hlt:b<w.heap.size:=(Array.getElem?_eq_some_iff.1 hh).1
  refine hc.write (b:=b) ho (fun blk hbl=>?_) (fun k hk=>by simp[Array.getElem?_setIfInBounds,Ne.symm hk]) rfl rfl rfl (by simp) (fun off=>?_) ?_
  · obtain⟨en2,ck2,hl,_⟩:=hbl
    rw[hb] at hl
    injection hl with hl
    injection hl with hl _
    exact hl.symm
  · cases hi:g.bf b off with
    |none=>rfl
    | some v=>
      have:=hc.bf _ _ _ hi
      simp[World.cell?,hh] at this
  · exact⟨en',ck',hb,by simp[Array.getElem?_setIfInBounds,hlt],by simpa using hre.1,(fun i kv e h1 h2=>hre.2 i kv e h1 (by simpa using h2)),bg⟩
theorem jY {P:Program} {g:Gh} {w:World} {σ:aa} (hc:ay g w σ) {t:TypeId} {m key v:AV} {mv kv vv:Value} (hm:R g m mv) (hkey:R g key kv) (hv:R g v vv) {k:aa→Prop} (hk:mj P (ae P t) σ m key v k):
    ∃w' σ',(Instr.mapUpdate t mv kv vv).run P w= .ok () w'∧ay g w' σ'∧k σ':=by
  obtain⟨hkind,hkk,hk⟩:=hk
  have hu:=pV hkind
  have hisk:=fc hkey hkk
  have hck:∀b,(Instr.checkKey b 10000 (ae P t).key kv).run P w= .ok () w:=fun b=>jE hisk b
  split at hk
  · rename_i o
    split at hk
    · rename_i es hes
      cases hm with
      | map hb=>
        rename_i b
        obtain⟨en,ck,hh,hre,bg⟩:=pW hc hes hb
        obtain⟨hall,hk⟩:=hk
        replace hall:es.all (fun e=>aH (ae P (ae P t).key).kk e.1)=true:=hall
        have hgo:(getObj b).run P w= .ok (.map en ck) w:=by simp[getObj,Sem.run,hh]
        have hfk:=iQ (P:=P) (w:=w) hisk (qn hre hall)
        rcases pd hkey hv hkk ck es en.toList 0 hre hall with ⟨h1,h2⟩|⟨j,e,h1,h2,h3,h4⟩
        · rw[h1] at hfk
          refine⟨_,_,?_,hc.pK hes hb hh (en':=en.push {key:=kv,val:=vv,born:=ck}) (ck':=ck+1) (by simpa using h2) (Go.MapKept.stamped_push bg fun x hx e=>nq h1 x hx e),hk⟩
          unfold Instr.mapUpdate
          simp only[Sem.run_bind,run_underlying hu,Result.andThen_ok,hgo,hck,hfk]
          exact fS hh
        · rw[h1] at hfk
          have hj:j<en.size:=by have:=(List.getElem?_eq_some_iff.1 h2).1;simpa using this
          have hej:en[j]? =some e:=by simpa using h2
          refine⟨_,_,?_,hc.pK hes hb hh (en':=en.modify j fun x=> {x with key:=kv,val:=vv}) (ck':=ck) ?_ (Go.MapKept.stamped_modify bg j _ (fun _ _=>rfl) (fun x _ hx=>by rw[hej] at hx;injection hx with hx;subst hx;exact h3.symm)),hk⟩
          · unfold Instr.mapUpdate
            simp only[Sem.run_bind,run_underlying hu,Result.andThen_ok,hgo,hck,hfk,Nat.zero_add,hej,Option.map_some,Option.getD_some,Instr.keyThatStays,h3,nW hisk,if_true,Sem.run_pure]
            exact fS hh
          · have:(en.modify j fun x=> {x with key:=kv,val:=vv}).toList=en.toList.set j {e with key:=kv,val:=vv}:=by
              apply List.ext_getElem?
              intro q
              rw[Array.getElem?_toList,Array.getElem?_modify,List.getElem?_set]
              by_cases hq:j=q
              · subst hq
                rw[if_pos rfl,if_pos rfl,if_pos (by simpa using hj),hej]
                rfl
              · rw[if_neg hq,if_neg hq]
                simp
            rw[this]
            exact h4
    · exact hk.elim
  · exact hk.elim
theorem pj {K:TK} {g:Gh} {key:AV} {kv:Value} (hkey:R g key kv) (hk:aH K key=true):
    ∀ (es:List (AV×AV)) (en:List MapEntry) (i:Nat),qy g es en→es.all (fun e=>aH K e.1)=true→
      (cP kv en i=none∧qy g (nM key es) en)∨
      (∃j e,cP kv en i=some (i+j,e.val)∧en[j]? =some e∧qy g (nM key es) (en.eraseIdx j))
  | [],[],i,h,_=> .inl ⟨rfl,h⟩
  | [],_::_,_,h,_=>by have:=h.1;simp at this
  |_::_,[],_,h,_=>by have:=h.1;simp at this
  | a::es,b::en,i,h,hall=>by
    simp only[List.all_cons,Bool.and_eq_true] at hall
    have hb:=h.head
    have hiff:=kF hkey hb.1 hk hall.1
    have cons:∀{x:AV×AV} {y:MapEntry} {xs:List (AV×AV)} {ys:List MapEntry},R g x.1 y.key→R g x.2 y.val→qy g xs ys→qy g (x::xs) (y::ys):=by
      intro x y xs ys q1 q2 q3
      refine⟨by simp[q3.1],fun j kv' e h1 h2=>?_⟩
      cases j with
      |zero=>simp at h1 h2;subst h1;subst h2;exact⟨q1,q2⟩
      |succ j=>exact q3.2 j kv' e (by simpa using h1) (by simpa using h2)
    simp only[nM]
    cases hq:dv key a.1 with
    | true=>
      have e1:=(hiff.1 hq).symm
      refine .inr ⟨0,b,by rw[cP,if_pos e1];rfl,rfl,?_⟩
      simp only[if_true,List.eraseIdx_cons_zero]
      exact h.tail
    | false=>
      have e1:¬b.key=kv:=fun e=>by have:=hiff.2 e.symm;rw[hq] at this;cases this
      simp only[Bool.false_eq_true,if_false]
      rcases pj hkey hk es en (i+1) h.tail hall.2 with ⟨h1,h2⟩|⟨j,e,h1,h2,h3⟩
      · exact .inl ⟨by rw[cP,if_neg e1];exact h1,cons hb.1 hb.2 h2⟩
      · exact .inr ⟨j+1,e,by rw[cP,if_neg e1,h1];congr 2;omega,by simpa using h2,by simp only[List.eraseIdx_cons_succ];exact cons hb.1 hb.2 h3⟩
theorem pD {P:Program} {g:Gh} {w:World} {σ:aa} (hc:ay g w σ) {t t2 ty:TypeId} {m key:AV} {mv kv:Value} (hm:R g m mv) (hkey:R g key kv) {k:aa→Prop} (hk:pY P (ae P t) σ m key k):
    ∃w' σ',(Builtin.delete_ #[t,t2] ty #[mv,kv]).run P w= .ok (.tuple #[]) w'∧ay g w' σ'∧k σ':=by
  obtain⟨hkind,hkk,hk⟩:=hk
  have hu:=pV hkind
  have hisk:=fc hkey hkk
  have hck:∀b,(Instr.checkKey b 10000 (ae P t).key kv).run P w= .ok () w:=fun b=>jE hisk b
  split at hk
  · rename_i o
    split at hk
    · rename_i es hes
      cases hm with
      | map hb=>
        rename_i b
        obtain⟨en,ck,hh,hre,bg⟩:=pW hc hes hb
        obtain⟨hall,hk⟩:=hk
        replace hall:es.all (fun e=>aH (ae P (ae P t).key).kk e.1)=true:=hall
        have hgo:(getObj b).run P w= .ok (.map en ck) w:=by simp[getObj,Sem.run,hh]
        have hlt:b<w.heap.size:=(Array.getElem?_eq_some_iff.1 hh).1
        have hfk:=iQ (P:=P) (w:=w) hisk (qn hre hall)
        rcases pj hkey hkk es en.toList 0 hre hall with ⟨h1,h2⟩|⟨j,e,h1,h2,h4⟩
        · rw[h1] at hfk
          refine⟨_,_,?_,hc.pK hes hb hh (en':=en) (ck':=ck) h2 bg,hk⟩
          unfold Builtin.delete_
          simp[run_underlying hu,hgo,hck,hfk,fS hh]
        · rw[h1] at hfk
          have hj:j<en.size:=by have:=(List.getElem?_eq_some_iff.1 h2).1;simpa using this
          refine⟨_,_,?_,hc.pK hes hb hh (en':=en.eraseIdxIfInBounds j) (ck':=ck) ?_ (Go.MapKept.stamped_erase bg j),hk⟩
          · unfold Builtin.delete_
            simp[run_underlying hu,hgo,hck,hfk,fS hh]
          · have:(en.eraseIdxIfInBounds j).toList=en.toList.eraseIdx j:=by
              unfold Array.eraseIdxIfInBounds
              rw[dif_pos hj]
              simp
            rw[this]
            exact h4
    · exact hk.elim
  · exact hk.elim
end Go.Kern

namespace Go.Kern
open Go.RowKit
def Gh.bt (g:Gh) (o n:Nat) (v:Value) (b:Nat) (cs:List Value):Gh:=
 {g with bf:=fun b' i=>if b'=b∧i<cs.length then cs[i]? else g.bf b' i,tipv:=fun p m=>if p=o∧m=n then some v else g.tipv p m}
theorem Gh.pw {g:Gh} {o n:Nat} {v:Value} {b:Nat} {cs:List Value} (ht:g.tipv o n=none) (hi:∀i u,i<cs.length→g.bf b i=some u→cs[i]? =some u):g.Le (g.bt o n v b cs):=
 ⟨rfl,fun b' i u h=>by
  simp only[Gh.bt]
  split
  ·rename_i hc;obtain⟨rfl,hl⟩:=hc;exact hi i u hl h
  ·exact h,fun _ _ h=>h,fun p m u h=>by
  simp only[Gh.bt]
  split
  ·rename_i hc;obtain⟨rfl,rfl⟩:=hc;rw[ht] at h;cases h
  ·exact h,rfl⟩
def fk (g:Gh) (σ:aa) (o n:Nat) (e:TypeId) (sz:Nat):Prop:=
 (σ o=none∧g.loc o=none∧(∀m,g.tipv o m=none)∧¬g.res o)∨(∃n0,σ o=some (.tip n0 e sz)∧n0<n∧∀m,n0<m→g.tipv o m=none)
theorem fk.later {g:Gh} {σ:aa} {o n:Nat} {e:TypeId} {sz:Nat} (h:fk g σ o n e sz):∀m,n≤m→g.tipv o m=none:=by
 rcases h with ⟨_,_,h,_⟩|⟨n0,_,hn,h⟩
 ·exact fun m _=>h m
 ·exact fun m hm=>h m (by omega)
theorem o0 {g:Gh} {σ:aa} {N o:Nat} (hN:∀p,N≤p→g.loc p=none∧(∀m,g.tipv p m=none)∧σ p=none∧¬g.res p) (n:Nat) (v:Value) (b:Nat) (cs:List Value) (x:Ob):
  ∃N,∀p,N≤p→(g.bt o n v b cs).loc p=none∧(∀m,(g.bt o n v b cs).tipv p m=none)∧(σ.put o x) p=none∧¬ (g.bt o n v b cs).res p:=by
 refine⟨max N (o+1),fun p hp=>?_⟩
 have hpo:p≠o:=by omega
 have:=hN p (by omega)
 exact⟨this.1,fun m=>by simp only[Gh.bt];rw[if_neg (fun h=>hpo h.1)];exact this.2.1 m,by simp only[aa.put];rw[if_neg hpo];exact this.2.2.1,this.2.2.2⟩
theorem um {g:Gh} {w:World} {σ:aa} (hc:ay g w σ) {o n:Nat} (hno:¬g.res o) (v:Value) (b:Nat) (cs:List Value) (x:Ob):
  ∀p,(g.bt o n v b cs).res p→(g.bt o n v b cs).loc p=none∧(∀m,(g.bt o n v b cs).tipv p m=none)∧(σ.put o x) p=none:=by
 intro p hp
 have hp':g.res p:=hp
 have hpo:p≠o:=fun e=>hno (by rw[←e];exact hp')
 have:=hc.res p hp'
 exact⟨this.1,fun m=>by simp only[Gh.bt];rw[if_neg (fun h=>hpo h.1)];exact this.2.1 m,by simp only[aa.put];rw[if_neg hpo];exact this.2.2⟩
theorem fk.BZ {g:Gh} {w:World} {σ:aa} (hc:ay g w σ) {o n:Nat} {e:TypeId} {sz:Nat} (h:fk g σ o n e sz):¬g.res o:=by
 rcases h with ⟨_,_,_,h⟩|⟨n0,ho,_,_⟩
 ·exact h
 ·intro hr;rw[(hc.res o hr).2.2] at ho;cases ho
theorem uf {g:Gh} {w w':World} {σ:aa} (hc:ay g w σ) (hb:Below w.heap.size w w') {o n:Nat} {e:TypeId} {sz cap:Nat} {cur:Array Value} {cs:List Value}
  (hh:w'.heap[w.heap.size]? =some (.cells cur e (0,0))) (hn:n≤cap) (hcm:cap≤maxLen) (hcs:cur.size=cap*sz) (hl:cs.length=n*sz) (htk:cur.toList.take (n*sz)=cs) (hbef:fk g σ o n e sz):
  ∃g',g.Le g'∧ay g' w' (σ.put o (.tip n e sz))∧g'.tipv o n=some (.slice (some ⟨w.heap.size,0,none⟩) n cap)∧(∀i v,cs[i]? =some v→g'.bf w.heap.size i=some v):=by
 have hnone:∀i,g.bf w.heap.size i=none:=fun i=>by
  cases hi:g.bf w.heap.size i with
  |none=>rfl
  |some v=>exact absurd (hc.nh hi) (Nat.lt_irrefl _)
 have hlater:=hbef.later
 have hle:g.Le (g.bt o n (.slice (some ⟨w.heap.size,0,none⟩) n cap) w.heap.size cs):=Gh.pw (hlater n (Nat.le_refl _)) (fun i u _ h=>by rw[hnone i] at h;cases h)
 have hgrow:=hc.grow hb
 refine⟨_,hle,⟨hgrow.below,fun b i v hi=>?_,hgrow.loc,?_,um hgrow (hbef.BZ hc) _ _ _ _,?_⟩,by simp[Gh.bt],fun i v hv=>?_⟩
 ·simp only[Gh.bt] at hi
  split at hi
  ·rename_i hcd
   obtain⟨rfl,hlt⟩:=hcd
   rw[←htk,List.getElem?_take] at hi
   split at hi
   ·simp only[World.cell?,hh]
    simpa using hi
   ·cases hi
  ·exact hgrow.bf b i v hi
 ·obtain⟨N,hN⟩:=hgrow.fresh
  exact o0 hN _ _ _ _ _
 ·obtain⟨blk,h1,h2⟩:=hc.obj
  refine⟨fun p=>if p=o then w.heap.size else blk p,fun p x hp=>?_,fun p q x y hp hq he=>?_⟩
  ·simp only[aa.put] at hp
   by_cases hpo:p=o
   ·subst hpo
    rw[if_pos rfl] at hp
    injection hp with hp
    subst hp
    simp only[if_pos]
    refine⟨hc.below.size,cap,cur,by simp[Gh.bt],fun m hm=>?_,hh,hn,hcm,hcs,fun off ho=>?_⟩
    ·simp only[Gh.bt];rw[if_neg (by omega)];exact hlater m (by omega)
    ·simp only[Gh.bt];rw[if_neg (by omega)];exact hnone off
   ·rw[if_neg hpo] at hp
    simp only[if_neg hpo]
    have hlt:=(h1 p x hp).2.lt
    exact⟨(h1 p x hp).1,(h1 p x hp).2.iy hle (hb.block _ hlt) (fun off=>by simp only[Gh.bt];rw[if_neg (by omega)]) (fun m=>by simp only[Gh.bt];rw[if_neg (fun h=>hpo h.1)])⟩
  ·simp only[aa.put] at hp hq
   by_cases hpo:p=o<;>by_cases hqo:q=o
   ·rw[hpo,hqo]
   ·rw[if_neg hqo] at hq
    simp only[if_pos hpo,if_neg hqo] at he
    exact absurd (h1 q y hq).2.lt (by omega)
   ·rw[if_neg hpo] at hp
    simp only[if_neg hpo,if_pos hqo] at he
    exact absurd (h1 p x hp).2.lt (by omega)
   ·rw[if_neg hpo] at hp;rw[if_neg hqo] at hq
    simp only[if_neg hpo,if_neg hqo] at he
    exact h2 p q x y hp hq he
 ·simp only[Gh.bt]
  rw[if_pos ⟨trivial,(List.getElem?_eq_some_iff.1 hv).1⟩]
  exact hv
theorem Ak {g:Gh} {w:World} {σ:aa} (hc:ay g w σ) {o n0 n:Nat} {e:TypeId} {sz b cap:Nat} {cur:Array Value} {news:List Value} (ho:σ o=some (.tip n0 e sz)) (hlt:n0<n)
    (htip:g.tipv o n0=some (.slice (some ⟨b,0,none⟩) n0 cap)) (hh:w.heap[b]? =some (.cells cur e (0,0))) (hn:n≤cap) (hcs:cur.size=cap*sz) (hl:n0*sz+news.length=n*sz):
    ∃ g',g.Le g'∧ay g' (w.setRow b (cur.toList.take (n0*sz)++news++cur.toList.drop (n0*sz+news.length)).toArray) (σ.put o (.tip n e sz))∧g'.tipv o n=some (.slice (some ⟨b,0,none⟩) n cap)∧
      (∀i v,(cur.toList.take (n0*sz)++news)[i]? =some v→g'.bf b i=some v):=by
  obtain⟨blk,h1,h2⟩:=hc.obj
  obtain⟨hB,cap',cur',ht',hlater,hh',_,hcm,hcs',him⟩:=h1 o _ ho
  rw[htip] at ht'
  injection ht' with ht'
  injection ht' with e1 e2 e3
  injection e1 with e1
  injection e1 with e1
  subst e3
  have hbo:blk o=b:=e1.symm
  rw[hbo] at him hB
  have hmul:n*sz≤cap*sz:=Nat.mul_le_mul_right _ hn
  have hlen0:(cur.toList.take (n0*sz)).length=n0*sz:=by rw[List.length_take,Array.length_toList,hcs];omega
  have himm:∀i u,g.bf b i=some u→(cur.toList.take (n0*sz)++news)[i]? =some u:=by
    intro i u hi
    have hi0:i<n0*sz:=by
      rcases Nat.lt_or_ge i (n0*sz) with h|h
      · exact h
      · rw[him i h] at hi;cases hi
    have:=hc.bf _ _ _ hi
    simp only[World.cell?,hh] at this
    rw[List.getElem?_append_left (by omega),List.getElem?_take,if_pos hi0]
    simpa using this
  have hle:g.Le (g.bt o n (.slice (some ⟨b,0,none⟩) n cap) b (cur.toList.take (n0*sz)++news)):=Gh.pw (hlater n hlt) (fun i u _ h=>himm i u h)
  have hheap:=setRow_heap w b cur (cur.toList.take (n0*sz)++news++cur.toList.drop (n0*sz+news.length)).toArray e _ hh
  have hoth:∀k,k≠b→(w.setRow b (cur.toList.take (n0*sz)++news++cur.toList.drop (n0*sz+news.length)).toArray).heap[k]? =w.heap[k]? :=fun k hk=>setRow_other w b k _ hk
  have hlen2:(cur.toList.take (n0*sz)++news).length=n*sz:=by rw[List.length_append,hlen0,hl]
  refine⟨_,hle,⟨hc.below.trans ⟨rfl,rfl,rfl,by rw[setRow_size];exact Nat.le_refl _,fun k hk=>hoth k (by omega)⟩,fun b' i v hi=>?_,fun p b' sz' n' hl'=>⟨(hc.loc p b' sz' n' hl').1,by rw[setRow_size];exact(hc.loc p b' sz' n' hl').2⟩,?_,um hc (fun hr=>by rw[(hc.res o hr).2.2] at ho;cases ho) _ _ _ _,?_⟩,by simp[Gh.bt],fun i v hv=>?_⟩
  · simp only[Gh.bt] at hi
    split at hi
    · rename_i hcd
      obtain⟨rfl,hlt'⟩:=hcd
      simp only[World.cell?,hheap]
      rw[List.getElem?_toArray,List.getElem?_append_left hlt']
      simpa using hi
    · rename_i hnc
      by_cases hbb:b'=b
      · subst hbb
        have:=himm i v hi
        exact absurd ⟨rfl,(List.getElem?_eq_some_iff.1 this).1⟩ hnc
      · exact(World.cell?_of_block (a:=⟨b',i,none⟩) (hoth b' hbb)).trans (hc.bf b' i v hi)
  · obtain⟨N,hN⟩:=hc.fresh
    exact o0 hN _ _ _ _ _
  · refine⟨blk,fun p x hp=>?_,fun p q x y hp hq he=>?_⟩
    · simp only[aa.put] at hp
      by_cases hpo:p=o
      · subst hpo
        rw[if_pos rfl] at hp
        injection hp with hp
        subst hp
        rw[hbo]
        refine⟨hB,cap,_,by simp[Gh.bt],fun m hm=>?_,hheap,hn,hcm,?_,fun off hoff=>?_⟩
        · simp only[Gh.bt];rw[if_neg (by omega)];exact hlater m (by omega)
        · simp only[List.size_toArray,List.length_append,List.length_drop,Array.length_toList,hlen0,hcs];omega
        · simp only[Gh.bt];rw[if_neg (by omega)];exact him off (by omega)
      · rw[if_neg hpo] at hp
        have hne:blk p≠b:=fun e=>hpo (h2 p o x _ hp ho (by rw[e,hbo]))
        exact⟨(h1 p x hp).1,(h1 p x hp).2.iy hle (hoth _ hne) (fun off=>by simp only[Gh.bt];rw[if_neg (fun h=>hne h.1)]) (fun m=>by simp only[Gh.bt];rw[if_neg (fun h=>hpo h.1)])⟩
    · have hp':∃u',σ p=some u':=by
        simp only[aa.put] at hp
        by_cases hpo:p=o
        · subst hpo;exact⟨_,ho⟩
        · rw[if_neg hpo] at hp;exact⟨x,hp⟩
      have hq':∃u',σ q=some u':=by
        simp only[aa.put] at hq
        by_cases hqo:q=o
        · subst hqo;exact⟨_,ho⟩
        · rw[if_neg hqo] at hq;exact⟨y,hq⟩
      exact h2 p q _ _ hp'.choose_spec hq'.choose_spec he
  · simp only[Gh.bt]
    rw[if_pos ⟨trivial,(List.getElem?_eq_some_iff.1 hv).1⟩]
    exact hv
theorem j8 {g:Gh} {w:World} {σ:aa} (hc:ay g w σ) {kd:SK} {xs:List AV} {v:Value} (h:R g (.sl kd xs) v):
    ∃ A cap,v= .slice A xs.length cap∧xs.length≤cap∧(A=none→v= .slice none 0 0∧xs=[]∧kd= .nil)∧(kd= .full→cap=xs.length)∧(kd= .nil→A=none)∧
      ∃cs:List Value,cs.length=(ar xs).length∧(∀ (i:Nat) (c:AV) (u:Value),(ar xs)[i]? =some c→cs[i]? =some u→R g c u)∧(∀a,A=some a→∀j u,cs[j]? =some u→w.cell? (a.add j)=some u):=by
  cases h with
  |slnil=>exact⟨none,0,rfl,Nat.le_refl _,fun _=>⟨rfl,rfl,rfl⟩,nofun,fun _=>rfl,[],rfl,(fun i c u h=>by simp[ar] at h),nofun⟩
  | sl hk hs hu hi hr=>
    rename_i a cap sz vs
    have hcap:xs.length≤cap∧(kd= .full→cap=xs.length)∧kd≠ .nil:=by
      cases kd with
      |nil=>exact hk.elim
      |bf=>exact⟨hk,nofun,nofun⟩
      |full=>have e:cap=xs.length:=hk;exact⟨by omega,fun _=>e,nofun⟩
      |tip o=>exact⟨hk.1,nofun,nofun⟩
    refine⟨some a,cap,rfl,hcap.1,nofun,hcap.2.1,fun h=>absurd h hcap.2.2,(List.range (ar xs).length).map vs,by simp,fun i c u h1 h2=>?_,fun a' ha' j u hj=>?_⟩
    · have hlt:i<(ar xs).length:=(List.getElem?_eq_some_iff.1 h1).1
      simp[hlt] at h2
      subst h2
      exact hr i c h1
    · injection ha' with ha'
      subst ha'
      have hlt:j<(ar xs).length:=by have:=(List.getElem?_eq_some_iff.1 hj).1;simpa using this
      simp[hlt] at hj
      subst hj
      have hne:xs≠[]:=by rintro rfl;simp[ar] at hlt
      rw[bF (hs hne)]
      exact hc.bf _ _ _ (hi j hlt)
theorem yn {g:Gh} {o b cap sz:Nat} {xs:List AV} {cs:List Value} (ht:g.tipv o xs.length=some (.slice (some ⟨b,0,none⟩) xs.length cap)) (hcap:xs.length≤cap) (hu:∀x∈xs,x.cells.length=sz)
  (hl:cs.length=(ar xs).length) (hr:∀ (i:Nat) (c:AV) (u:Value),(ar xs)[i]? =some c→cs[i]? =some u→R g c u) (hi:∀i v,cs[i]? =some v→g.bf b i=some v):R g (.sl (.tip o) xs) (.slice (some ⟨b,0,none⟩) xs.length cap):=by
 refine .sl (sz:=sz) (vs:=fun i=>cs.getD i undef) ⟨hcap,ht⟩ (fun _=>rfl) hu (fun i hlt=>?_) (fun i c hic=>?_)
 ·simp only[Nat.zero_add]
  exact hi i _ (by simp[List.getD_eq_getElem?_getD,show i<cs.length by omega])
 ·have hlt:i<(ar xs).length:=(List.getElem?_eq_some_iff.1 hic).1
  exact hr i c _ hic (by simp[List.getD_eq_getElem?_getD,show i<cs.length by omega])
theorem dB (xs ys:List AV):ar (xs++ys)=ar xs++ar ys:=by simp[ar]
theorem iL {g g':Gh} (hle:g.Le g') {xs ys:List AV} {cs ds:List Value} (hl:cs.length=(ar xs).length) (h1:∀ (i:Nat) (c:AV) (u:Value),(ar xs)[i]? =some c→cs[i]? =some u→R g c u)
  (h2:∀ (i:Nat) (c:AV) (u:Value),(ar ys)[i]? =some c→ds[i]? =some u→R g c u):∀ (i:Nat) (c:AV) (u:Value),(ar (xs++ys))[i]? =some c→(cs++ds)[i]? =some u→R g' c u:=by
 intro i c u hc hu
 rw[dB,List.getElem?_append] at hc
 rw[List.getElem?_append,hl] at hu
 split at hc
 ·rename_i q;rw[if_pos q] at hu;exact(h1 i c u hc hu).le hle
 ·rename_i q;rw[if_neg q] at hu;exact(h2 _ c u hc hu).le hle
theorem jN {g:Gh} {xs:List AV} {cs:List Value} (hl:cs.length=(ar xs).length) (hr:∀ (i:Nat) (c:AV) (u:Value),(ar xs)[i]? =some c→cs[i]? =some u→R g c u) (h1:∀x∈xs,x.cells.all AV.one=true):∀u∈cs,u.oneCell'=true:=by
 intro u hu
 obtain⟨i,hi,rfl⟩:=List.getElem_of_mem hu
 have hi':i<(ar xs).length:=by omega
 refine(hr i _ _ (List.getElem?_eq_getElem hi') (List.getElem?_eq_getElem hi)).one ?_
 have hm:=List.getElem_mem hi'
 unfold ar at hm
 rw[List.mem_flatMap] at hm
 obtain⟨x,hx,hc⟩:=hm
 exact List.all_eq_true.1 (h1 x hx) _ hc
theorem mB {g:Gh} {w:World} {σ:aa} (hc:ay g w σ) {e:TypeId} {rows:List AV} {cs:List Value} {sz gc:Nat} {z:Array Value} (hz:z.size=sz) (hu:∀r∈rows,r.cells.length=sz) (hl:cs.length=rows.length*sz)
  (hr:∀ (i:Nat) (c:AV) (u:Value),(ar rows)[i]? =some c→cs[i]? =some u→R g c u) (hge:rows.length≤gc) {o:Nat} (ho:σ o=none) (hol:g.loc o=none) (hot:∀m,g.tipv o m=none) (hor:¬g.res o):
  ay (g.bj o (w.heap.size,sz,gc)) (w.drew.alloc (.cells (cs.toArray++Builtin.zeroCells z (gc-rows.length)) e)) (σ.put o (.arr e rows))∧
   R (g.bj o (w.heap.size,sz,gc)) (.ms o sz 0 rows.length) (.slice (some ⟨w.heap.size,0,none⟩) rows.length gc):=by
 have hsz:(cs.toArray++Builtin.zeroCells z (gc-rows.length)).size=gc*sz:=by
  simp only[Array.size_append,List.size_toArray,size_zeroCells,hz,hl,←Nat.add_mul]
  congr 1
  omega
 refine⟨hc.gh (w':=w.drew.alloc (.cells (cs.toArray++Builtin.zeroCells z (gc-rows.length)) e)) ((Below.refl _ _).drew.alloc (Nat.le_refl _) _) (by simp) o hol ho hot hor (.arr e rows) sz gc (fun g' hle hl' him=>
  ⟨sz,_,⟨gc,hl',hsz⟩,heap_alloc_new w.drew _,hu,by rw[hsz];exact Nat.mul_le_mul_right _ hge,fun i c u hci hui=>?_,him⟩),.ms (b:=w.heap.size) (n:=gc) (by simp[Gh.bj]) (by omega) hge (fun _=>by rw[Nat.zero_mul])⟩
 have hlt:=(List.getElem?_eq_some_iff.1 hci).1
 rw[aI rows hu] at hlt
 rw[Array.getElem?_append_left (by simpa [hl] using hlt)] at hui
 exact(hr i c u hci (by simpa using hui)).le hle
theorem ln {P:Program} {w:World} {t tx ty e e2:TypeId} {i:TypeInfo} (ht:P.underlying t=some (.slice e)) (hi:P.info? e=some i)
  (g sLen sCap:Nat) (cur:Array Value) (hg:w.heap[g]? =some (.cells cur e2 (0,0)))
  (x:Value) (m:Nat) (news:List Value) (hs:Src P i.size tx x m news w)
  (hroom:sLen+m≤sCap) (hfit:sLen*i.size+news.length≤cur.size):
  (Builtin.append_ #[t,tx] ty #[.slice (some ⟨g,0,none⟩) sLen sCap,x]).run P w=
   .ok (.slice (some ⟨g,0,none⟩) (sLen+m) sCap) (w.setRow g (cur.toList.take (sLen*i.size)++news++cur.toList.drop (sLen*i.size+news.length)).toArray):=by
 have bg:=run_storeCells_at P g (sLen*i.size) e2 news 0 cur w hg (by simpa using hfit) hs.one
 simp only[Nat.add_zero] at bg
 rcases hs.kind with ⟨e',hk⟩|hk<;>simp[Builtin.append_,run_underlying ht,run_underlying hk,sizeOf,typeInfo,hi,hs.len,hroom,hs.cells,Addr.add_lit,bg]
theorem gq {P:Program} {w:World} {t tx ty e:TypeId} {i:TypeInfo} (ht:P.underlying t=some (.slice e)) (hi:P.info? e=some i)
  (a:Option Addr) (sLen sCap:Nat) (x:Value) (hs:Src P i.size tx x 0 [] w) (hroom:sLen≤sCap):
  (Builtin.append_ #[t,tx] ty #[.slice a sLen sCap,x]).run P w= .ok (.slice a sLen sCap) w:=by
 rcases hs.kind with ⟨e',hk⟩|hk<;>cases a<;>simp[Builtin.append_,run_underlying ht,run_underlying hk,sizeOf,typeInfo,hi,hs.len,hroom,hs.cells,storeCells]
theorem AW {P:Program} {g:Gh} {w:World} {σ:aa} (hc:ay g w σ) {ky:SK} {ys:List AV} {u:Value} (hy:R g (.sl ky ys) u) {size:Nat} (hys:∀z∈ys,z.known=true∧z.cells.length=size∧z.cells.all AV.one=true) {tx e:TypeId} (hk:P.underlying tx=some (.slice e)):
    ∃ds,Src P size tx u ys.length ds w∧ds.length=(ar ys).length∧∀ (i:Nat) (c:AV) (v:Value),(ar ys)[i]? =some c→ds[i]? =some v→R g c v:=by
  obtain⟨B,cap2,rfl,hcap2,hBn,_,_,ds,hdl,hdr,hdc⟩:=j8 hc hy
  have hdl':ds.length=ys.length*size:=by rw[hdl,aI ys (fun q hq=>(hys q hq).2.1)]
  have hd1:=jN hdl hdr (fun q hq=>(hys q hq).2.2)
  refine⟨ds,?_,hdl,hdr⟩
  cases B with
  | none=>
    obtain⟨e1,rfl,_⟩:=hBn rfl
    have:ds=[]:=List.eq_nil_of_length_eq_zero (by simpa using hdl')
    subst this
    exact Src.ofNil w hk cap2
  |some b=>exact Src.ofSlice w hk b ys.length cap2 ds hdl' (hdc b rfl) hd1
theorem pg {P:Program} {g:Gh} {w:World} {σ:aa} (hc:ay g w σ) {t ty:TypeId} {i:TypeInfo} {z:Value} (hu:P.underlying t=some (.slice (ae P t).elem)) (i1:P.info? (ae P t).elem=some i) (hz:i.zero=some z) (hzs:z.cells.size=i.size) (hpos:0<i.size)
    {o n:Nat} {tx:TypeId} {ys rows:List AV} {v u:Value} {ds:List Value} (hx:R g (.ms o i.size 0 n) v) (hs:Src P i.size tx u ys.length ds w) (hdl:ds.length=(ar ys).length) (hdr:∀ (i:Nat) (c:AV) (u:Value),(ar ys)[i]? =some c→ds[i]? =some u→R g c u) (hys:∀z∈ys,z.known=true∧z.cells.length=i.size∧z.cells.all AV.one=true)
    (hbytes:(n+ys.length)*i.bytes≤140737488355328) (hlen:n+ys.length≤140737488355328) (ho:σ o=some (.arr (ae P t).elem rows)) {k:KK}
    {o':Nat} (ho':σ o'=none) (hol:g.loc o'=none) (hot:∀m,g.tipv o' m=none) (hor:¬g.res o')
    (hk:n≤rows.length∧(if ys=[] then k (.ms o i.size 0 n) σ else k (.ms o' i.size 0 (n+ys.length)) ((σ.drop o).put o' (.arr (ae P t).elem (rows.take n++ys))))):
    ∃r w' g' a σ',(Builtin.append_ #[t,tx] ty #[v,u]).run P w= .ok r w'∧g.Le g'∧ay g' w' σ'∧R g' a r∧k a σ':=by
  obtain⟨hnr,hk⟩:=hk
  have hdl':ds.length=ys.length*i.size:=by rw[hdl,aI ys (fun q hq=>(hys q hq).2.1)]
  have hd1:=jN hdl hdr (fun q hq=>(hys q hq).2.2)
  cases hx with
  | ms hb hcc hln ha=>
    rename_i b nn cap a
    by_cases hy0:ys=[]
    · subst hy0
      rw[if_pos rfl] at hk
      refine⟨_,w,g,_,σ,?_,.refl g,hc,.ms hb hcc hln ha,hk⟩
      have hds0:ds=[]:=List.eq_nil_of_length_eq_zero (by simpa using hdl')
      subst hds0
      exact gq hu i1 a n cap u hs hln
    · rw[if_neg hy0] at hk
      have hy1:0<ys.length:=by
        rcases Nat.eq_zero_or_pos ys.length with h|h
        · exact absurd (List.eq_nil_of_length_eq_zero h) hy0
        · exact h
      obtain⟨blk,q1,q2⟩:=hc.obj
      obtain⟨hB,sz',cells,⟨n',hl,hcn⟩,hh,hun,hle,hrr,him⟩:=q1 o _ ho
      rw[hb] at hl
      injection hl with hl
      injection hl with hl1 hl2
      injection hl2 with hl2 hl3
      subst hl2;subst hl3
      rw[←hl1] at hh him hB
      have htk:(rows.take n).length=n:=by rw[List.length_take];omega
      have huni:∀q∈rows.take n++ys,q.cells.length=i.size:=by
        intro q hq
        rcases List.mem_append.1 hq with h|h
        · exact hun q (List.mem_of_mem_take h)
        · exact(hys q h).2.1
      have hmn:n*i.size≤rows.length*i.size:=Nat.mul_le_mul_right _ hnr
      have hcl1:(ar (rows.take n)).length=n*i.size:=by rw[aI _ (fun q hq=>hun q (List.mem_of_mem_take hq)),htk]
      have hpre:∀ (j:Nat) (c:AV),(ar (rows.take n))[j]? =some c→(ar rows)[j]? =some c:=by
        intro j c hj
        have e:ar rows=ar (rows.take n)++ar (rows.drop n):=by rw[←dB,List.take_append_drop]
        rw[e,List.getElem?_append_left ((List.getElem?_eq_some_iff.1 hj).1)]
        exact hj
      have hcs1:(cells.toList.take (n*i.size)).length=n*i.size:=by rw[List.length_take,Array.length_toList];omega
      have hold:∀ (j:Nat) (c:AV) (u:Value),(ar (rows.take n))[j]? =some c→(cells.toList.take (n*i.size))[j]? =some u→R g c u:=by
        intro j c u hj hu'
        have hlt:=(List.getElem?_eq_some_iff.1 hj).1
        rw[List.getElem?_take,if_pos (by omega)] at hu'
        exact hrr j c u (hpre j c hj) (by simpa using hu')
      by_cases hroom:n+ys.length≤cap
      · have hae:=ha (by omega)
        rw[Nat.zero_mul] at hae
        subst hae
        have hmul:(n+ys.length)*i.size≤nn*i.size:=Nat.mul_le_mul_right _ (by omega)
        rw[Nat.add_mul] at hmul
        have hlen2:(cells.toList.take (n*i.size)++ds++cells.toList.drop (n*i.size+ds.length)).toArray.size=nn*i.size:=by
          simp only[List.size_toArray,List.length_append,List.length_drop,Array.length_toList,hcs1,hcn,hdl'];omega
        · have hr:=ln (P:=P) (w:=w) (ty:=ty) (e2:=(ae P t).elem) hu i1 b n cap cells hh u ys.length ds hs hroom (by rw[hdl',hcn];omega)
          have hw:=hc.write (w':=w.setRow b (cells.toList.take (n*i.size)++ds++cells.toList.drop (n*i.size+ds.length)).toArray) (y:= .arr (ae P t).elem (rows.take n++ys)) (b:=b) ho (fun blk' hb'=>by
            obtain⟨sz2,cells2,⟨n2,hl2,_⟩,_⟩:=hb'
            rw[hb] at hl2
            injection hl2 with hl2
            injection hl2 with hl2 _
            exact hl2.symm) (fun q hq=>setRow_other w b q _ hq) rfl rfl rfl (setRow_size w b _) him
            ⟨i.size,_,⟨nn,hb,hlen2⟩,setRow_heap w b cells _ _ _ hh,huni,by rw[hlen2,List.length_append,htk];exact Nat.mul_le_mul_right _ (by omega),fun j c u hj hu'=>by
              rw[List.getElem?_toArray] at hu'
              have hlt:=(List.getElem?_eq_some_iff.1 hj).1
              rw[dB,List.length_append,hcl1,←hdl,hdl'] at hlt
              rw[List.getElem?_append_left (by rw[List.length_append,hcs1,hdl'];exact hlt)] at hu'
              exact iL (.refl g) (hcs1.trans hcl1.symm) hold hdr j c u hj hu',him⟩
          have hren:=hw.rename (o:=o) (o':=o') (et:=(ae P t).elem) (rows:=rows.take n++ys) (b:=b) (sz:=i.size) (n:=nn) (by simp[aa.put]) hb hol (by
            simp only[aa.put]
            rw[if_neg (fun e=>by rw[e,ho] at ho';cases ho')];exact ho') hot hor
          refine⟨_,_,g.bj o' (b,i.size,nn),_,_,hr,Gh.bx _ hol,?_,.ms (b:=b) (n:=nn) (by simp[Gh.bj]) (by omega) hroom (fun _=>by simp),hk⟩
          have bg:(((σ.put o (.arr (ae P t).elem (rows.take n++ys))).drop o).put o' (.arr (ae P t).elem (rows.take n++ys)))=((σ.drop o).put o' (.arr (ae P t).elem (rows.take n++ys))):=by
            funext p
            simp only[aa.put,aa.drop]
            by_cases h1:p=o'<;>by_cases h2:p=o<;>simp[h1,h2]
          rw[bg] at hren
          exact hren
      · have hr:=run_append_grow_src (P:=P) w t tx ty (ae P t).elem i z hu i1 hz (some a) n cap (cells.toList.take (n*i.size)) (run_firstCells_some w.drew i.size n a n cap _ (by rw[hcs1]) (fun j u hj=>by
          have hlt:=(List.getElem?_eq_some_iff.1 hj).1
          rw[hcs1] at hlt
          have hn0:0<n:=by
            rcases Nat.eq_zero_or_pos n with h|h
            · subst h;simp at hlt
            · exact h
          have hae:=ha (by omega)
          subst hae
          rw[bF rfl]
          rw[List.getElem?_take,if_pos hlt] at hj
          have hhd:w.drew.heap[b]? =some (.cells cells (ae P t).elem (0,0)):=hh
          simp only[World.cell?,hhd,Nat.zero_mul,Nat.zero_add]
          simpa using hj)) u ys.length ds hs (by omega) (by omega) (growslice_fits (by omega) hbytes)
        have hge:=grownCap_ge w (n+ys.length) cap (ae P t).elem
        obtain⟨h1,h2⟩:=mB hc (e:=(ae P t).elem) (rows:=rows.take n++ys) (cs:=cells.toList.take (n*i.size)++ds) (gc:=grownCap w (n+ys.length) cap (ae P t).elem) (z:=z.cells) hzs huni (by rw[List.length_append,List.length_append,hcs1,hdl',htk,Nat.add_mul])
          (iL (.refl g) (hcs1.trans hcl1.symm) hold hdr) (by rw[List.length_append,htk];exact hge) ho' hol hot hor
        rw[List.length_append,htk] at h1 h2
        refine⟨_,_,_,_,_,hr,Gh.bx _ hol,h1.sub ?_,h2,hk⟩
        intro p x hp
        simp only[aa.put,aa.drop] at hp ⊢
        by_cases h1:p=o'
        · rw[if_pos h1] at hp ⊢;exact hp
        · rw[if_neg h1] at hp ⊢
          by_cases h2:p=o
          · rw[if_pos h2] at hp;cases hp
          · rw[if_neg h2] at hp;exact hp
theorem js {P:Program} {g:Gh} {w:World} {σ:aa} (hc:ay g w σ) {t ty:TypeId} {x y:AV} {v u:Value} (hx:R g x v) (hy:R g y u) {k:KK} {mu:Bool} {o:Nat} (ho:σ o=none) (hol:g.loc o=none) (hot:∀m,g.tipv o m=none) (hor:¬g.res o) (hk:ec P (ae P t) mu σ x y o k):
    ∃r w' g' a σ',(Builtin.append_ #[t,t] ty #[v,u]).run P w= .ok r w'∧g.Le g'∧ay g' w' σ'∧R g' a r∧k a σ':=by
  obtain⟨hkind,hoe,hz,hpos,hk⟩:=hk
  have hu:=bT hkind
  obtain⟨i,d,i1,i2,i3,i4,i5,i6⟩:=gi hoe
  unfold eD at hz
  rw[i3,i4] at hz
  obtain⟨z,hz,hzs⟩:∃z,i.zero=some z∧z.cells.size=i.size:=by
    cases hzz:i.zero with
    |none=>simp[hzz] at hz
    | some z=>
      simp only[hzz,Option.map_some,decide_eq_true_eq] at hz
      refine⟨z,rfl,?_⟩
      rw[←hz]
      cases z<;>first|rfl|(simp[ofConst,AV.cells,Value.cells];done)|(simp only[ofConst,dI];split<;>rfl)
  split at hk
  · rename_i ky ys
    obtain⟨hys,hk⟩:=hk
    replace hys:=eF hys
    split at hk
    · rename_i ox sz st n
      obtain⟨rfl,rfl,hbytes,hlen,hk⟩:=hk
      rw[i5] at hbytes
      rw[i4] at hpos hys hx hk
      split at hk
      · rename_i e rows hro
        obtain⟨rfl,hk⟩:=hk
        obtain⟨ds,q1,q2,q3⟩:=AW hc hy hys hu
        exact pg hc hu i1 hz hzs hpos hx q1 q2 q3 hys hbytes hlen hro ho hol hot hor hk
      · exact hk.elim
    · rename_i kd xs
      obtain⟨hxs,hbytes,hlen,hk⟩:=hk
      replace hxs:=eF hxs
      rw[i5] at hbytes
      rw[i4] at hpos hys hxs hk
      obtain⟨A,cap,rfl,hcap,hAn,hfull,hnil,cs,hcl,hcr,hcc⟩:=j8 hc hx
      obtain⟨B,cap2,rfl,hcap2,hBn,hfull2,hnil2,ds,hdl,hdr,hdc⟩:=j8 hc hy
      have hcl':cs.length=xs.length*i.size:=by rw[hcl,aI xs (fun q hq=>(hxs q hq).2.1)]
      have hdl':ds.length=ys.length*i.size:=by rw[hdl,aI ys (fun q hq=>(hys q hq).2.1)]
      have hd1:=jN hdl hdr (fun q hq=>(hys q hq).2.2)
      have h63:xs.length+ys.length≤maxLen:=by unfold maxLen;omega
      have huni:∀q∈xs++ys,q.cells.length=i.size:=by
        intro q hq
        rcases List.mem_append.1 hq with h|h
        · exact(hxs q h).2.1
        · exact(hys q h).2.1
      have hcds:(cs++ds).length=(ar (xs++ys)).length:=by rw[List.length_append,hcl,hdl,dB,List.length_append]
      by_cases hy0:ys=[]
      · subst hy0
        rw[if_pos rfl] at hk
        refine⟨_,w,g,_,σ,?_,.refl g,hc,hx,hk⟩
        have hds0:ds=[]:=List.eq_nil_of_length_eq_zero (by simpa using hdl')
        cases A with
        | none=>
          obtain⟨e1,rfl,_⟩:=hAn rfl
          injection e1 with _ _ e1
          subst e1
          cases B<;>simp[Builtin.append_,run_underlying hu,sizeOf,typeInfo,i1,Builtin.lenOf,Builtin.firstCells,loadCells,loadCellsFrom]
        | some a=>
          cases B<;>simp[Builtin.append_,run_underlying hu,sizeOf,typeInfo,i1,Builtin.lenOf,Builtin.firstCells,loadCells,loadCellsFrom,hcap,storeCells]
      · rw[if_neg hy0] at hk
        have hy1:0<ys.length:=by
          rcases Nat.eq_zero_or_pos ys.length with h|h
          · exact absurd (List.eq_nil_of_length_eq_zero h) hy0
          · exact h
        obtain⟨b,rfl⟩:∃b,B=some b:=by
          cases B with
          |none=>exact absurd (hBn rfl).2.1 hy0
          |some b=>exact⟨b,rfl⟩
        have hnews:=hdc b rfl
        split at hk
        · obtain⟨hfr,hk⟩:=hk
          have fin:∀ (cs':List Value) (gc:Nat),cs'.length=xs.length*i.size→(∀ (i:Nat) (c:AV) (u:Value),(ar xs)[i]? =some c→cs'[i]? =some u→R g c u)→cs'.length=(ar xs).length→xs.length+ys.length≤gc→
              ∃ g' a σ',g.Le g'∧ay g' (w.drew.alloc (.cells (cs'.toArray++ds.toArray++Builtin.zeroCells z.cells (gc-(xs.length+ys.length))) (ae P t).elem)) σ'∧
                R g' a (.slice (some ⟨w.heap.size,0,none⟩) (xs.length+ys.length) gc)∧k a σ':=by
            intro cs' gc hcl2 hcr2 hcl3 hge
            have hln:(cs'++ds).length=(xs++ys).length*i.size:=by rw[List.length_append,hcl2,hdl',List.length_append,Nat.add_mul]
            obtain⟨h1,h2⟩:=mB hc (e:=(ae P t).elem) (rows:=xs++ys) (cs:=cs'++ds) (gc:=gc) (z:=z.cells) hzs huni hln (iL (.refl g) hcl3 hcr2 hdr) (by rw[List.length_append];exact hge) ho hol hot hor
            rw[List.length_append] at h1 h2
            refine⟨_,_,_,Gh.bx _ hol,?_,h2,hk⟩
            rw[show cs'.toArray++ds.toArray=(cs'++ds).toArray from by simp]
            exact h1
          cases kd with
          |bf=>simp[SK.fresh] at hfr
          |tip o=>simp[SK.fresh] at hfr
          | nil=>
            have hA:=hnil rfl
            subst hA
            obtain⟨e1,rfl,_⟩:=hAn rfl
            injection e1 with _ _ e1
            subst e1
            have hr:=run_append_nil (P:=P) w t ty (ae P t).elem i z hu i1 hz b ys.length cap2 ds hdl' hnews hy1 (by simp at hlen;omega) (by simp at hbytes;omega)
            obtain⟨g',a,σ',h1,h2,h3,h4⟩:=fin [] (grownCap w ys.length 0 (ae P t).elem) (by simp) (fun i c u h=>by simp[ar] at h) rfl (by simpa using grownCap_ge w ys.length 0 (ae P t).elem)
            simp only[List.length_nil,Nat.zero_add] at h2 h3
            exact⟨_,_,g',a,σ',hr,h1,by simpa using h2,h3,h4⟩
          | full=>
            have hcapx:=hfull rfl
            subst hcapx
            cases A with
            |none=>obtain⟨_,_,h⟩:=hAn rfl;cases h
            | some a0=>
              have hr:=run_append_grow (P:=P) w t ty (ae P t).elem i z hu i1 hz a0 xs.length xs.length cs hcl' (hcc a0 rfl) b ys.length cap2 ds hdl' hnews (by omega) (by omega) (growslice_fits (by omega) hbytes)
              obtain⟨g',a,σ',h1,h2,h3,h4⟩:=fin cs (grownCap w (xs.length+ys.length) xs.length (ae P t).elem) hcl' hcr hcl (grownCap_ge w _ _ _)
              exact⟨_,_,g',a,σ',hr,h1,h2,h3,h4⟩
        have grown:∀ (old:Nat) (o:Nat) (cs':List Value),cs'.length=xs.length*i.size→fk g σ o (xs++ys).length (ae P t).elem i.size→
            (∀ (i:Nat) (c:AV) (u:Value),(ar xs)[i]? =some c→cs'[i]? =some u→R g c u)→cs'.length=(ar xs).length→
            k (.sl (.tip o) (xs++ys)) (σ.put o (.tip (xs++ys).length (ae P t).elem i.size))→
            ∃ g' a σ',g.Le g'∧ay g' (w.drew.alloc (.cells (cs'.toArray++ds.toArray++Builtin.zeroCells z.cells (grownCap w (xs.length+ys.length) old (ae P t).elem-(xs.length+ys.length))) (ae P t).elem)) σ'∧
              R g' a (.slice (some ⟨w.heap.size,0,none⟩) (xs.length+ys.length) (grownCap w (xs.length+ys.length) old (ae P t).elem))∧k a σ':=by
          intro old o cs' hcl2 hbef hcr2 hcl3 hk2
          have hge:=grownCap_ge w (xs.length+ys.length) old (ae P t).elem
          have hle':=grownCap_le_maxLen w (xs.length+ys.length) old (ae P t).elem h63
          generalize grownCap w (xs.length+ys.length) old (ae P t).elem=gc at hge hle' ⊢
          have hln:(cs'++ds).length=(xs++ys).length*i.size:=by rw[List.length_append,hcl2,hdl',List.length_append,Nat.add_mul]
          obtain⟨g',h1,h2,h3,h4⟩:=uf hc (w':=w.drew.alloc (.cells (cs'.toArray++ds.toArray++Builtin.zeroCells z.cells (gc-(xs.length+ys.length))) (ae P t).elem))
            ((Below.refl _ _).drew.alloc (Nat.le_refl _) _) (heap_alloc_new w.drew _) (n:=(xs++ys).length) (by rw[List.length_append];exact hge) hle'
            (by
              simp only[Array.size_append,List.size_toArray,size_zeroCells,hzs,hcl2,hdl',←Nat.add_mul]
              congr 1
              omega) (cs:=cs'++ds) hln (by
              simp only[Array.toList_append,List.append_assoc]
              rw[←List.append_assoc,←hln]
              exact List.take_left) hbef
          refine⟨g',_,_,h1,h2,?_,hk2⟩
          have:=yn h3 (by rw[List.length_append];exact hge) huni (by rw[List.length_append,hcl3,hdl,dB,List.length_append]) (iL h1 hcl3 hcr2 hdr) h4
          rw[List.length_append] at this
          exact this
        have hxy:(xs++ys).length=xs.length+ys.length:=List.length_append
        cases kd with
        |bf=>exact hk.elim
        | nil=>
          have hA:=hnil rfl
          subst hA
          obtain⟨e1,rfl,_⟩:=hAn rfl
          injection e1 with _ _ e1
          subst e1
          have hr:=run_append_nil (P:=P) w t ty (ae P t).elem i z hu i1 hz b ys.length cap2 ds hdl' hnews hy1 (by simp at hlen;omega) (by simp at hbytes;omega)
          obtain⟨g',a,σ',h1,h2,h3,h4⟩:=grown 0 o [] (by simp) (.inl ⟨ho,hol,hot,hor⟩) (fun i c u h=>by simp[ar] at h) rfl (by simpa using hk)
          simp only[List.length_nil,Nat.zero_add] at h2 h3
          exact⟨_,_,g',a,σ',hr,h1,by simpa using h2,h3,h4⟩
        | full=>
          have hcapx:=hfull rfl
          subst hcapx
          cases A with
          |none=>obtain⟨_,_,h⟩:=hAn rfl;cases h
          | some a0=>
            have hr:=run_append_grow (P:=P) w t ty (ae P t).elem i z hu i1 hz a0 xs.length xs.length cs hcl' (hcc a0 rfl) b ys.length cap2 ds hdl' hnews (by omega) (by omega) (growslice_fits (by omega) hbytes)
            obtain⟨g',a,σ',h1,h2,h3,h4⟩:=grown xs.length o cs hcl' (.inl ⟨ho,hol,hot,hor⟩) hcr hcl hk
            exact⟨_,_,g',a,σ',hr,h1,h2,h3,h4⟩
        | tip o=>
          clear ho hol hot hor
          obtain⟨ho,hk⟩:=hk
          obtain⟨blk,q1,q2⟩:=hc.obj
          obtain⟨hB,cap',cur,ht,hlater,hh,hnc,hcm,hcs,him⟩:=q1 o _ ho
          have htv:g.tipv o xs.length=some (.slice A xs.length cap):=by
            cases hx with
            |sl hk2 hs2 hu2 hi2 hr2=>exact hk2.2
          rw[htv] at ht
          injection ht with ht
          injection ht with e1 e2 e3
          subst e1;subst e3
          by_cases hroom:xs.length+ys.length≤cap
          · have hmul:(xs.length+ys.length)*i.size≤cap*i.size:=Nat.mul_le_mul_right _ hroom
            rw[Nat.add_mul] at hmul
            have hr:=run_append_room (P:=P) w t ty (ae P t).elem i hu i1 (blk o) xs.length cap cur hh b ys.length cap2 ds hdl' hnews hd1 hroom (by rw[hdl',hcs];omega)
            obtain⟨g',h1,h2,h3,h4⟩:=Ak hc (n:=(xs++ys).length) ho (by rw[hxy];omega) htv hh (by rw[hxy];exact hroom) hcs (news:=ds) (by rw[hdl',hxy,Nat.add_mul])
            have hcur:cur.toList.take (xs.length*i.size)=cs:=by
              apply List.ext_getElem?
              intro j
              rw[List.getElem?_take]
              by_cases hj:j<xs.length*i.size
              · rw[if_pos hj]
                have hcj:cs[j]? =some (cs[j]'(by omega)):=List.getElem?_eq_getElem _
                have:=hcc _ rfl j _ hcj
                rw[bF rfl] at this
                simp only[World.cell?,hh,Nat.zero_add] at this
                rw[hcj]
                simpa using this
              · rw[if_neg hj,List.getElem?_eq_none (by omega)]
            rw[hcur] at h2 h4 hr
            refine⟨_,_,g',_,_,hr,h1,h2,?_,hk⟩
            rw[←hxy]
            exact yn h3 (by rw[hxy];exact hroom) huni hcds (iL h1 hcl hcr hdr) h4
          · have hr:=run_append_grow (P:=P) w t ty (ae P t).elem i z hu i1 hz ⟨blk o,0,none⟩ xs.length cap cs hcl' (hcc _ rfl) b ys.length cap2 ds hdl' hnews (by omega) (by omega) (growslice_fits (by omega) hbytes)
            obtain⟨g',a,σ',h1,h2,h3,h4⟩:=grown cap o cs hcl' (.inr ⟨xs.length,ho,by rw[hxy];omega,hlater⟩) hcr hcl hk
            exact⟨_,_,g',a,σ',hr,h1,h2,h3,h4⟩
    · exact hk.elim
  · exact hk.elim
theorem pE {P:Program} {g:Gh} {w:World} {σ:aa} (hc:ay g w σ) {t ty:TypeId} {x y:AV} {v u:Value} (hx:R g x v) (hy:R g y u) {k:KK} {mu:Bool} (hk:k9 P (ae P t) mu σ x y k):
  ∃r w' g' a σ',(Builtin.append_ #[t,t] ty #[v,u]).run P w= .ok r w'∧g.Le g'∧ay g' w' σ'∧R g' a r∧k a σ':=by
 obtain⟨o,ho,hol,hot,hor⟩:=hc.new
 exact js hc hx hy ho hol hot hor (vT hk ho)
end Go.Kern

namespace Go.Kern
open Go.RowKit
def cr (s:ByteArray):List AV:=s.data.toList.map fun b=> .int .u8 b.toNat
theorem dy (s:ByteArray):(cr s).length=s.size:=by simp[cr]
def jU:List AV→Option ByteArray
 | []=>some .empty
 | .int .u8 n::l=>(jU l).map fun s=>⟨#[UInt8.ofNat n.toNat]++s.data⟩
 |_::_=>none
theorem qE:∀{l:List AV} {s:ByteArray},jU l=some s→∃ns:List Int,l=ns.map (AV.int .u8)∧s=⟨(ns.map fun n=>UInt8.ofNat n.toNat).toArray⟩
  | [],s,h=>by simp[jU] at h;subst h;exact⟨[],rfl,rfl⟩
  | .int .u8 n::l,s,h=>by
    simp only[jU,Option.map_eq_some_iff] at h
    obtain⟨t,h1,rfl⟩:=h
    obtain⟨ns,rfl,rfl⟩:=qE h1
    exact⟨n::ns,rfl,by simp⟩
  | .int .i8 _::_,_,h=>by simp[jU] at h
  | .int .i16 _::_,_,h=>by simp[jU] at h
  | .int .i32 _::_,_,h=>by simp[jU] at h
  | .int .i64 _::_,_,h=>by simp[jU] at h
  | .int .u16 _::_,_,h=>by simp[jU] at h
  | .int .u32 _::_,_,h=>by simp[jU] at h
  | .int .u64 _::_,_,h=>by simp[jU] at h
  | .any::_,_,h=>by simp[jU] at h
  | .bool _::_,_,h=>by simp[jU] at h
  | .str _::_,_,h=>by simp[jU] at h
  | .agg _::_,_,h=>by simp[jU] at h
  | .bK _::_,_,h=>by simp[jU] at h
  | .sl _ _::_,_,h=>by simp[jU] at h
  | .nilp::_,_,h=>by simp[jU] at h
  | .ip _ _::_,_,h=>by simp[jU] at h
  | .ptr _ _ _::_,_,h=>by simp[jU] at h
  | .ms _ _ _ _::_,_,h=>by simp[jU] at h
  | .map _::_,_,h=>by simp[jU] at h
  | .nilmap::_,_,h=>by simp[jU] at h
  | .fn _ _::_,_,h=>by simp[jU] at h
  | .nilfn::_,_,h=>by simp[jU] at h
  | .ifc _ _::_,_,h=>by simp[jU] at h
  | .nilifc::_,_,h=>by simp[jU] at h
theorem gd (s:ByteArray):aO 1 (cr s)=true:=by
 unfold cr
 induction s.data.toList with
 |nil=>rfl
 |cons b l ih=>simp only[List.map_cons,aO,List.all_cons] at ih ⊢;rw[ih];rfl
def qu (P:Program) (T U:Ty) (σ:aa) (x:AV) (s:ByteArray) (k:KK):Prop:=
  T.kind= .slice∧U.kind= .str∧(ae P T.elem).ok=true∧eD (ae P T.elem)=true∧(ae P T.elem).size=1∧(ae P T.elem).bytes=1∧(match x with
    | .ms o sz st n=>sz=1∧st=0∧n+s.size≤140737488355328∧(match σ o with
      |some (.arr e rows)=>e=T.elem∧n≤rows.length∧(if s.size=0 then k x σ else ∀o',σ o'=none→k (.ms o' 1 0 (n+s.size)) ((σ.drop o).put o' (.arr T.elem (rows.take n++cr s))))
      |_=>False)
    | .sl .nil []=>s.size≤140737488355328∧(if s.size=0 then k x σ else ∀o',σ o'=none→k (.ms o' 1 0 s.size) (σ.put o' (.arr T.elem (cr s))))
    |_=>False)
theorem uP (g:Gh) (s:ByteArray):(byteCells s).length=(ar (cr s)).length∧∀ (i:Nat) (c:AV) (u:Value),(ar (cr s))[i]? =some c→(byteCells s)[i]? =some u→R g c u:=by
  have e:ar (cr s)=cr s:=by
    unfold cr
    induction s.data.toList with
    |nil=>rfl
    |cons b l ih=>simp only[ar,List.map_cons,List.flatMap_cons] at ih ⊢;rw[ih];rfl
  rw[e]
  refine⟨by simp[byteCells,cr],fun i c u h1 h2=>?_⟩
  simp only[cr,byteCells,List.getElem?_map] at h1 h2
  cases hb:s.data.toList[i]? with
  |none=>rw[hb] at h1;cases h1
  | some b=>
    rw[hb] at h1 h2
    simp only[Option.map_some,Option.some.injEq] at h1 h2
    subst h1;subst h2
    exact .int _ _
theorem nU {P:Program} {g:Gh} {w:World} {σ:aa} (hc:ay g w σ) {t u ty:TypeId} {x:AV} {s:ByteArray} {v:Value} (hx:R g x v) {k:KK} (hk:qu P (ae P t) (ae P u) σ x s k):
    ∃r w' g' a σ',(Builtin.append_ #[t,u] ty #[v,.string s]).run P w= .ok r w'∧g.Le g'∧ay g' w' σ'∧R g' a r∧k a σ':=by
  obtain⟨hkind,hstr,hoe,hz,hsz1,hby1,hk⟩:=hk
  have hu:=bT hkind
  obtain⟨i,d,i1,i2,i3,i4,i5,i6⟩:=gi hoe
  unfold eD at hz
  rw[i3,i4] at hz
  rw[i4] at hsz1
  rw[i5] at hby1
  obtain⟨z,hz,hzs⟩:∃z,i.zero=some z∧z.cells.size=i.size:=by
    cases hzz:i.zero with
    |none=>simp[hzz] at hz
    | some z=>
      simp only[hzz,Option.map_some,decide_eq_true_eq] at hz
      refine⟨z,rfl,?_⟩
      rw[←hz]
      cases z<;>first|rfl|(simp[ofConst,AV.cells,Value.cells];done)|(simp only[ofConst,dI];split<;>rfl)
  obtain⟨iu,du,u1,u2,u3⟩:=bC hstr (by simp)
  have hU:P.underlying u=some .string:=by
    cases du<;>simp[aF] at u3
    exact u2
  have hsrc:Src P i.size u (.string s) (cr s).length (byteCells s) w:=by
    rw[dy,hsz1];exact Src.ofString w hU s
  obtain⟨b1,b2⟩:=uP g s
  have hys:=eF (gd s)
  rw[←hsz1] at hys
  have hl:=dy s
  have hnil:∀{A B:Prop} {c:Prop} [Decidable c],A=B→True:=fun _=>trivial
  split at hk
  · rename_i o sz st n
    obtain⟨rfl,rfl,hlen,hk⟩:=hk
    obtain⟨o',ho',hol,hot,hor⟩:=hc.new
    split at hk
    · rename_i e rows hro
      obtain⟨rfl,hnr,hk⟩:=hk
      rw[←hsz1] at hx hk
      refine pg (k:=k) hc hu i1 hz hzs (by omega) hx hsrc b1 b2 hys (by rw[hl,hby1];omega) (by rw[hl];exact hlen) hro ho' hol hot hor ⟨hnr,?_⟩
      by_cases h0:s.size=0
      · rw[if_pos h0] at hk
        rw[if_pos (List.eq_nil_of_length_eq_zero (hl.trans h0))]
        exact hk
      · rw[if_neg h0] at hk
        rw[if_neg (fun e=>h0 (by rw[←hl,e];rfl)),hl]
        exact hk o' ho'
    · exact hk.elim
  · obtain⟨hlen,hk⟩:=hk
    cases hx with
    | slnil=>
      by_cases h0:s.size=0
      · rw[if_pos h0] at hk
        have hb0:byteCells s=[]:=List.eq_nil_of_length_eq_zero (by rw[byteCells_length];exact h0)
        have hs0:Src P i.size u (.string s) 0 [] w:=by
          have:=hsrc
          rw[hl,h0,hb0] at this
          exact this
        exact⟨_,w,g,_,σ,gq hu i1 none 0 0 _ hs0 (Nat.le_refl _),.refl g,hc,.slnil,hk⟩
      · rw[if_neg h0] at hk
        obtain⟨o',ho',hol,hot,hor⟩:=hc.new
        have hr:=run_append_grow_src (P:=P) w t u ty (ae P t).elem i z hu i1 hz none 0 0 [] (run_firstCells_none w.drew i.size 0 0 0) (.string s) s.size (byteCells s) (by have:=hsrc;rw[hl] at this;exact this) (by omega) (by omega) (growslice_fits (by omega) (by rw[hby1];omega))
        have hge:=grownCap_ge w (0+s.size) 0 (ae P t).elem
        obtain⟨gc,hgc⟩:∃gc,gc=grownCap w (0+s.size) 0 (ae P t).elem:=⟨_,rfl⟩
        rw[←hgc] at hr hge
        rw[Nat.zero_add,List.nil_append] at hr
        obtain⟨h1,h2⟩:=mB hc (e:=(ae P t).elem) (rows:=cr s) (cs:=byteCells s) (gc:=gc) (z:=z.cells) hzs (fun r hr=>(hys r hr).2.1) (by rw[byteCells_length,hl,hsz1];omega) b2 (by rw[hl];omega) ho' hol hot hor
        rw[hl] at h1 h2
        rw[hsz1] at h2
        refine⟨_,_,_,_,_,hr,Gh.bx _ hol,h1,?_,hk o' ho'⟩
        rw[hsz1]
        exact h2
    |sl hk' _ _ _ _=>exact hk'.elim
  · exact hk.elim
theorem gZ {z:Value} {sz:Nat} (h:z.cells.size=sz) (hs:0<sz) (n:Nat):(madeCells z.cells (n*sz)).toList=(List.replicate n z).flatMap fun v=>v.cells.toList:=by
 apply List.ext_getElem?
 intro i
 rw[Great.flat_get hs _ (fun v hv=>by rw[List.eq_of_mem_replicate hv];exact h)]
 simp only[madeCells]
 by_cases hi:i<n*sz
 ·have hq:i/sz<n:=Nat.div_lt_of_lt_mul (by rw[Nat.mul_comm];exact hi)
  have hm:i%sz<z.cells.size:=by rw[h];exact Nat.mod_lt _ hs
  rw[List.getElem?_replicate,if_pos hq]
  simp[hi,h,Nat.mod_lt _ hs]
 ·have hq:¬i/sz<n:=by
   rw[Nat.div_lt_iff_lt_mul hs];exact hi
  rw[List.getElem?_replicate,if_neg hq]
  simp;omega
def qt (P:Program) (T U:Ty) (σ:aa) (x:AV) (kk:IntKind) (m:Int) (k:KK):Prop:=
 T.kind= .slice∧U.kind= .int kk∧(ae P T.elem).ok=true∧eD (ae P T.elem)=true∧0<(ae P T.elem).size∧0<m∧m.toNat*(ae P T.elem).bytes≤140737488355328∧m≤140737488355328∧(match x,(ae P T.elem).zero with
  | .sl .nil [],some z=>z.known=true∧∀o,σ o=none→k (.ms o (ae P T.elem).size 0 m.toNat) (σ.put o (.arr T.elem (List.replicate m.toNat z)))
  |_,_=>False)
theorem jo {P:Program} (w:World) (t u ty e:TypeId) (kk:IntKind) (i:TypeInfo) (z:Value) (ht:P.underlying t=some (.slice e)) (hu:P.underlying u=some (.int kk)) (hi:P.info? e=some i) (hz:i.zero=some z)
  (n:Nat) (h0:0<n) (hs:0<i.size) (h63:n≤140737488355328) (h48:n*i.bytes≤140737488355328):
  (Builtin.append_ #[t,u] ty #[.slice none 0 0,.int kk n]).run P w=
   .ok (.slice (some ⟨w.heap.size,0,none⟩) n (grownCap w n 0 e))
    (w.drew.alloc (.cells (Builtin.zeroCells z.cells n++Builtin.zeroCells z.cells (grownCap w n 0 e-n)) e)):=by
 have hw:IntKind.i64.wrap (n:Int)=n:=IntWalk.i64_in _ ⟨by omega,by omega⟩
 have hn:n≠0:=by omega
 have hns:¬ (n*i.size=0):=by rw[Nat.mul_eq_zero];omega
 have h63':¬ (9223372036854775807<(n:Int)):=by omega
 have h48':¬ (281474976710656<Builtin.nextslicecap n 0*i.bytes):=by rw[nextslicecap_zero h0];omega
 have h48'':¬ ((281474976710656:Int)<(n:Int)*(i.bytes:Int)):=by
  rw[←Int.natCast_mul];omega
 have hneg:¬ ((n:Int)<0):=by omega
 have ha:∀w:World,(asIntOf (Value.int kk (n:Int))).run P w= .ok (kk,(n:Int)) w:=fun _=>rfl
 have hpos:¬ ((n:Int)≤0):=by omega
 have hmax:max (n:Int) 0=n:=by omega
 simp[Builtin.append_,ha,hpos,hmax,run_underlying ht,run_underlying hu,sizeOf,typeInfo,zeroValue,hi,hz,asInt,hw,hneg,hn,hns,h63',h48',h48'',Question.forced,newRow,grownCap,run_firstCells_none]
theorem nT {P:Program} {g:Gh} {w:World} {σ:aa} (hc:ay g w σ) {t u ty:TypeId} {x:AV} {kk:IntKind} {m:Int} {v:Value} (hx:R g x v) {k:KK} (hk:qt P (ae P t) (ae P u) σ x kk m k):
    ∃r w' g' a σ',(Builtin.append_ #[t,u] ty #[v,.int kk m]).run P w= .ok r w'∧g.Le g'∧ay g' w' σ'∧R g' a r∧k a σ':=by
  obtain⟨hkind,hint,hoe,hzf,hsz,hm0,hby,hmx,hk⟩:=hk
  have hu:=bT hkind
  obtain⟨i,d,i1,i2,i3,i4,i5,i6⟩:=gi hoe
  unfold eD at hzf
  rw[i3,i4] at hzf
  rw[i4] at hsz hk
  rw[i5] at hby
  rw[i3] at hk
  obtain⟨z,hz,hzs⟩:∃z,i.zero=some z∧z.cells.size=i.size:=by
    cases hzz:i.zero with
    |none=>simp[hzz] at hzf
    | some z=>
      simp only[hzz,Option.map_some,decide_eq_true_eq] at hzf
      refine⟨z,rfl,?_⟩
      rw[←hzf]
      cases z<;>first|rfl|(simp[ofConst,AV.cells,Value.cells];done)|(simp only[ofConst,dI];split<;>rfl)
  have hzl:(ofConst z).cells.length=i.size:=by rw[hz] at hzf;simpa using hzf
  obtain⟨iu,du,u1,u2,u3⟩:=bC hint (by simp)
  have hU:P.underlying u=some (.int kk):=by
    cases du<;>simp[aF] at u3
    rw[u3] at u2;exact u2
  rw[hz] at hk
  simp only[Option.map_some] at hk
  obtain⟨n,rfl⟩:∃n:Nat,m=n:=⟨m.toNat,by omega⟩
  rw[Int.toNat_natCast] at hby hk
  split at hk
  · rename_i q1
    injection q1 with q1
    subst q1
    cases hx with
    | slnil=>
      obtain⟨o,ho,hol,hot,hor⟩:=hc.new
      have hr:=jo (P:=P) w t u ty (ae P t).elem kk i z hu hU i1 hz n (by omega) hsz (by omega) (by omega)
      have hge:=grownCap_ge w n 0 (ae P t).elem
      obtain⟨gc,hgc⟩:∃gc,gc=grownCap w n 0 (ae P t).elem:=⟨_,rfl⟩
      rw[←hgc] at hr hge
      obtain⟨hkn,hk⟩:=hk
      have hrl:RL g (List.replicate n (ofConst z)) (List.replicate n z):=⟨by simp,fun j a b ha hb=>by
        rw[List.getElem?_replicate] at ha hb
        split at ha
        · rename_i q;rw[if_pos q] at hb;injection ha with ha;injection hb with hb;subst ha;subst hb;exact mD g z
        · cases ha⟩
      have hcells:=hrl.cells hsz (fun x hx=>by rw[List.eq_of_mem_replicate hx];exact⟨hkn,hzl⟩)
      have hmade:(Builtin.zeroCells z.cells n).toList=(List.replicate n z).flatMap fun v=>v.cells.toList:=by
        rw[←gZ hzs hsz n,←hzs];rfl
      obtain⟨h1,h2⟩:=mB hc (e:=(ae P t).elem) (rows:=List.replicate n (ofConst z)) (cs:=(Builtin.zeroCells z.cells n).toList) (gc:=gc) (z:=z.cells) hzs (fun r hr=>by rw[List.eq_of_mem_replicate hr];exact hzl) (by rw[Array.length_toList,size_zeroCells,hzs,List.length_replicate]) (fun q c u hq hu2=>by
        obtain⟨u',e1,e2⟩:=hcells.2 q c hq
        rw[←hmade] at e1
        rw[hu2] at e1
        injection e1 with e1
        subst e1
        exact e2) (by rw[List.length_replicate];exact hge) ho hol hot hor
      rw[List.length_replicate] at h1 h2
      rw[Array.toArray_toList] at h1
      exact⟨_,_,_,_,_,hr,Gh.bx _ hol,h1,h2,hk o ho⟩
    |sl hk' _ _ _ _=>exact hk'.elim
  · exact hk.elim
def yu (P:Program) (e u:TypeId):Bool:=rowAt P (fun t=>sameLayout P P.depth t u) P.depth e 1 0 1
theorem sO {P:Program} {fits:TypeId→Bool} {d:Nat} {e:TypeId} (h:rowAt P fits d e 1 0 1=true) {c:Nat} (hc:1≤c):rowAt P fits d e c 0 1=true:=by
  cases d with
  |zero=>simp[rowAt] at h
  | succ d=>
    simp only[rowAt] at h ⊢
    split at h
    · cases h
    · rename_i q
      rw[if_neg q]
      simp only[Nat.zero_div,Nat.zero_mod,Nat.zero_add,Bool.or_eq_true,Bool.and_eq_true,decide_eq_true_eq,beq_self_eq_true,Nat.le_refl,true_and,Nat.zero_lt_one] at h ⊢
      rcases h with h|h
      · exact .inl ⟨hc,h⟩
      · refine .inr ⟨hc,?_⟩
        split at h
        · exact h
        · exact h
        · cases h
theorem we {P:Program} {e u:TypeId} (h:yu P e u=true) {c:Nat} (hc:1≤c):liesAt P P.depth e c 0 u 1=true:=by
 have h:=sO h hc
 have hd:P.depth=(2*(P.types.size+Made.depth)+1)+1:=rfl
 rw[hd]
 simp only[liesAt,Bool.or_eq_true]
 left
 exact h
def uH (P:Program) (s d:TypeId) (σ:aa) (x:AV) (k:KK):Prop:=
  match (ae P d).kind,x with
  | .str,.sl _ xs=>(ae P s).kind= .slice∧(ae P (ae P s).elem).kind= .int .u8∧(match jU xs with
    |some t=>k (.str t) σ
    |none=>False)
  | .slice,.str t=>(ae P s).kind= .str∧(ae P (ae P d).elem).kind= .int .u8∧k (.sl .bf (cr t)) σ
  | .uptr,.ptr o i off=>(ae P s).kind= .ptr∧(ae P (ae P s).elem).ok=true∧(ae P (ae P s).elem).size≠0∧(match σ o with
    | some (.arr _ rows)=>(match rows[i]? with
      |some y=>off<y.cells.length∧k (.ptr o i off) σ
      |none=>False)
    |_=>False)
  | .ptr,.ptr o i off=>(ae P s).kind= .uptr∧i=0∧off=0∧(match σ o with
    | some (.arr e rows)=>(e=(ae P d).elem∨yu P e (ae P d).elem=true)∧(ae P (ae P d).elem).ok=true∧(ae P e).ok=true∧(ae P e).size≠0∧(match rows[0]? with
      |some y=>y.cells.length=(ae P e).size∧k (.ptr o 0 0) σ
      |none=>False)
    |_=>False)
  |_,_=>xO (ae P s) (ae P d) x fun c=>k c σ
theorem rF {P:Program} {e:TypeId} (hc:P.cellsOf e≠0) (count n:Nat) (hn:n≤count):liesAt P P.depth e count 0 e n=true:=by
 have hd:P.depth=(2*(P.types.size+Made.depth)+1)+1:=rfl
 rw[hd]
 simp only[liesAt,Bool.or_eq_true]
 left
 rw[hd]
 simp[rowAt,hc,hn,sameLayout]
theorem fF {P:Program} {t:TypeId} (h:(ae P t).ok=true):P.cellsOf t=(ae P t).size∧∃i,P.info? t=some i∧i.size=(ae P t).size:=by
 obtain⟨i,d,h1,h2,h3⟩:=fu h
 rw[h3]
 exact⟨by simp[Program.cellsOf,h1],i,h1,rfl⟩
theorem foldl_push:∀ (ns:List Int) (r:ByteArray),ns.foldl (fun r n=>r.push (UInt8.ofNat n.toNat)) r=⟨r.data++(ns.map fun n=>UInt8.ofNat n.toNat).toArray⟩
  | [],r=>by simp
  | n::l,r=>by
    simp only[List.foldl_cons,List.map_cons]
    rw[foldl_push l]
    simp[ByteArray.push]
theorem pa:∀ns:List Int,ar (ns.map (AV.int .u8))=ns.map (AV.int .u8)
  | []=>rfl
  | n::l=>by
    have ih:=pa l
    simp only[ar,List.map_cons,List.flatMap_cons] at ih ⊢
    rw[ih];rfl
theorem qs {g:Gh} {w:World} {σ:aa} (hc:ay g w σ) {o:Nat} {e:TypeId} {rows:List AV} (ho:σ o=some (.arr e rows)) {b sz n:Nat} (hb:g.loc o=some (b,sz,n)):
  g.w0.heap.size≤b∧∃cells:Array Value,w.heap[b]? =some (.cells cells e (0,0))∧(∀r,r∈rows→r.cells.length=sz)∧rows.length*sz≤cells.size∧
   (∀ (i:Nat) (c:AV) (v:Value),(ar rows)[i]? =some c→cells[i]? =some v→R g c v)∧(∀off,g.bf b off=none):=by
 obtain⟨blk,h1,h2⟩:=hc.obj
 obtain⟨hB,sz',cells,⟨n',hl,_⟩,hh,hu,hcs,hrr,him⟩:=h1 o _ ho
 rw[hb] at hl
 injection hl with hl
 injection hl with hl1 hl2
 injection hl2 with hl2 hl3
 subst hl2;subst hl3
 rw[←hl1] at hh him hB
 exact⟨hB,cells,hh,hu,hcs,hrr,him⟩
theorem qP {P:Program} {g:Gh} {w:World} {σ:aa} (hc:ay g w σ) {s d:TypeId} {x:AV} {v:Value} (hx:R g x v) {k:KK} (hk:uH P s d σ x k):
    ∃r w' g' a σ',(convert s d v).run P w= .ok r w'∧g.Le g'∧ay g' w' σ'∧R g' a r∧k a σ':=by
  have shp:∀{b:Nat} {cells:Array Value} {e:TypeId},w.heap[b]? =some (.cells cells e (0,0))→w.shape? b=some (e,cells.size):=fun h=>by simp[World.shape?,h]
  unfold uH at hk
  split at hk
  · rename_i kd xs hd
    obtain⟨hs,he,hk⟩:=hk
    obtain⟨id_,dd,d1,d2,d3⟩:=bC hd (by simp)
    obtain⟨ie,de,e1,e2,e3⟩:=bC he (by simp)
    have hsu:=bT hs
    have hdu:P.underlying d=some .string:=by cases dd<;>simp[aF] at d3;exact d2
    have heu:P.underlying (ae P s).elem=some (.int .u8):=by cases de<;>simp[aF] at e3;subst e3;exact e2
    split at hk
    · rename_i t ht
      obtain⟨ns,rfl,rfl⟩:=qE ht
      obtain⟨A,cap,rfl,hcap,hAn,_,_,cs,hcl,hcr,hcc⟩:=j8 hc hx
      have hcell:=pa ns
      rw[hcell] at hcl hcr
      have hcs:cs=ns.map (Value.int .u8):=by
        apply List.ext_getElem?
        intro i
        rw[List.getElem?_map]
        cases hni:ns[i]? with
        | none=>
          have:ns.length≤i:=List.getElem?_eq_none_iff.1 hni
          simp only[Option.map_none]
          exact List.getElem?_eq_none (by rw[hcl];simpa using this)
        | some n=>
          have hlt:=(List.getElem?_eq_some_iff.1 hni).1
          have hci:i<cs.length:=by rw[hcl];simpa using hlt
          have:=hcr i (.int .u8 n) cs[i] (by rw[List.getElem?_map,hni];rfl) (List.getElem?_eq_getElem hci)
          rw[List.getElem?_eq_getElem hci]
          generalize cs[i]=u at this
          cases this
          rfl
      subst hcs
      have e0:(ByteArray.mk (ns.map fun n=>UInt8.ofNat n.toNat).toArray)=ns.foldl (fun r n=>r.push (UInt8.ofNat n.toNat)) ByteArray.empty:=by
        rw[foldl_push];simp
      cases A with
      | none=>
        obtain⟨_,hnil,_⟩:=hAn rfl
        have:ns=[]:=by simpa using hnil
        subst this
        refine⟨.string .empty,w,g,_,σ,?_,.refl g,hc,.str _,hk⟩
        rw[run_convert_bytes_string w s d _ _ _ _ hsu heu hdu]
        rfl
      | some a=>
        refine⟨.string _,w,g,_,σ,?_,.refl g,hc,.str _,hk⟩
        rw[run_convert_bytes_string w s d _ _ _ _ hsu heu hdu,e0]
        refine run_bytesToString w a _ cap ns ?_
        have:=run_firstCells_some (P:=P) w 1 ns.length a ns.length cap (ns.map (Value.int .u8)) (by simp) (hcc a rfl)
        simpa [Builtin.firstCells] using this
    · exact hk.elim
  · rename_i t hd
    obtain⟨hs,he,hk⟩:=hk
    obtain⟨is,ds,s1,s2,s3⟩:=bC hs (by simp)
    obtain⟨ie,de,e1,e2,e3⟩:=bC he (by simp)
    have hdu:=bT hd
    have hsu:P.underlying s=some .string:=by cases ds<;>simp[aF] at s3;exact s2
    have heu:P.underlying (ae P d).elem=some (.int .u8):=by cases de<;>simp[aF] at e3;subst e3;exact e2
    cases hx
    have hrun:=run_bytes_of_string (P:=P) w s d _ t hsu hdu heu
    have hge:=grownCap_ge w t.size 0 (ae P d).elem
    generalize grownCap w t.size 0 (ae P d).elem=gc at hrun hge
    have hbel:Below w.heap.size w (w.drew.alloc (.cells (bytesRow t gc) (ae P d).elem ((bytesRow t gc).size,(bytesRow t gc).size+1))):=(Below.refl _ _).drew.alloc (Nat.le_refl _) _
    have hrow:∀i u,i<t.size→(byteCells t)[i]? =some u→(bytesRow t gc)[i]? =some u:=fun i u hi hu=>by
      have h1:(t.data.map fun b=>Value.int .u8 b.toNat).size=t.size:=by simp
      unfold bytesRow
      rw[Array.getElem?_append_left (by rw[h1];exact hi)]
      simpa [byteCells] using hu
    have himm:=hc.bp hbel (byteCells t).toArray t.size (fun o v ho hv=>by
      have hh:(w.drew.alloc (.cells (bytesRow t gc) (ae P d).elem ((bytesRow t gc).size,(bytesRow t gc).size+1))).heap[w.heap.size]? =some (.cells (bytesRow t gc) (ae P d).elem ((bytesRow t gc).size,(bytesRow t gc).size+1)):=heap_alloc_new w.drew _
      simp only[World.cell?,hh]
      have:=hrow o v ho (by simpa using hv)
      simpa using this)
    refine⟨_,_,_,_,σ,hrun,Gh.jn hc _ _,himm,?_,hk⟩
    obtain⟨b1,b2⟩:=uP (g.bp w.heap.size (byteCells t).toArray t.size) t
    have hl:=dy t
    rw[byteCells_length] at b1
    have:=R.sl (g:=g.bp w.heap.size (byteCells t).toArray t.size) (k:= .bf) (xs:=cr t) (a:=⟨w.heap.size,0,none⟩) (cap:=gc) (sz:=1) (vs:=fun i=>(byteCells t).getD i undef) (by show _≤_;rw[hl];omega)
      (fun _=>rfl) (fun x hx=>(eF (gd t) x hx).2.1) (fun i hi=>?_) (fun i c hci=>?_)
    · rw[hl] at this;exact this
    · rw[←b1] at hi
      simp only[Gh.bp,Nat.zero_add]
      rw[if_pos trivial,if_pos hi,List.getElem?_toArray,List.getD_eq_getElem?_getD]
      have:i<(byteCells t).length:=by rw[byteCells_length];exact hi
      simp[this]
    · have hlt:=(List.getElem?_eq_some_iff.1 hci).1
      rw[←b1] at hlt
      have hi2:i<(byteCells t).length:=by rw[byteCells_length];exact hlt
      refine b2 i c _ hci ?_
      simp[List.getD_eq_getElem?_getD,hi2]
  · rename_i o i off hd
    obtain⟨hs,hok,hsz,hk⟩:=hk
    split at hk
    · rename_i e rows ho
      split at hk
      · rename_i y hy
        obtain⟨hoff,hk⟩:=hk
        cases hx with
        | ptr hb=>
          rename_i b sz n
          obtain⟨hB,cells,hh,hu,hcs,_,_⟩:=qs hc ho hb
          obtain⟨is,ds,s1,s2,s3⟩:=bC hs (by simp)
          obtain⟨id_,dd,d1,d2,d3⟩:=bC hd (by simp)
          obtain⟨_,ie,e1,e2⟩:=fF hok
          have hsok:(ae P s).ok=true:=by
            cases h:(ae P s).ok with
            |true=>rfl
            |false=>simp[ae,s1,s2] at h
          obtain⟨is',ds',q1,q2,q3⟩:=fu hsok
          rw[s2] at q2
          injection q2 with q2
          subst q2
          have hsu:P.underlying s=some (.pointer (ae P s).elem):=by
            rw[q3]
            cases ds<;>simp[aF] at s3
            exact s2
          have hdu:P.underlying d=some .unsafePointer:=by cases dd<;>simp[aF] at d3;exact d2
          have hyl:=hu y (List.mem_of_getElem? hy)
          have hi:=(List.getElem?_eq_some_iff.1 hy).1
          have hmul:(i+1)*sz≤rows.length*sz:=Nat.mul_le_mul_right _ hi
          rw[Nat.add_mul,Nat.one_mul] at hmul
          exact⟨_,w,g,_,σ,Lib.run_to_unsafe w ⟨b,i*sz+off,none⟩ hsu hdu e1 (by rw[e2];exact hsz) (shp hh) (by show i*sz+off<_;omega),.refl g,hc,.ptr hb,hk⟩
      · exact hk.elim
    · exact hk.elim
  · rename_i o i off hd
    obtain⟨hs,rfl,rfl,hk⟩:=hk
    split at hk
    · rename_i e rows ho
      obtain⟨hel,hoku,hok,hsz,hk⟩:=hk
      split at hk
      · rename_i y hy
        obtain⟨hyl,hk⟩:=hk
        cases hx with
        | ptr hb=>
          rename_i b sz n
          obtain⟨hB,cells,hh,hu,hcs,_,_⟩:=qs hc ho hb
          obtain⟨is,ds,s1,s2,s3⟩:=bC hs (by simp)
          obtain⟨id_,dd,d1,d2,d3⟩:=bC hd (by simp)
          obtain⟨c1,_⟩:=fF hok
          obtain⟨_,ie,e1,e2⟩:=fF hoku
          have hsu:P.underlying s=some .unsafePointer:=by cases ds<;>simp[aF] at s3;exact s2
          have hdok:(ae P d).ok=true:=by
            cases h:(ae P d).ok with
            |true=>rfl
            |false=>simp[ae,d1,d2] at h
          obtain⟨id',dd',q1,q2,q3⟩:=fu hdok
          rw[d2] at q2
          injection q2 with q2
          subst q2
          have hdu:P.underlying d=some (.pointer (ae P d).elem):=by
            rw[q3]
            cases dd<;>simp[aF] at d3
            exact d2
          have hyz:=hu y (List.mem_of_getElem? hy)
          have hlen:=(List.getElem?_eq_some_iff.1 hy).1
          have hmul:1*sz≤rows.length*sz:=Nat.mul_le_mul_right _ hlen
          have hone:1≤cells.size/P.cellsOf e:=by
            rw[c1,←hyl,hyz]
            have hszp:0<sz:=by omega
            exact(Nat.le_div_iff_mul_le hszp).2 (by omega)
          refine⟨_,w,g,_,σ,Lib.run_from_unsafe w ⟨b,0*sz+0,none⟩ hsu hdu e1 (shp hh) ?_,.refl g,hc,?_,hk⟩
          · simp only[Nat.zero_mul,Nat.add_zero]
            rcases hel with hel|hel
            · rw[←hel];exact rF (by rw[c1];exact hsz) _ _ hone
            · exact we hel hone
          · exact .ptr hb
      · exact hk.elim
    · exact hk.elim
  · obtain⟨u,r,h1,h2,h3⟩:=sI (P:=P) (w:=w) hx hk
    exact⟨u,w,g,r,σ,h1,.refl g,hc,h2,h3⟩
def kV (P:Program) (b:Builtin) (ts:List TypeId) (xs:List AV) (σ:aa) (k:KK):Prop:=
  match b,ts,xs with
  | .cap,[t],[.sl .nil []]=>(ae P t).kind= .slice∧k (.int .i64 0) σ
  | .min,_,[.int i a,.int _ b]=>k (.int i (if b<a then b else a)) σ
  | .max,_,[.int i a,.int _ b]=>k (.int i (if a<b then b else a)) σ
  | .min,_,[.int i a,.int _ b,.int _ c]=>k (.int i (if c<(if b<a then b else a) then c else(if b<a then b else a))) σ
  | .unsafeSliceData,_,[.sl .nil []]=>k .nilp σ
  | .unsafeSliceData,_,[.ms o sz st n]=>0<n∧k (.ptr o st 0) σ
  | .unsafeString,[_,_],[.nilp,.int .i64 n]=>n=0∧k (.str .empty) σ
  | .unsafeString,[p,_],[.ptr o i off,.int .i64 n]=>i=0∧off=0∧0<n∧n≤140737488355328∧(ae P p).kind= .ptr∧(ae P p).ok=true∧(match σ o with
    | some (.arr e rows)=>e=(ae P p).elem∧(ae P e).ok=true∧(ae P e).size=1∧n≤rows.length∧(match jU (rows.take n.toNat) with
      |some s=>rows.take n.toNat=cr s∧k (.str s) (σ.drop o)
      |none=>False)
    |_=>False)
  |_,_,_=>False
theorem ia {P:Program} {w:World} (pt it ty:TypeId):(Builtin.unsafeString_ #[pt,it] ty #[.pointer none,.int .i64 0]).run P w= .ok (.string .empty) w:=by
 have hmax:IntKind.i64.max=9223372036854775807:=rfl
 have hdef:Builtin.unsafeString_ #[pt,it] ty #[.pointer none,.int .i64 0]=
   (do
    let n ←asInt (.int .i64 0)
    if n<0 then runtimePanic (.error "unsafe.String: len out of range")
    if n>IntKind.i64.max then unsupported (.unsafePointer "String: a length above the largest int")
    if n=0 then pure (.string .empty)
    else runtimePanic (.error "unsafe.String: ptr is nil and len is not zero")):=rfl
 rw[hdef]
 simp[asInt,asIntOf,hmax]
theorem ay.frozen {g:Gh} {w:World} {σ:aa} (hc:ay g w σ) {o:Nat} {e:TypeId} {rows:List AV} (ho:σ o=some (.arr e rows)) {b sz n:Nat} (hb:g.loc o=some (b,sz,n)) (m:Nat):
    ay g (w.freeze ⟨b,0,none⟩ m) (σ.drop o):=by
  obtain⟨hB,cells,hh,hu,hcs,hrr,him⟩:=qs hc ho hb
  have hother:∀q,q≠b→(w.freeze ⟨b,0,none⟩ m).heap[q]? =w.heap[q]? :=fun q hq=>by
    unfold World.freeze
    split
    · rfl
    · simp only[Array.getElem?_modify]
      rw[if_neg (fun e=>hq e.symm)]
  have hsize:(w.freeze ⟨b,0,none⟩ m).heap.size=w.heap.size:=by
    unfold World.freeze
    split<;>simp
  obtain⟨blk,h1,h2⟩:=hc.obj
  have hbo:blk o=b:=by
    obtain⟨_,sz',cells,⟨n',hl,_⟩,_⟩:=h1 o _ ho
    rw[hb] at hl
    injection hl with hl
    injection hl with hl1 _
    exact hl1.symm
  refine⟨Lib.below_freeze hc.below hB m,fun q off v hi=>?_,fun p b' sz' n' hl=>⟨(hc.loc p b' sz' n' hl).1,by rw[hsize];exact(hc.loc p b' sz' n' hl).2⟩,?_,?_,blk,fun p x hx=>?_,fun p q x y hx hy=>?_⟩
  · have hq:q≠b:=fun e=>by rw[e,him] at hi;cases hi
    exact(World.cell?_of_block (hother q hq)).trans (hc.bf q off v hi)
  · obtain⟨N,hN⟩:=hc.fresh
    exact ⟨N, fun p hp => ⟨(hN p hp).1, (hN p hp).2.1, by simp only[aa.drop];split;· rfl
                                                          · exact(hN p hp).2.2.1,(hN p hp).2.2.2⟩⟩
  · exact fun p hp => ⟨(hc.res p hp).1, (hc.res p hp).2.1, by simp only[aa.drop];split;· rfl
                                                              · exact(hc.res p hp).2.2⟩
  · simp only[aa.drop] at hx
    split at hx
    · cases hx
    · rename_i hne
      refine⟨(h1 p x hx).1,(h1 p x hx).2.iy (.refl g) (hother _ (fun e=>hne (h2 p o x _ hx ho (e.trans hbo.symm)))) (fun _=>rfl) (fun _=>rfl)⟩
  · simp only[aa.drop] at hx hy
    split at hx
    · cases hx
    · split at hy
      · cases hy
      · exact h2 p q x y hx hy
theorem sM {P:Program} {w w':World} {s:Sem Value} {r:Value} (h:s.run P w= .ok r w'):(do let x ←s;pure (Next.value x):Sem Next).run P w= .ok (.value r) w':=by
 rw[Sem.run_bind,h];rfl
theorem mL {P:Program} {g:Gh} {w:World} {σ:aa} (hc:ay g w σ) {b:Builtin} {ts:List TypeId} {xs:List AV} {vs:List Value} {ty:TypeId} {cs:Array Bool} (hl:xs.length=vs.length) (hr:∀ (i:Nat) (c:AV) (v:Value),xs[i]? =some c→vs[i]? =some v→R g c v) {k:KK} (hk:kV P b ts xs σ k):
    ∃r w' g' a σ',(builtin b ts.toArray ty cs vs.toArray).run P w= .ok (.value r) w'∧g.Le g'∧ay g' w' σ'∧R g' a r∧k a σ':=by
  have two:∀{x y:AV},xs=[x,y]→∃u v,vs=[u,v]∧R g x u∧R g y v:=by
    rintro x y rfl
    match vs,hl with
    | [u,v],_=>exact⟨u,v,rfl,hr 0 x u rfl rfl,hr 1 y v rfl rfl⟩
  have one:∀{x:AV},xs=[x]→∃u,vs=[u]∧R g x u:=by
    rintro x rfl
    match vs,hl with
    | [u],_=>exact⟨u,rfl,hr 0 x u rfl rfl⟩
  unfold kV at hk
  split at hk
  · obtain⟨hkind,hk⟩:=hk
    obtain⟨u,rfl,h1⟩:=one rfl
    have hu:=bT hkind
    cases h1 with
    |slnil=>exact⟨_,w,g,_,σ,by simp[builtin,Builtin.cap_,run_underlying hu,goInt],.refl g,hc,.int _ _,hk⟩
    |sl hk' _ _ _ _=>exact hk'.elim
  · obtain⟨u,v,rfl,h1,h2⟩:=two rfl
    cases h1;cases h2
    exact⟨_,w,g,_,σ,by simp[builtin,Builtin.min_,Builtin.min2],.refl g,hc,.int _ _,hk⟩
  · obtain⟨u,v,rfl,h1,h2⟩:=two rfl
    cases h1;cases h2
    exact⟨_,w,g,_,σ,by simp[builtin,Builtin.max_,Builtin.max2],.refl g,hc,.int _ _,hk⟩
  · rename_i i a j b' l c
    match vs,hl with
    | [u,v,z],_=>
      have h1:=hr 0 _ u rfl rfl
      have h2:=hr 1 _ v rfl rfl
      have h3:=hr 2 _ z rfl rfl
      cases h1;cases h2;cases h3
      exact⟨_,w,g,_,σ,by simp[builtin,Builtin.min_,Builtin.min2],.refl g,hc,.int _ _,hk⟩
  · obtain⟨u,rfl,h1⟩:=one rfl
    cases h1 with
    |slnil=>exact⟨.pointer none,w,g,_,σ,sM (Lib.run_unsafeSliceData_nil w _ ty 0 0),.refl g,hc,.nilp,hk⟩
    |sl hk' _ _ _ _=>exact hk'.elim
  · obtain⟨hn,hk⟩:=hk
    obtain⟨u,rfl,h1⟩:=one rfl
    cases h1 with
    | ms hb hcc hln ha=>
      rename_i b n cap a
      have hcap:cap≠0:=by omega
      have:=ha (by omega)
      subst this
      exact⟨_,w,g,_,σ,sM (Lib.run_unsafeSliceData_row w _ ty _ _ _ hcap),.refl g,hc,.ptr (i:=_) (off:=0) hb,hk⟩
  · obtain⟨rfl,hk⟩:=hk
    obtain⟨u,v,rfl,h1,h2⟩:=two rfl
    cases h1;cases h2
    refine⟨_,w,g,_,σ,?_,.refl g,hc,.str _,hk⟩
    simp[builtin,ia]
  · rename_i p t o i off n
    obtain⟨rfl,rfl,hn,hmax,hkind,hpok,hk⟩:=hk
    split at hk
    · rename_i e rows ho
      obtain⟨rfl,hok,hsz,hnr,hk⟩:=hk
      split at hk
      · rename_i s hs
        obtain⟨hrow,hk⟩:=hk
        obtain⟨u,v,rfl,h1,h2⟩:=two rfl
        cases h2
        cases h1 with
        | ptr hb=>
          rename_i b sz m
          obtain⟨hB,cells,hh,hu,hcs,hrr,him⟩:=qs hc ho hb
          obtain⟨c1,ie,e1,e2⟩:=fF hok
          obtain⟨ip,dp,p1,p2,p3⟩:=bC hkind (by simp)
          obtain⟨ip',dp',q1,q2,q3⟩:=fu hpok
          rw[p2] at q2
          injection q2 with q2
          subst q2
          have hpu:P.underlying p=some (.pointer (ae P p).elem):=by
            rw[q3]
            cases dp<;>simp[aF] at p3
            exact p2
          obtain⟨m',rfl⟩:∃m':Nat,n=m':=⟨n.toNat,by omega⟩
          simp only[Int.toNat_natCast] at hrow hs
          have hm':m'≤rows.length:=by omega
          have hlen:s.size=m':=by
            have:=congrArg List.length hrow
            rw[dy,List.length_take] at this
            omega
          have hll:s.data.toList.length=m':=by rw[←hlen];simp
          have hrow1:∀ (j:Nat) (b:UInt8),s.data.toList[j]? =some b→rows[j]? =some (AV.int .u8 b.toNat):=fun j b hj=>by
            have h1:(cr s)[j]? =some (AV.int .u8 b.toNat):=by simp only[cr,List.getElem?_map,hj,Option.map_some]
            rw[←hrow,List.getElem?_take] at h1
            split at h1
            · exact h1
            · cases h1
          have hsz1:sz=1:=by
            have h0:0<s.data.toList.length:=by omega
            have:=hrow1 0 _ (List.getElem?_eq_getElem h0)
            have:=hu _ (List.mem_of_getElem? this)
            exact this.symm
          subst hsz1
          have hcell:∀ (j:Nat) (x:UInt8),s.data.toList[j]? =some x→w.cell? ((⟨b,0,none⟩:Addr).add j)=some (Value.int .u8 x.toNat):=fun j x hj=>by
            have hj1:=hrow1 j x hj
            have hc1:(ar rows)[j]? =some (AV.int .u8 x.toNat):=by
              rw[bU (by omega) rows hu,Nat.div_one,hj1,Nat.mod_one];rfl
            have hlt:j<cells.size:=by
              have:=(List.getElem?_eq_some_iff.1 hj1).1
              omega
            have hcj:=hrr j _ _ hc1 (Array.getElem?_eq_getElem hlt)
            rw[bF rfl]
            simp only[World.cell?,hh,Nat.zero_add]
            rw[show cells[j]? =some cells[j] from Array.getElem?_eq_getElem hlt]
            generalize cells[j]=q at hcj
            cases hcj
            rfl
          have hrun:=Lib.run_unsafeString_row (P:=P) w p t ty (ae P p).elem hpu (by rw[c1];exact hsz) b cells.size (by simp[World.shape?,hh]) s.data.toList (by intro e0;rw[e0] at hll;simp at hll;omega) (by omega) (by omega) hcell
          rw[hll] at hrun
          have hz0:(⟨b,0*1+0,none⟩:Addr)=⟨b,0,none⟩:=by simp
          rw[hz0]
          exact⟨_,_,g,_,_,sM hrun,.refl g,hc.frozen ho hb m',.str _,hk⟩
      · exact hk.elim
    · exact hk.elim
  · exact hk.elim
def Dj (P:Program) (f:FuncId):Prop:=∀v w,(callFunc f #[v]).run P w= .ok (.value v) w
def mq (P:Program) (c:Call) (ρ:Env) (σ:aa) (k:KK):Prop:=
  match c.callee,c.args.toList with
  | .value f,[x]=>(match ev ρ f with
    | .fn f []=>Dj P f∧k (ev ρ x) σ
    |_=>False)
  |_,_=>False
theorem qL {P:Program} {w:World} {op:BinOp} {t:TypeId} (hkind:(ae P t).kind= .ptr) (hok:(ae P t).ok=true) (hek:(ae P (ae P t).elem).ok=true) (a:Addr) {g:Gh} {k:AV→Prop} (hk:match op with
  | .eql=>k (.bool true)
  | .neq=>k (.bool false)
  |_=>False):
  ∃u r,(binOp op t (.pointer (some a)) (.pointer (some a))).run P w= .ok u w∧R g r u∧k r:=by
 obtain⟨ip,dp,p1,p2,p3⟩:=bC hkind (by simp)
 obtain⟨ip',dp',q1,q2,q3⟩:=fu hok
 rw[p2] at q2
 injection q2 with q2
 subst q2
 have hpu:P.underlying t=some (.pointer (ae P t).elem):=by
  rw[q3]
  cases dp<;>simp[aF] at p3
  exact p2
 obtain⟨_,ie,e1,e2⟩:=fF hek
 have hne:=Lib.run_neq_ptr_same (P:=P) w (tp:=t) a hpu e1
 cases op<;>simp only at hk<;>first|exact hk.elim|skip
 ·refine⟨_,_,?_,.bool true,hk⟩
  have h:∀d:Nat,(Op.equalIn (d+1) t (.pointer (some a)) (.pointer (some a))).run P w= .ok true w:=fun d=>by
   simp[Op.equalIn,run_underlying hpu,sizeOf,typeInfo,e1,run_sameAddr_same]
  simp only[binOp]
  simp[Op.equal,Op.maxDepth,h 9999]
 ·exact⟨_,_,hne,.bool false,hk⟩
end Go.Kern

namespace Go.Kern
open Go.RowKit Go.MapKept Go.ChangeMaps
def sT (T:Ty) (σ:aa) (m:AV) (k:KK):Prop:=
  T.kind= .map∧(match m with
    | .nilmap=>∀r,σ r=none→k (.ptr r 0 0) (σ.put r .iterN)
    | .map o=>(match σ o with
      |some (.map es)=>∀en ck r,es.length=en.size→Stamped en ck→σ r=none→k (.ptr r 0 0) ((σ.put o (.mapR es en ck)).put r (.iter o en ck #[]))
      |some (.mapR es en ck)=>∀r,σ r=none→k (.ptr r 0 0) (σ.put r (.iter o en ck #[]))
      |_=>False)
    |_=>False)
def uv (σ:aa) (x:AV) (k:KK):Prop:=
  match x with
  | .ptr r 0 0=>(match σ r with
    |some .iterN=>k (.bK [.bool false]) σ
    | some (.iter o en ck sn)=>(match σ o with
      |some (.mapR es en' ck')=>en'=en∧ck'=ck∧((∀ (i:Nat) (e:MapEntry),en[i]? =some e→sn.contains e.born=true)→k (.bK [.bool false]) σ)∧
          (∀ (i:Nat) (kv:AV×AV) (e:MapEntry),es[i]? =some kv→en[i]? =some e→sn.contains e.born=false→k (.bK [.bool true,kv.1,kv.2]) (σ.put r (.iter o en ck (sn.push e.born))))
      |_=>False)
    |_=>False)
  |_=>False
def qm (σ:aa) (x:AV) (k:KK):Prop:=
  match x with
  | .ptr r 0 0=>(match σ r with
    | some (.iter o en ck sn)=>(match σ o with
      |some (.mapR es en' ck')=>en'=en∧ck'=ck∧∃ (i:Nat) (kv:AV×AV) (e:MapEntry) (sn':Array Nat),es[i]? =some kv∧en[i]? =some e∧sn=sn'.push e.born∧k (.bK [kv.1,kv.2]) σ
      |_=>False)
    |_=>False)
  |_=>False
theorem ay.at {g:Gh} {w:World} {σ:aa} (hc:ay g w σ) {o b sz n:Nat} {x:Ob} (ho:σ o=some x) (hb:g.loc o=some (b,sz,n)) (hx:∀b',jT g w o b' x→∃sz n,g.loc o=some (b',sz,n)):jT g w o b x:=by
 obtain⟨blk,h1,_⟩:=hc.obj
 have h:=(h1 o x ho).2
 obtain⟨sz',n',h2⟩:=hx _ h
 rw[hb] at h2
 injection h2 with h2
 injection h2 with h2 _
 rw[h2];exact h
theorem fA {g:Gh} {w:World} {o b:Nat} {x:Ob} (hx:match x with| .mapR .. =>True| .iter .. =>True| .iterN=>True| .map _=>True|_=>False) (h:jT g w o b x):∃sz n,g.loc o=some (b,sz,n):=by
 cases x with
 |arr e rows=>exact hx.elim
 |tip n e sz=>exact hx.elim
 |map es=>obtain⟨en,ck,hl,_⟩:=h;exact⟨_,_,hl⟩
 |mapR es en ck=>exact⟨_,_,h.1⟩
 |iter m en ck sn=>exact⟨_,_,h.1⟩
 |iterN=>exact⟨_,_,h.1⟩
theorem wY {g:Gh} {w:World} {σ:aa} (hc:ay g w σ) {b:Nat} (h:∀off,w.cell? ⟨b,off,none⟩=none) (off:Nat):g.bf b off=none:=by
 cases hi:g.bf b off with
 |none=>rfl
 |some v=>have:=hc.bf _ _ _ hi;rw[h] at this;cases this
theorem qK {P:Program} {g:Gh} {w:World} {σ:aa} (hc:ay g w σ) {t:TypeId} {m:AV} {mv:Value} (hm:R g m mv) {k:KK} (hk:sT (ae P t) σ m k):
    ∃u w' g' r σ',(Instr.range t mv).run P w= .ok u w'∧g.Le g'∧ay g' w' σ'∧R g' r u∧k r σ':=by
  obtain⟨hkind,hk⟩:=hk
  have hu:=pV hkind
  split at hk
  · cases hm
    obtain⟨o,ho,hol,hot,hor⟩:=hc.new
    have hcc:=hc.gh (w':=w.alloc (.mapIter none 0 #[] 0)) (Below.alloc (Below.refl _ _) (Nat.le_refl _) _) (by simp) o hol ho hot hor .iterN 0 0 (fun g' hle hl him=>⟨hl,0,#[],0,heap_alloc_new w _⟩)
    refine⟨_,_,_,_,_,run_range_nilMap w t _ _ hu,Gh.bx _ hol,hcc,?_,hk o ho⟩
    have:=R.ptr (g:=g.bj o (w.heap.size,0,0)) (o:=o) (i:=0) (off:=0) (b:=w.heap.size) (sz:=0) (n:=0) (by simp[Gh.bj])
    simpa using this
  · rename_i om
    cases hm with
    | map hb=>
      rename_i b
      split at hk
      · rename_i es hes
        have hob:=hc.at hes hb (fun b' h=>fA trivial h)
        obtain⟨en,ck,hl,hh,hlen,hr,bg⟩:=hob
        have himm:=wY hc (b:=b) (fun off=>by simp[World.cell?,hh])
        have hc1:ay g w (σ.put om (.mapR es en ck)):=hc.write (b:=b) hes (fun blk hbl=>by
          obtain⟨en2,ck2,hl2,_⟩:=hbl
          rw[hb] at hl2;injection hl2 with hl2;injection hl2 with hl2 _;exact hl2.symm) (fun _ _=>rfl) rfl rfl rfl rfl himm ⟨hl,hh,hlen,hr,bg⟩
        obtain⟨o,ho,hol,hot,hor⟩:=hc1.new
        have hcc:=hc1.gh (w':=w.alloc (.mapIter (some b) ck #[] ck)) (Below.alloc (Below.refl _ _) (Nat.le_refl _) _) (by simp) o hol ho hot hor (.iter om en ck #[]) 0 0 (fun g' hle hl' him=>⟨hl',b,hle.loc _ _ hb,heap_alloc_new w _⟩)
        have hne:o≠om:=fun e=>by rw[e] at ho;simp[aa.put] at ho
        have ho':σ o=none:=by simpa [aa.put,hne] using ho
        refine⟨_,_,_,_,_,run_range_map w t _ _ b en ck hu hh,Gh.bx _ hol,hcc,?_,hk en ck o hlen bg ho'⟩
        have:=R.ptr (g:=g.bj o (w.heap.size,0,0)) (o:=o) (i:=0) (off:=0) (b:=w.heap.size) (sz:=0) (n:=0) (by simp[Gh.bj])
        simpa using this
      · rename_i es en ck hes
        have hob:=hc.at hes hb (fun b' h=>fA trivial h)
        obtain⟨hl,hh,hlen,hr,bg⟩:=hob
        obtain⟨o,ho,hol,hot,hor⟩:=hc.new
        have hcc:=hc.gh (w':=w.alloc (.mapIter (some b) ck #[] ck)) (Below.alloc (Below.refl _ _) (Nat.le_refl _) _) (by simp) o hol ho hot hor (.iter om en ck #[]) 0 0 (fun g' hle hl' him=>⟨hl',b,hle.loc _ _ hb,heap_alloc_new w _⟩)
        refine⟨_,_,_,_,_,run_range_map w t _ _ b en ck hu hh,Gh.bx _ hol,hcc,?_,hk o ho⟩
        have:=R.ptr (g:=g.bj o (w.heap.size,0,0)) (o:=o) (i:=0) (off:=0) (b:=w.heap.size) (sz:=0) (n:=0) (by simp[Gh.bj])
        simpa using this
      · exact hk.elim
  · exact hk.elim
theorem ub {g:Gh} {l:List AV} {m:List Value} (b:Bool) (h:RL g l m):R g (.bK (.bool b::l)) (.tuple ((.bool b::m).toArray)):=by
 refine .bK (by simp[h.1]) fun i c v hc hv=>?_
 cases i with
 |zero=>simp at hc hv;subst hc;subst hv;exact .bool b
 |succ i=>exact h.2 i c v (by simpa using hc) (by simpa using hv)
theorem sH {P:Program} {g:Gh} {w:World} {σ:aa} (hc:ay g w σ) {x:AV} {v:Value} (hx:R g x v) (ty:TypeId) {k:KK} (hk:uv σ x k):
    ∃u w' r σ',(Instr.next v false ty).run P w= .ok u w'∧ay g w' σ'∧R g r u∧k r σ':=by
  unfold uv at hk
  split at hk
  · rename_i r
    cases hx with
    | ptr hb=>
      rename_i br sz n
      split at hk
      · rename_i hr
        obtain⟨hl,a,s,c,hh⟩:=hc.at hr hb (fun b' h=>fA trivial h)
        refine⟨.tuple #[.bool false],w,_,σ,?_,hc,?_,hk⟩
        · simp[Instr.next,getObj,Sem.run,hh]
        · exact ub false ⟨rfl,fun i c v h=>by simp at h⟩
      · rename_i o en ck sn hr
        obtain⟨hl,bm,hlm,hh⟩:=hc.at hr hb (fun b' h=>fA trivial h)
        split at hk
        · rename_i es en' ck' ho
          obtain⟨rfl,rfl,hk1,hk2⟩:=hk
          obtain⟨hl2,hh2,hlen,hrel,bg⟩:=hc.at ho hlm (fun b' h=>fA trivial h)
          have hz:0*sz+0=0:=by omega
          rw[hz]
          rcases run_next_at (P:=P) w ty br bm ck' ck' sn en' ck' hh hh2 bg.1 (Nat.le_refl _) with ⟨h0,hrun⟩|⟨e,he,w1,hal,hrun⟩
          · refine⟨_,_,_,σ,hrun,hc,ub false ⟨rfl,fun i c v h=>by simp at h⟩,hk1 fun i e hi=>?_⟩
            exact all_seen en' sn h0 e (by rw[Array.mem_toList_iff];exact Array.mem_of_getElem? hi)
          · obtain⟨hem,hns⟩:=mem_left he
            obtain⟨i,hi,hie⟩:=List.getElem_of_mem hem
            have hie2:en'[i]? =some e:=by
              rw[←Array.getElem?_toList,List.getElem?_eq_getElem hi,hie]
            have hil:i<es.length:=by rw[hlen];simpa using hi
            have hes:es[i]? =some es[i]:=List.getElem?_eq_getElem hil
            obtain⟨r1,r2⟩:=hrel i es[i] e hes hie2
            have hc1:ay g w1 σ:=by rcases hal with rfl|rfl<;>first|exact hc|exact hc.drew
            have hh1:w1.heap[br]? =some (.mapIter (some bm) ck' sn ck'):=by rcases hal with rfl|rfl<;>exact hh
            have hlt:br<w1.heap.size:=(Array.getElem?_eq_some_iff.1 hh1).1
            have himm:=wY hc1 (b:=br) (fun off=>by simp[World.cell?,hh1])
            refine⟨_,_,_,_,hrun,hc1.write (b:=br) (y:= .iter o en' ck' (sn.push e.born)) hr (fun blk hbl=>?_) (fun k hk=>by simp[setBlock,Array.getElem?_setIfInBounds,Ne.symm hk]) rfl rfl rfl (by simp[setBlock]) himm ⟨hl,bm,hlm,by simp[setBlock,Array.getElem?_setIfInBounds,hlt]⟩,ub true ⟨by simp,fun i c v h1 h2=>?_⟩,hk2 i es[i] e hes hie2 hns⟩
            · have:=hbl.1
              rw[hl] at this;injection this with this;injection this with this _;exact this.symm
            · match i with
              |0=>simp at h1 h2;subst h1;subst h2;exact r1
              |1=>simp at h1 h2;subst h1;subst h2;exact r2
              |i+2=>simp at h1
        · exact hk.elim
      · exact hk.elim
  · exact hk.elim
theorem qO {P:Program} {g:Gh} {w:World} {σ:aa} (hc:ay g w σ) {x:AV} {v:Value} (hx:R g x v) {k:KK} (hk:qm σ x k):
    ∃u r,(Instr.entry v).run P w= .ok u w∧R g r u∧k r σ:=by
  unfold qm at hk
  split at hk
  · rename_i r
    cases hx with
    | ptr hb=>
      rename_i br sz n
      split at hk
      · rename_i o en ck sn hr
        obtain⟨hl,bm,hlm,hh⟩:=hc.at hr hb (fun b' h=>fA trivial h)
        split at hk
        · rename_i es en' ck' ho
          obtain⟨rfl,rfl,i,kv,e,sn',h1,h2,rfl,hk⟩:=hk
          obtain⟨hl2,hh2,hlen,hrel,bg⟩:=hc.at ho hlm (fun b' h=>fA trivial h)
          obtain⟨r1,r2⟩:=hrel i kv e h1 h2
          have hz:0*sz+0=0:=by omega
          rw[hz]
          have hem:e∈en'.toList:=by rw[Array.mem_toList_iff];exact Array.mem_of_getElem? h2
          refine⟨_,_,?_,ym r1 r2,hk⟩
          have hf:en'.find? (·.born==e.born)=some e:=by rw[←Array.find?_toList];exact find_born e en'.toList bg.2.1 hem
          simp only[Instr.entry,getObj,Sem.run_bind,Sem.run,hh,hh2,Result.andThen,Array.back?_push,bne_self_eq_false,Bool.false_eq_true,if_false,hf]
          rfl
        · exact hk.elim
      · exact hk.elim
  · exact hk.elim
end Go.Kern

namespace Go.Kern
open Go.RowKit
theorem l6 {P:Program} {g:Gh} {w:World} {σ:aa} (hc:ay g w σ) {t:TypeId} {l c:AV} {lv cv:Value} (hl:R g l lv) (hcv:R g c cv) {k:KK} (hk:jJ P (ae P t) l c σ k):
    ∃r w' g' a σ',(Instr.makeSlice t lv cv).run P w= .ok r w'∧g.Le g'∧ay g' w' σ'∧R g' a r∧k a σ':=by
  obtain⟨hkind,hoe,hk⟩:=hk
  have hu:=bT hkind
  obtain⟨i,d,i1,i2,i3,i4,i5,i6⟩:=gi hoe
  split at hk
  · rename_i k1 n k2 m
    obtain⟨h0,hnm,hby,hm,hpos,hk⟩:=hk
    cases hl;cases hcv
    rw[i3,i4] at hk
    rw[i4] at hpos
    rw[i5] at hby
    cases hz:i.zero with
    |none=>simp[hz] at hk
    | some z=>
      simp only[hz,Option.map_some] at hk
      obtain⟨hkn,hzl,hk⟩:=hk
      have hzs:z.cells.size=i.size:=by
        rw[←hzl]
        cases z<;>first|rfl|(simp[ofConst,AV.cells,Value.cells];done)|(simp only[ofConst,dI];split<;>rfl)
      have hrun:=run_make (P:=P) w t (ae P t).elem i z hu i1 hz k1 k2 n m h0 hnm (by omega) (by omega)
      split at hk
      · rename_i hn0
        subst hn0
        obtain⟨o,ho,hol,hot,hor⟩:=hc.new
        obtain⟨g',h1,h2,h3,h4⟩:=uf hc (w':=w.alloc (.cells (madeCells z.cells (m.toNat*i.size)) (ae P t).elem)) (Below.alloc (Below.refl _ _) (Nat.le_refl _) _) (heap_alloc_new w _) (n:=0) (cs:=[]) (sz:=i.size) (cap:=m.toNat) (o:=o)
          (Nat.zero_le _) (by unfold maxLen;omega) (by simp[size_madeCells]) (by simp) (by simp) (.inl ⟨ho,hol,hot,hor⟩)
        refine⟨_,_,g',_,_,hrun,h1,h2,?_,hk o ho⟩
        have:=yn (xs:=[]) (cs:=[]) (sz:=i.size) h3 (Nat.zero_le _) (fun x hx=>by simp at hx) rfl (fun i c u h=>by simp[ar] at h) (fun i v h=>by simp at h)
        exact this
      · rename_i hn0
        obtain⟨rfl,hk⟩:=hk
        obtain⟨o,ho,hol,hot,hor⟩:=hc.new
        have hl1:(ofConst z).cells.length=i.size:=hzl
        have hrl:RL g (List.replicate n.toNat (ofConst z)) (List.replicate n.toNat z):=⟨by simp,fun j a b ha hb=>by
          rw[List.getElem?_replicate] at ha hb
          split at ha
          · rename_i q;rw[if_pos q] at hb;injection ha with ha;injection hb with hb;subst ha;subst hb;exact mD g z
          · cases ha⟩
        have hcells:=fun g' (hle:g.Le g')=>(hrl.le hle).cells hpos (fun x hx=>by rw[List.eq_of_mem_replicate hx];exact⟨hkn,hl1⟩)
        have hcc:=hc.gh (w':=w.alloc (.cells (madeCells z.cells (n.toNat*i.size)) (ae P t).elem)) (Below.alloc (Below.refl _ _) (Nat.le_refl _) _) (by simp) o hol ho hot hor (.arr (ae P t).elem (List.replicate n.toNat (ofConst z))) i.size n.toNat (fun g' hle hl him=>by
          refine⟨i.size,madeCells z.cells (n.toNat*i.size),⟨n.toNat,hl,by simp[size_madeCells]⟩,heap_alloc_new w _,fun r hr=>by rw[List.eq_of_mem_replicate hr];exact hl1,by simp[size_madeCells],fun q c u hq hu2=>?_,him⟩
          obtain⟨u',h1,h2⟩:=(hcells g' hle).2 q c hq
          rw[←gZ hzs hpos] at h1
          rw[Array.getElem?_toList,hu2] at h1
          injection h1 with h1
          subst h1
          exact h2)
        refine⟨_,_,_,_,_,hrun,Gh.bx _ hol,hcc,?_,hk o ho⟩
        exact .ms (b:=w.heap.size) (sz:=i.size) (n:=n.toNat) (by simp[Gh.bj]) (by omega) (Nat.le_refl _) (fun _=>by simp)
  · exact hk.elim
theorem fQ {P:Program} {g:Gh} {w:World} {σ:aa} (hc:ay g w σ) {t:TypeId} {n:Nat} {ps:List (Nat×AV)} {pv:Array (Nat×Value)} {o:Nat} (ho:σ o=none) (hol:g.loc o=none) (hot:∀m,g.tipv o m=none) (hor:¬g.res o)
  (h1:ps.map (·.1)=pv.toList.map (·.1)) (h2:RL g (ps.map (·.2)) (pv.toList.map (·.2))) {k:KK} (hk:fX P (ae P t) n ps σ o k):
  ∃u w' g' r σ',(Instr.buildSlice t n pv).run P w= .ok u w'∧g.Le g'∧ay g' w' σ'∧R g' r u∧k r σ':=by
 obtain⟨hs,hok,hn,hsm,hpos,hz,hfit,hk⟩:=hk
 have hu:=bT hs
 obtain⟨i,d,i1,i2,i3⟩:=fu hok
 have esz:(ae P (ae P t).elem).size=i.size:=by rw[i3]
 have ez:(ae P (ae P t).elem).zero=i.zero.map ofConst:=by rw[i3]
 rw[ez] at hz
 obtain⟨z,hz⟩:∃z,i.zero=some z:=by
  cases hzz:i.zero with
  |none=>simp[hzz] at hz
  |some z=>exact⟨z,rfl⟩
 rw[esz] at hsm hpos hfit hk
 obtain⟨f1,f2⟩:=gg 0 ps hfit
 obtain⟨hv,hcs⟩:=h2.cells hpos f2
 have hlen:pv.toList.length=ps.length:=by have:=congrArg List.length h1;simp at this;simp[this]
 have hpv:pv.toList=((pv.toList.map (·.2)).zipIdx 0).map fun x=>(x.2,x.1):=lh _ _ (by rw[←h1,f1,hlen])
 have hcl:=jy h2 (fun x hx=>(f2 x hx).2) hv
 have hsz:((pv.toList.map (·.2)).flatMap fun v=>v.cells.toList).toArray.size=n*i.size:=by
  rw[List.size_toArray,←hcl,aI _ (fun x hx=>(f2 x hx).2),List.length_map,hn]
 have hcc:=hc.gh (w':=w.alloc (.cells ((pv.toList.map (·.2)).flatMap fun v=>v.cells.toList).toArray (ae P t).elem)) (Below.alloc (Below.refl _ _) (Nat.le_refl _) _) (by simp) o hol ho hot hor (.arr (ae P t).elem (ps.map (·.2))) i.size n (fun g' hle hl him=>by
  refine⟨i.size,_,⟨n,hl,hsz⟩,heap_alloc_new w _,fun r hr=>(f2 r hr).2,by rw[hsz,List.length_map,hn];exact Nat.le_refl _,fun q c u hq hu2=>?_,him⟩
  obtain⟨u',q1,q2⟩:=hcs q c hq
  rw[List.getElem?_toArray,q1] at hu2
  injection hu2 with hu2
  subst hu2
  exact q2.le hle)
 refine⟨_,_,_,_,_,?_,Gh.bx _ hol,hcc,.ms (b:=w.heap.size) (sz:=i.size) (n:=n) (cap:=n) (a:=⟨w.heap.size,0,none⟩) (by simp[Gh.bj]) (by omega) (Nat.le_refl _) (fun _=>by simp),hk⟩
 by_cases h0:n=0
 ·subst h0
  have hp0:ps=[]:=List.eq_nil_of_length_eq_zero hn
  have hpv0:pv= #[]:=by
   have:pv.toList=[]:=List.eq_nil_of_length_eq_zero (by rw[hlen,hp0];rfl)
   exact Array.toList_eq_nil_iff.1 this
  subst hpv0
  have hr0:Array.range 0= #[]:=Array.size_eq_zero_iff.1 (by simp)
  simp[Instr.buildSlice,run_underlying hu,sizeOf,typeInfo,i1,Instr.fill,newRow,hr0]
 ·refine run_buildSlice w t (ae P t).elem n pv (((pv.toList.map (·.2)).flatMap fun v=>v.cells.toList).toArray) i z hu i1 hz (by omega) (by rw[Nat.mul_eq_zero];omega) ?_
  have hw:=Great.fill_whole hpos (pv.toList.map (·.2)) ((Array.range (n*i.size)).map (z.cells[·%z.cells.size]!)) hv (by simp;rw[←hn,←hlen];simp)
  rw[←hpv] at hw
  exact hw
theorem j0 {P:Program} {g:Gh} {w:World} {σ:aa} (hc:ay g w σ) {t:TypeId} {n:Nat} {ps:List (Nat×AV)} {pv:Array (Nat×Value)} {mu:Bool}
  (h1:ps.map (·.1)=pv.toList.map (·.1)) (h2:RL g (ps.map (·.2)) (pv.toList.map (·.2))) {k:KK} (hk:fY P (ae P t) n ps mu σ k):
  ∃u w' g' r σ',(Instr.buildSlice t n pv).run P w= .ok u w'∧g.Le g'∧ay g' w' σ'∧R g' r u∧k r σ':=by
 unfold fY at hk
 split at hk
 ·obtain⟨o,ho,hol,hot,hor⟩:=hc.new
  exact fQ hc ho hol hot hor h1 h2 (hk o ho)
 ·obtain⟨u,w',g',r,q1,q2,q3,q4,q5⟩:=ll hc h1 h2 hk
  exact⟨u,w',g',r,σ,q1,q2,q3,q4,q5⟩
def xk (mu:List Nat):Option Tmp→Bool
 |some d=>mu.contains d
 |none=>false
def uO (P:Program) (mu:Bool) (c:Call) (ρ:Env) (σ:aa) (k:KK):Prop:=
  match c.callee with
  | .value f=>(match ev ρ f with
    | .fn f caps=>af P f (c.args.toList.map (ev ρ)++caps) σ (bw k .mk)
    |_=>False)
  | .builtin b=>(match b,c.args.toList,c.argTypes.toList with
    | .len,[x],[t]=>y0 (ae P t) σ (ev ρ x) fun c=>k c σ
    | .append,[x,y],[t,u]=>(match ev ρ y with
      | .str s=>qu P (ae P t) (ae P u) σ (ev ρ x) s k
      | .int kk m=>qt P (ae P t) (ae P u) σ (ev ρ x) kk m k
      |_=>u=t∧k9 P (ae P t) mu σ (ev ρ x) (ev ρ y) k)
    | .delete,[m,x],[t,_]=>pY P (ae P t) σ (ev ρ m) (ev ρ x) fun s=>k (.bK []) s
    |b,xs,ts=>kV P b ts (xs.map (ev ρ)) σ k)
  |_=>False
def C7 (mu:List Nat):Option Tmp→Bool
 |some d=>mu.contains (d+1000000)
 |none=>false
def bu (P:Program) (mu:List Nat) (o:Oper) (ρ:Env) (σ:aa) (k:KK):Prop:=
  match o.op with
  | .move x=>k (ev ρ x) σ
  | .assign x=>k (ev ρ x) σ
  | .pick c a b=>(match ev ρ c with
    | .bool t=>k (if t=true then ev ρ a else ev ρ b) σ
    |_=>False)
  | .box t x=>Cd (xk mu o.dst) t (ev ρ x) σ k
  | .alloc t=>yd t (ae P t) σ k
  | .build t ps=>tU P (ae P t) (ps.toList.map fun p=>(p.1,ev ρ p.2)) fun c=>k c σ
  | .buildSlice t n ps=>fY P (ae P t) n (ps.toList.map fun p=>(p.1,ev ρ p.2)) (xk mu o.dst) σ k
  | .load t a=>behind σ (ev ρ a) fun cs off=>lS (ae P t) cs off fun c=>k c σ
  | .store t a v=>pC (ae P t) σ (ev ρ a) (ev ρ v) fun s=>k (.bK []) s
  | .nilCheck x=>lA (ev ρ x) fun c=>k c σ
  | .binOp op t x y _=>AP P op t (ev ρ x) (ev ρ y) fun c=>k c σ
  | .unOp op _ x=>Cm op (ev ρ x) fun c=>k c σ
  | .convert s d x=>uH P s d σ (ev ρ x) k
  | .makeFunc fn first caps=>(match fn with
    | .func f=>first= #[]∧k (.fn f (caps.toList.map (ev ρ))) σ
    |_=>False)
  | .makeMap _ r=>r=none∧∀o',σ o'=none→k (.map o') (σ.put o' (.map []))
  | .makeSlice t l c=>jJ P (ae P t) (ev ρ l) (ev ρ c) σ k
  | .slice t x lo hi mx=>pG P (ae P t) (ev ρ x) (lo.map (ev ρ)) (hi.map (ev ρ)) (mx.map (ev ρ)) fun c=>k c σ
  | .fieldAddr s x f=>jK (ae P s) (ev ρ x) f fun c=>k c σ
  | .field t x f=>tH P (ae P t) (ev ρ x) f fun c=>k c σ
  | .indexAddr t x i=>gI P (ae P t) (ev ρ x) (ev ρ i) fun c=>k c σ
  | .index t x i=>qd (ae P t) (ev ρ x) (ev ρ i) fun c=>k c σ
  | .lookup t m key ok=>pZ P (ae P t) σ (ev ρ m) (ev ρ key) ok fun c=>k c σ
  | .mapUpdate t m key v=>mj P (ae P t) σ (ev ρ m) (ev ρ key) (ev ρ v) fun s=>k (.bK []) s
  | .insert t m key v=>mj P (ae P t) σ (ev ρ m) (ev ρ key) (ev ρ v) fun s=>k (.bK []) s
  | .extract t i=>kK (ev ρ t) i fun c=>k c σ
  | .range t x=>sT (ae P t) σ (ev ρ x) k
  | .next x s=>s=false∧uv σ (ev ρ x) k
  | .entry x=>qm σ (ev ρ x) k
  | .call c=>if C7 mu o.dst=true then mq P c ρ σ k else uO P (xk mu o.dst) c ρ σ k
  |_=>False
def A2 (P:Program) (o:Oper) (a:Act) (w:World) (bk:Value→World→Prop):Prop:=
 (∃v w',(execOp a.eval o).run P w= .ok (.value v) w'∧bk v w')∨(∃w',(execOp a.eval o).run P w= .ok .skip w'∧bk undef w')∨
 (∃f args w1,(execOp a.eval o).run P w= .ok (.enter f args) w1∧Calls P f args w1 fun e w'=>∃v,e= .returned v∧bk v w')
theorem A2.wp {P:Program} {o:Oper} {a:Act} {w:World} {bk:Value→World→Prop} (h:A2 P o a w bk) {next:Act→World→Prop} {Q:Exit→Act→World→Prop} (hn:∀v w',bk v w'→next (a.put o.dst v) w'):
  o.wp P a w next Q:=by
 unfold Oper.wp
 rcases h with ⟨v,w',hr,hp⟩|⟨w',hr,hp⟩|⟨f,args,w1,hr,hp⟩
 ·rw[hr];exact hn v w' hp
 ·rw[hr];exact hn undef w' hp
 ·rw[hr]
  refine Calls.mono hp ?_
  rintro e w' ⟨v,rfl,hv⟩
  exact hn v w' hv
def uU (g:Gh) (k:KK) (v:Value) (w':World):Prop:=∃g' r σ',g.Le g'∧ay g' w' σ'∧R g' r v∧k r σ'
theorem ji {g:Gh} {n:Nat} {ρ:Env} {a:Act} (he:RE g n ρ a.tmps) (l:List Operand):RL g (l.map (ev ρ)) (l.map a.eval):=
 ⟨by simp,fun i x v hx hv=>by
  simp only[List.getElem?_map] at hx hv
  cases hl:l[i]? with
  |none=>simp[hl] at hx
  |some o=>simp[hl] at hx hv;subst hx;subst hv;exact he.eval o⟩
theorem mX {g:Gh} {n:Nat} {ρ:Env} {a:Act} (he:RE g n ρ a.tmps) (x:Option Operand):(∀y,x.map (ev ρ)=some y→∃v,x.map a.eval=some v∧R g y v)∧(x.map (ev ρ)=none→x.map a.eval=none):=by
 cases x with
 |none=>exact⟨nofun,fun _=>rfl⟩
 |some o=>exact⟨fun y hy=>by injection hy with hy;subst hy;exact⟨_,rfl,he.eval o⟩,nofun⟩
theorem dU {P:Program} {mu:List Nat} {o:Oper} {ρ:Env} {σ:aa} {k:KK} (hk:bu P mu o ρ σ k) {g:Gh} {n:Nat} {a:Act} {w:World} (he:RE g n ρ a.tmps) (hc:ay g w σ):A2 P o a w (uU g k):=by
  have pure1:∀{s:Sem Value} {k':AV→Prop},(∃u r,s.run P w= .ok u w∧R g r u∧k' r)→(∀r,k' r→k r σ)→execOp a.eval o=(do pure (.value (←s)))→A2 P o a w (uU g k):=by
    rintro s k' ⟨u,r,h1,h2,h3⟩ h4 h5
    refine .inl ⟨u,w,?_,g,r,σ,.refl g,hc,h2,h4 r h3⟩
    rw[h5];simp[h1]
  obtain⟨dst,op,type,pos,after,guard⟩:=o
  unfold bu at hk
  cases op<;>simp only at hk<;>try exact hk.elim
  case move x=>exact .inl ⟨_,w,rfl,g,_,σ,.refl g,hc,he.eval x,hk⟩
  case assign x=>exact .inl ⟨_,w,rfl,g,_,σ,.refl g,hc,he.eval x,hk⟩
  case pick c x y=>
    have hr:=he.eval c
    split at hk
    · rename_i t ht
      rw[ht] at hr
      generalize hv:a.eval c=v at hr
      cases hr
      refine .inl ⟨if t=true then a.eval x else a.eval y,w,?_,g,_,σ,.refl g,hc,?_,hk⟩
      · simp[execOp,hv,asBool]
      · split
        · exact he.eval x
        · exact he.eval y
    · exact hk.elim
  case box e x=>
    obtain⟨hkn,hk⟩:=hk
    have hrun:(execOp a.eval ⟨dst,.box e x,type,pos,after,guard⟩).run P w= .ok (.value (.pointer (some ⟨w.heap.size,0,none⟩))) (w.alloc (.cells (a.eval x).cells e)):=by
      simp[execOp,Instr.box,newVar,newRow]
    split at hk
    · obtain⟨g',r,σ',h1,h2,h3,h4⟩:=ux (P:=P) hc (he.eval x) hkn e hk
      exact .inl ⟨_,_,hrun,g',r,σ',h1,h2,h3,h4⟩
    · obtain⟨g',h1,h2,h3⟩:=vY (P:=P) hc (he.eval x) hkn e
      exact .inl ⟨_,_,hrun,g',_,σ,h1,h2,h3,hk⟩
  case alloc t=>
    obtain⟨hok,hk⟩:=hk
    split at hk
    · rename_i z hz
      obtain⟨zv,hzv,hzr,_⟩:=gm hok hz w
      obtain⟨g',r,σ',h1,h2,h3,h4⟩:=ux (P:=P) hc (hzr g) hk.1 t hk.2
      exact .inl ⟨_,_,by simp[execOp,Instr.alloc,hzv,newVar,newRow],g',r,σ',h1,h2,h3,h4⟩
    · exact hk.elim
  case build t ps=>
    refine pure1 (s:=Instr.build t (ps.map fun(i,x)=>(i,a.eval x))) (k':=fun c=>k c σ) (qQ ?_ ?_ hk) (fun _ h=>h) rfl
    · simp[List.map_map,Function.comp_def]
    · have:=ji he (ps.toList.map (·.2))
      simpa [List.map_map,Function.comp_def] using this
  case buildSlice t m ps=>
    obtain⟨u,w',g',r,σ',h1,h2,h3,h4,h5⟩:=j0 (pv:=ps.map fun(i,x)=>(i,a.eval x)) hc (by simp[List.map_map,Function.comp_def]) (by
      have:=ji he (ps.toList.map (·.2))
      simpa [List.map_map,Function.comp_def] using this) hk
    exact .inl ⟨u,w',by simp[execOp,h1],g',r,σ',h2,h3,h4,h5⟩
  case load t x=>exact pure1 (mK hc (he.eval x) hk) (fun _ h=>h) rfl
  case store t x v=>
    obtain⟨w',σ',h1,h2,h3⟩:=qI hc (he.eval x) (he.eval v) hk
    exact .inr (.inl ⟨w',by simp[execOp,h1],g,_,σ',.refl g,h2,gR g,h3⟩)
  case nilCheck x=>
    have hr:=he.eval x
    unfold lA at hk
    split at hk<;>try exact hk.elim
    all_goals
      rename_i hx
      rw[hx] at hr
      generalize hv:a.eval x=v at hr
      refine .inl ⟨v,w,?_,g,_,σ,.refl g,hc,hr,by first|exact hk|(rw[hx] at hk;exact hk)⟩
      cases hr<;>simp[execOp,hv]
  case binOp op t x y yt=>
    have hx:=he.eval x
    have hy:=he.eval y
    have fin:(∃u r,(binOp op t (a.eval x) (a.eval y)).run P w= .ok u w∧R g r u∧k r σ)→eqGuard op t x y (a.eval x) (a.eval y)=pure ()→A2 P ⟨dst,.binOp op t x y yt,type,pos,after,guard⟩ a w (uU g k):=by
      rintro⟨u,r,h1,h2,h3⟩ h4
      exact .inl ⟨u,w,by simp[execOp,h4,h1],g,r,σ,.refl g,hc,h2,h3⟩
    unfold AP at hk
    generalize ha:ev ρ x=A at hk hx
    generalize hb:ev ρ y=B at hk hy
    split at hk
    · rename_i i p j q
      generalize hv:a.eval x=v at hx fin
      generalize hu:a.eval y=u at hy fin
      cases hx;cases hy
      refine fin ?_ (by cases op<;>rfl)
      split at hk
      · obtain⟨h0,hk⟩:=hk
        exact⟨.int i (i.wrap (p*2^(min q.toNat i.bits))),_,by simp[binOp,Op.shift,show ¬q<0 by omega],.int _ _,hk⟩
      · obtain⟨h0,hk⟩:=hk
        exact⟨.int i (p.fdiv (2^(min q.toNat i.bits))),_,by simp[binOp,Op.shift,show ¬q<0 by omega],.int _ _,hk⟩
      · rename_i n1 n2
        obtain⟨rfl,hk⟩:=hk
        exact u7 hk (fun h=>n1 h) (fun h=>n2 h)
    · generalize hv:a.eval x=v at hx fin
      generalize hu:a.eval y=u at hy fin
      cases hx;cases hy
      exact fin (uY hk) (by cases op<;>rfl)
    · rename_i p q
      generalize hv:a.eval x=v at hx fin
      generalize hu:a.eval y=u at hy fin
      cases hx;cases hy
      refine fin ?_ (by cases op<;>rfl)
      obtain⟨hkd,hk⟩:=hk
      obtain⟨ti,td,i1,i2,i3⟩:=bC hkd (by simp)
      cases td<;>simp[aF] at i3
      have heq:(Op.equal t (.bool p) (.bool q)).run P w= .ok (p==q) w:=by
        unfold Op.equal
        obtain⟨d,hd⟩:∃d,Op.maxDepth=d+1:=⟨9999,rfl⟩
        rw[hd]
        simp[Op.equalIn,run_underlying i2]
      split at hk
      · exact⟨.bool (p==q),_,by simp[binOp,heq],.bool _,hk⟩
      · exact⟨.bool (!(p==q)),_,by simp[binOp,heq],.bool _,hk⟩
      · exact hk.elim
    · rename_i xs ys
      generalize hv:a.eval x=v at hx fin
      generalize hu:a.eval y=u at hy fin
      obtain⟨k1,k2,hk⟩:=hk
      have hB:=kF hx hy k1 k2
      have v1:=fc hx k1
      have v2:=fc hy k2
      cases hx with
      | agg l1 r1=>
        cases hy with
        | agg l2 r2=>
          rename_i us vs
          have hwd:∃ks,(ae P t).kk= .wide ks:=by
            cases hq:(ae P t).kk<;>rw[hq] at k1<;>simp[aH] at k1
            exact⟨_,rfl⟩
          obtain⟨ks,hwd⟩:=hwd
          obtain⟨hf,hgt,d,hd1,hd2⟩:=ue hwd
          obtain⟨w1,f1⟩:whole P t (.agg us)=true∧fits ks us.toList=true:=by
            rcases v1 with ⟨d',_,h'⟩|⟨_,ks',hf',q1,q2⟩
            · cases d'<;>simp[MapKept.IsKey] at h'
            · rw[hf] at hf';injection hf' with hf';subst hf';exact⟨q1,q2⟩
          obtain⟨w2,f2⟩:whole P t (.agg vs)=true∧fits ks vs.toList=true:=by
            rcases v2 with ⟨d',_,h'⟩|⟨_,ks',hf',q1,q2⟩
            · cases d'<;>simp[MapKept.IsKey] at h'
            · rw[hf] at hf';injection hf' with hf';subst hf';exact⟨q1,q2⟩
          obtain⟨r,hr,hiff⟩:=gK 9994 6 t ks hf w (.agg us) (.agg vs) w1 w2 f1 f2
          have heq:(Op.equal t (.agg us) (.agg vs)).run P w= .ok r w:=hr
          have hrB:r=dL xs ys:=by
            have:r=true↔dL xs ys=true:=by
              rw[hiff]
              simp only[dv,Value.agg.injEq] at hB
              rw[hB]
              simp only[Value.cells]
              exact⟨fun e=>Array.ext' e,fun e=>by rw[e]⟩
            cases r<;>cases hq:dL xs ys<;>simp[hq] at this ⊢
          subst hrB
          refine .inl ?_
          split at hk
          · exact⟨.bool (dL xs ys),w,by simp[execOp,hv,hu,eqGuard,hgt,binOp,heq],g,_,σ,.refl g,hc,.bool _,hk⟩
          · exact⟨.bool (!dL xs ys),w,by simp[execOp,hv,hu,eqGuard,hgt,binOp,heq],g,_,σ,.refl g,hc,.bool _,hk⟩
          · exact hk.elim
    · obtain⟨hkind,hok,hek,rfl,rfl,rfl,hk⟩:=hk
      generalize hv:a.eval x=v at hx fin
      generalize hu:a.eval y=u at hy fin
      cases hx with
      | ptr hb1=>
        cases hy with
        | ptr hb2=>
          rw[hb1] at hb2
          injection hb2 with hb2
          injection hb2 with q1 q2
          injection q2 with q2 q3
          subst q1;subst q2
          exact fin (qL hkind hok hek _ hk) (by cases op<;>rfl)
    · obtain⟨z,r,h1,h2,h3,h4⟩:=uZ (P:=P) (w:=w) hx hy hk
      exact fin ⟨z,r,h1,h2,h3⟩ (h4 _ _)
  case unOp op t x=>exact pure1 (wy (he.eval x) hk) (fun _ h=>h) rfl
  case convert s d x=>
    obtain⟨r,w',g',x',σ',q1,q2,q3,q4,q5⟩:=qP hc (he.eval x) hk
    exact .inl ⟨_,_,by simp[execOp,q1],g',x',σ',q2,q3,q4,q5⟩
  case makeFunc fn first caps=>
    split at hk
    · rename_i f
      obtain⟨rfl,hk⟩:=hk
      have hrl:=ji he caps.toList
      refine .inl ⟨.func (.func f) #[] (caps.map a.eval),w,by simp[execOp,Instr.makeFunc],g,_,σ,.refl g,hc,.fn (by simp) (fun i c v h1 h2=>hrl.2 i c v h1 ?_),hk⟩
      simpa using h2
    · exact hk.elim
  case makeMap t r=>
    obtain⟨rfl,hk⟩:=hk
    obtain⟨g',r,σ',h1,h2,h3,h4⟩:=nR (P:=P) hc hk
    exact .inl ⟨_,_,by simp[execOp,run_makeMap],g',r,σ',h1,h2,h3,h4⟩
  case makeSlice t l c=>
    obtain⟨r,w',g',x,σ',h1,h2,h3,h4,h5⟩:=l6 hc (he.eval l) (he.eval c) hk
    exact .inl ⟨_,_,by simp[execOp,h1],g',x,σ',h2,h3,h4,h5⟩
  case slice t x lo hi mx=>
    have h1:=mX he lo
    have h2:=mX he hi
    have h3:=mX he mx
    exact pure1 (qJ (he.eval x) h1.1 h1.2 h2.1 h2.2 h3.1 h3.2 hk) (fun _ h=>h) rfl
  case fieldAddr s x f=>exact pure1 (l8 (he.eval x) hk) (fun _ h=>h) rfl
  case field t x f=>exact pure1 (qN (he.eval x) hk) (fun _ h=>h) rfl
  case indexAddr t x i=>exact pure1 (l7 (he.eval x) (he.eval i) hk) (fun _ h=>h) rfl
  case index t x i=>exact pure1 (qM (he.eval x) (he.eval i) hk) (fun _ h=>h) rfl
  case lookup t m key ok=>exact pure1 (jZ hc (he.eval m) (he.eval key) hk) (fun _ h=>h) rfl
  case mapUpdate t m key v=>
    obtain⟨w',σ',h1,h2,h3⟩:=jY hc (he.eval m) (he.eval key) (he.eval v) hk
    exact .inr (.inl ⟨w',by simp[execOp,h1],g,_,σ',.refl g,h2,gR g,h3⟩)
  case insert t m key v=>
    obtain⟨w',σ',h1,h2,h3⟩:=jY hc (he.eval m) (he.eval key) (he.eval v) hk
    exact .inr (.inl ⟨w',by simp[execOp,h1],g,_,σ',.refl g,h2,gR g,h3⟩)
  case range t x=>
    obtain⟨u,w',g',r,σ',h1,h2,h3,h4,h5⟩:=qK hc (he.eval x) hk
    exact .inl ⟨u,w',by simp[execOp,h1],g',r,σ',h2,h3,h4,h5⟩
  case next x s=>
    obtain⟨rfl,hk⟩:=hk
    obtain⟨u,w',r,σ',h1,h2,h3,h4⟩:=sH (P:=P) hc (he.eval x) type hk
    exact .inl ⟨u,w',by simp[execOp,h1],g,r,σ',.refl g,h2,h3,h4⟩
  case entry x=>
    obtain⟨u,r,h1,h2,h3⟩:=qO (P:=P) hc (he.eval x) hk
    exact .inl ⟨u,w,by simp[execOp,h1],g,r,σ,.refl g,hc,h2,h3⟩
  case extract t i=>exact pure1 (nS (he.eval t) hk) (fun _ h=>h) rfl
  case call c=>
    split at hk
    · rename_i hxm
      obtain⟨callee,args,argTypes⟩:=c
      unfold mq at hk
      simp only at hk
      split at hk
      · rename_i f x hargs
        have hf:=he.eval f
        split at hk
        · rename_i fid hfe
          rw[hfe] at hf
          generalize hv:a.eval f=fv at hf
          obtain⟨hid,hk⟩:=hk
          have h1:args= #[x]:=by rw[←Array.toArray_toList (xs:=args),hargs]
          subst h1
          cases hf with
          | fn hl h=>
            rename_i vs
            have hvs:vs= #[]:=Array.eq_empty_of_size_eq_zero (by simpa using hl.symm)
            subst hvs
            refine .inl ⟨_,w,?_,g,_,σ,.refl g,hc,he.eval x,hk⟩
            simpa [execOp,resolve,hv,Deferred.ofValue,invoke] using hid (a.eval x) w
        · exact hk.elim
      · exact hk.elim
    unfold uO at hk
    obtain⟨callee,args,argTypes⟩:=c
    simp only at hk
    split at hk
    · rename_i f
      have hf:=he.eval f
      split at hk
      · rename_i fid caps hfe
        rw[hfe] at hf
        generalize hv:a.eval f=fv at hf
        cases hf with
        | fn hl h=>
          rename_i vs
          obtain⟨⟨fn,hfn,hname,hbody⟩,hcall⟩:=hk
          have hrl:=ji he args.toList
          refine .inr (.inr ⟨fid,args.map a.eval++vs,w,?_,?_⟩)
          · have hbn:¬fn.body=none:=fun e=>by rw[e] at hbody;cases hbody
            have hnn:¬fn.name= "runtime.NumGoroutine" :=fun e=>by rw[e] at hname;exact absurd hname (by simp)
            simp[execOp,resolve,hv,Deferred.ofValue,invoke,callFunc,program,Sem.run,hfn,hnn,hbn]
          · refine hcall g w _ (by simp[hl]) (fun i c v h1 h2=>?_) hc
            rw[List.getElem?_append] at h1
            rw[Array.getElem?_append] at h2
            simp only[List.length_map,Array.length_toList] at h1
            simp only[Array.size_map] at h2
            split at h1
            · rename_i q;rw[if_pos q] at h2
              exact hrl.2 i c v h1 (by simpa using h2)
            · rename_i q;rw[if_neg q] at h2
              exact h _ c v h1 h2
      · exact hk.elim
    · split at hk
      · rename_i x t hargs htys
        have h1:args= #[x]:=by rw[←Array.toArray_toList (xs:=args),hargs]
        have h2:argTypes= #[t]:=by rw[←Array.toArray_toList (xs:=argTypes),htys]
        subst h1;subst h2
        exact pure1 (s:=Builtin.len_ #[t] type #[a.eval x]) (k':=fun c=>k c σ) (u6 hc (he.eval x) hk) (fun _ h=>h) (by simp[execOp,resolve,invoke,builtin])
      · rename_i x y t u hargs htys
        split at hk
        · rename_i s hs
          have hy:=he.eval y
          rw[hs] at hy
          have h1:args= #[x,y]:=by rw[←Array.toArray_toList (xs:=args),hargs]
          have h2:argTypes= #[t,u]:=by rw[←Array.toArray_toList (xs:=argTypes),htys]
          subst h1;subst h2
          generalize hyv:a.eval y=yv at hy
          cases hy
          obtain⟨r,w',g',x',σ',q1,q2,q3,q4,q5⟩:=nU (ty:=type) hc (he.eval x) hk
          exact .inl ⟨_,_,by simp[execOp,resolve,invoke,builtin,hyv,q1],g',x',σ',q2,q3,q4,q5⟩
        · rename_i kk m hs
          have hy:=he.eval y
          rw[hs] at hy
          have h1:args= #[x,y]:=by rw[←Array.toArray_toList (xs:=args),hargs]
          have h2:argTypes= #[t,u]:=by rw[←Array.toArray_toList (xs:=argTypes),htys]
          subst h1;subst h2
          generalize hyv:a.eval y=yv at hy
          cases hy
          obtain⟨r,w',g',x',σ',q1,q2,q3,q4,q5⟩:=nT (ty:=type) hc (he.eval x) hk
          exact .inl ⟨_,_,by simp[execOp,resolve,invoke,builtin,hyv,q1],g',x',σ',q2,q3,q4,q5⟩
        obtain⟨rfl,hk⟩:=hk
        have h1:args= #[x,y]:=by rw[←Array.toArray_toList (xs:=args),hargs]
        have h2:argTypes= #[u,u]:=by rw[←Array.toArray_toList (xs:=argTypes),htys]
        subst h1;subst h2
        obtain⟨r,w',g',x',σ',q1,q2,q3,q4,q5⟩:=pE (ty:=type) hc (he.eval x) (he.eval y) hk
        exact .inl ⟨_,_,by simp[execOp,resolve,invoke,builtin,q1],g',x',σ',q2,q3,q4,q5⟩
      · rename_i m x t t2 hargs htys
        have h1:args= #[m,x]:=by rw[←Array.toArray_toList (xs:=args),hargs]
        have h2:argTypes= #[t,t2]:=by rw[←Array.toArray_toList (xs:=argTypes),htys]
        subst h1;subst h2
        obtain⟨w',σ',q1,q2,q3⟩:=pD (t2:=t2) (ty:=type) hc (he.eval m) (he.eval x) hk
        exact .inl ⟨.tuple #[],_,by simp[execOp,resolve,invoke,builtin,q1],g,_,σ',.refl g,q2,gR g,q3⟩
      · have hrl:=ji he args.toList
        obtain⟨r,w',g',x',σ',q1,q2,q3,q4,q5⟩:=mL (ty:=type) (cs:=args.map fun| .const _=>true|_=>false) hc (vs:=args.toList.map a.eval) (by simp) (fun i c v h1 h2=>hrl.2 i c v h1 h2) hk
        rw[show(args.toList.map a.eval).toArray=args.map a.eval from by apply Array.ext';simp] at q1
        exact .inl ⟨_,_,by simp only[execOp,resolve,invoke,Sem.run_bind,Sem.run_pure,Result.andThen_ok];exact q1,g',x',σ',q2,q3,q4,q5⟩
    · exact hk.elim
def sk (P:Program) (mu:List Nat) (o:Oper) (ρ:Env) (σ:aa) (nu:Nat) (k:KK):Prop:=
  match o.op with
  | .call c=>(match c.callee,c.args.toList,c.argTypes.toList with
    | .builtin .append,[x,y],[t,u]=>u=t∧ec P (ae P t) (xk mu o.dst) σ (ev ρ x) (ev ρ y) nu k
    |_,_,_=>False)
  | .buildSlice t n ps=>fX P (ae P t) n (ps.toList.map fun p=>(p.1,ev ρ p.2)) σ nu k
  |_=>False
theorem vW {P:Program} {mu:List Nat} {o:Oper} {ρ:Env} {σ:aa} {nu:Nat} {k:KK} (hk:sk P mu o ρ σ nu k) {g:Gh} {n:Nat} {a:Act} {w:World} (he:RE g n ρ a.tmps) (hc:ay g w σ)
  (ho:σ nu=none) (hol:g.loc nu=none) (hot:∀m,g.tipv nu m=none) (hor:¬g.res nu):A2 P o a w (uU g k):=by
 obtain⟨dst,op,type,pos,after,guard⟩:=o
 unfold sk at hk
 simp only at hk
 split at hk
 ·rename_i c
  obtain⟨callee,args,argTypes⟩:=c
  simp only at hk
  split at hk
  ·rename_i x y t u hargs htys
   obtain⟨rfl,hk⟩:=hk
   have h1:args= #[x,y]:=by rw[←Array.toArray_toList (xs:=args),hargs]
   have h2:argTypes= #[u,u]:=by rw[←Array.toArray_toList (xs:=argTypes),htys]
   subst h1;subst h2
   obtain⟨r,w',g',x',σ',q1,q2,q3,q4,q5⟩:=js (ty:=type) hc (he.eval x) (he.eval y) ho hol hot hor hk
   exact .inl ⟨_,_,by simp[execOp,resolve,invoke,builtin,q1],g',x',σ',q2,q3,q4,q5⟩
  ·exact hk.elim
 ·rename_i t m ps
  obtain⟨u,w',g',r,σ',h1,h2,h3,h4,h5⟩:=fQ (pv:=ps.map fun(i,x)=>(i,a.eval x)) hc ho hol hot hor (by simp[List.map_map,Function.comp_def]) (by
   have:=ji he (ps.toList.map (·.2))
   simpa [List.map_map,Function.comp_def] using this) hk
  exact .inl ⟨u,w',by simp[execOp,h1],g',r,σ',h2,h3,h4,h5⟩
 ·exact hk.elim
end Go.Kern

