/- What the claim needs, part 2: KnM KnN KnO KnP KnQ KnR KnS KnU KnY KnZ Fa Fc Fe KnO2 KnO3 KnZw Ty Ba Bb. Conditions: none. -/
import Derived.Test.YtgfjihpbphplhaaGreatQa
import Derived.ChangeArms
import Derived.ChangeSame
import Derived.Carry
import Derived.OpenShut
import Derived.WalkKit
import Derived.ProofKit
import Derived.JoinedCond
import Derived.WideShapes
import Derived.Shelf.SlIter.Nil
import Derived.Test.YtgfjihpbphplhaaGreatProg
set_option linter.unusedVariables false
set_option linter.unusedSimpArgs false
set_option linter.unusedSectionVars false
namespace Go.Kern
open Go.RowKit
def bM (ops:Array Oper) (ρ:Env) (o:Oper) (k:Bool→Prop):Prop:=
  match o.guard with
  |none=>k true
  | some (j,want)=>(match (ops[j]?).bind (·.dst) with
    | some t=>(match ρ.get t with
      | .bool b=>k (b==want)
      | .bK _=>k false
      |_=>False)
    |none=>k false)
theorem iC {ops:Array Oper} {ρ:Env} {o:Oper} {k:Bool→Prop} (h:bM ops ρ o k) {g:Gh} {n:Nat} {t:Array Value} (he:∀j want,o.guard=some (j,want)→∀s,(ops[j]?).bind (·.dst)=some s→R g (ρ.get s) (t.getD s undef)):
    k (Region.wanted o (yielded ops t)):=by
  unfold bM at h
  unfold Region.wanted
  cases hg:o.guard with
  |none=>rw[hg] at h;exact h
  | some jw=>
    obtain⟨j,want⟩:=jw
    rw[hg] at h
    simp only at h ⊢
    cases hd:(ops[j]?).bind (·.dst) with
    |none=>rw[hd] at h;simp only[yielded,hd,Option.bind_none];exact h
    | some s=>
      have hr:=he j want hg s hd
      rw[hd] at h
      simp only at h
      have hgd:t.getD s undef=(t[s]?).getD undef:=Array.getD_eq_getD_getElem? ..
      rw[hgd] at hr
      split at h
      · rename_i b hb
        rw[hb] at hr
        cases hts:t[s]? with
        |none=>rw[hts] at hr;simp only[Option.getD_none] at hr;cases hr
        | some v=>
          rw[hts] at hr
          simp only[Option.getD_some] at hr
          cases hr
          simp only[yielded,hd,Option.bind_some,hts]
          have:((some b:Option Bool)==some want)=(b==want):=by cases b<;>cases want<;>rfl
          rw[this];exact h
      · rename_i l hb
        rw[hb] at hr
        cases hts:t[s]? with
        |none=>simp only[yielded,hd,Option.bind_some,hts];exact h
        | some v=>
          rw[hts] at hr
          simp only[Option.getD_some] at hr
          cases hr
          simp only[yielded,hd,Option.bind_some,hts];exact h
      · exact h.elim
def prun (P:Program) (n:Nat) (mu:List Nat) (ops:Array Oper):List Oper→Env→aa→(Env→aa→Prop)→Prop
  | [],ρ,σ,K=>K ρ σ
  | o::r,ρ,σ,K=>gA n o.dst=true∧(match o.guard with
    |none=>bu P mu o ρ σ (fun v σ'=>prun P n mu ops r (ρ.aG o.dst v) σ' K)
    |some _=>bM ops ρ o fun b=>if b=true then bw (bu P mu o ρ σ (fun v σ'=>prun P n mu ops r (ρ.aG o.dst v) σ' K)) .mk else bw (prun P n mu ops r (ρ.aG o.dst (.bK [])) σ K) .mk)
theorem wP {P:Program} {n:Nat} {mu:List Nat} {ops:Array Oper} {ρ:Env} {σ:aa} {K:Env→aa→Prop}:prun P n mu ops [] ρ σ K=K ρ σ:=propext Iff.rfl
theorem vm {P:Program} {n:Nat} {mu:List Nat} {ops:Array Oper} {o:Oper} {r:List Oper} {ρ:Env} {σ:aa} {K:Env→aa→Prop}:prun P n mu ops (o::r) ρ σ K=(gA n o.dst=true∧(match o.guard with
  |none=>bu P mu o ρ σ (fun v σ'=>prun P n mu ops r (ρ.aG o.dst v) σ' K)
  |some _=>bM ops ρ o fun b=>if b=true then bw (bu P mu o ρ σ (fun v σ'=>prun P n mu ops r (ρ.aG o.dst v) σ' K)) .mk else bw (prun P n mu ops r (ρ.aG o.dst (.bK [])) σ K) .mk)):=propext Iff.rfl
theorem jH {P:Program} {n:Nat} {mu:List Nat} {ops:Array Oper} {Q:bk}:∀ (l:List Oper) (ρ:Env) (σ:aa),prun P n mu ops l ρ σ (fun ρ' σ'=>Q .normal ρ' σ')→
    ∀ (g0 g:Gh) (a:Act) (w:World),g0.Le g→a.defers=[]→RE g n ρ a.tmps→ay g w σ→wpList P ops (mb g0 n Q) l a w
  | [],ρ,σ,h,g0,g,a,w,hle,hd,he,hc=>wpList_nil ⟨hd,g,ρ,σ,hle,he,hc,h⟩
  | o::r,ρ,σ,h,g0,g,a,w,hle,hd,he,hc=>by
    obtain⟨hdst,h⟩:=h
    have h:bM ops ρ o fun b=>if b=true then bu P mu o ρ σ (fun v σ'=>prun P n mu ops r (ρ.aG o.dst v) σ' (fun ρ' σ'=>Q .normal ρ' σ')) else prun P n mu ops r (ρ.aG o.dst (.bK [])) σ (fun ρ' σ'=>Q .normal ρ' σ'):=by
      split at h
      · rename_i hn
        unfold bM
        rw[hn]
        exact h
      · exact h
    have hg:=iC h (g:=g) (n:=n) (t:=a.tmps) (fun _ _ _ s _=>he.get s)
    refine wpList_step fun K hK=>?_
    split
    · rename_i hw
      rw[if_pos hw] at hg
      refine(dU hg he hc).wp ?_
      rintro v w' ⟨g',x,σ',h1,h2,h3,h4⟩
      refine hK _ _ (jH r _ σ' h4 g0 g' _ w' (hle.trans h1) ?_ ((he.le h1).put hdst h3) h2)
      cases hdo:o.dst<;>simp[Act.put,hd]
    · rename_i hw
      rw[if_neg hw] at hg
      refine hK _ _ (jH r _ σ hg g0 g _ w hle ?_ (he.put hdst (gR g)) hc)
      cases hdo:o.dst<;>simp[Act.put,hd]
theorem yh {P:Program} {n:Nat} {mu:List Nat} {id:Nat} {ops:Array Oper} {Q:bk} {ρ:Env} {σ:aa} (h:prun P n mu ops ops.toList ρ σ (bw (fun ρ' σ'=>Q .normal ρ' σ') .mk)):W P n (.region id ops false) Q ρ σ:=
 fun g a w hd he hc=>wp_region_list (jH ops.toList ρ σ h g g a w (.refl g) hd he hc)
def uq (P:Program) (ρ:Env) (σ:aa) (r:ResultVar) (k:AV→Prop):Prop:=
 match r with
 | .tmp t=>k (ρ.get t)
 | .cell a t=>behind σ (ρ.get a) fun cs off=>lS (ae P t) cs off k
def dZ (P:Program) (ρ:Env) (σ:aa):List ResultVar→(List AV→Prop)→Prop
 | [],k=>k []
 |r::l,k=>uq P ρ σ r fun x=>dZ P ρ σ l fun xs=>k (x::xs)
theorem sS {P:Program} {ρ:Env} {σ:aa} {k:List AV→Prop}:dZ P ρ σ [] k=k []:=propext Iff.rfl
theorem q8 {P:Program} {ρ:Env} {σ:aa} {r:ResultVar} {l:List ResultVar} {k:List AV→Prop}:dZ P ρ σ (r::l) k=uq P ρ σ r fun x=>dZ P ρ σ l fun xs=>k (x::xs):=propext Iff.rfl
def eO (vs:List AV):AV:=
 match vs with
 | [x]=>x
 |l=> .bK l
def gJ (P:Program) (rl:List ResultVar) (K:KK):bk
 | .normal,ρ,σ=>dZ P ρ σ rl fun vs=>K (eO vs) σ
 | .ret,ρ,σ=>dZ P ρ σ rl fun vs=>K (eO vs) σ
 |_,_,_=>False
def yV (tmps:Array Value):ResultVar→Sem Value
 | .tmp t=>pure (tmps.getD t undef)
 | .cell a t=>do loadVar t (←asAddr (tmps.getD a undef))
theorem sP (fn:Func) (tmps:Array Value):results fn tmps=(do let vs ←fn.results.mapM (yV tmps);pure (if h:vs.size=1 then vs[0] else .tuple vs)):=by
 unfold results
 congr 1
theorem wE {P:Program} {g:Gh} {n:Nat} {ρ:Env} {t:Array Value} {w:World} {σ:aa} (he:RE g n ρ t) (hc:ay g w σ) {r:ResultVar} {k:AV→Prop} (h:uq P ρ σ r k):
    ∃v x,(yV t r).run P w= .ok v w∧R g x v∧k x:=by
  cases r with
  |tmp i=>exact⟨_,_,rfl,he.get i,h⟩
  | cell a ty=>
    have h':behind σ (ρ.get a) fun cs off=>lS (ae P ty) cs off k:=h
    obtain⟨ad,cs,off,hv,hl,hk⟩:=(he.get a).behind hc h'
    obtain⟨u,x,hrun,h1,h2⟩:=hl.load hk
    exact⟨u,x,by simp[yV,hv,asAddr,hrun],h1,h2⟩
theorem oL {P:Program} {g:Gh} {n:Nat} {ρ:Env} {t:Array Value} {w:World} {σ:aa} (he:RE g n ρ t) (hc:ay g w σ):∀ (l:List ResultVar) {k:List AV→Prop},dZ P ρ σ l k→
    ∃vs xs,(l.mapM (yV t)).run P w= .ok vs w∧xs.length=vs.length∧(∀ (i:Nat) (x:AV) (v:Value),xs[i]? =some x→vs[i]? =some v→R g x v)∧k xs
  | [],k,h=>⟨[],[],rfl,rfl,fun i x v hx=>by simp at hx,h⟩
  | r::l,k,h=>by
    obtain⟨v,x,hr,hx,h2⟩:=wE he hc h
    obtain⟨vs,xs,hrs,hl,hxs,hk⟩:=oL he hc l h2
    refine⟨v::vs,x::xs,?_,by simp[hl],fun i y u hy hu=>?_,hk⟩
    · rw[List.mapM_cons];simp[hr,hrs]
    · cases i with
      |zero=>simp at hy hu;subst hy;subst hu;exact hx
      |succ i=>exact hxs i y u (by simpa using hy) (by simpa using hu)
theorem j9 {P:Program} {fn:Func} {g:Gh} {n:Nat} {ρ:Env} {t:Array Value} {w:World} {σ:aa} (he:RE g n ρ t) (hc:ay g w σ) {K:AV→Prop} (h:dZ P ρ σ fn.results.toList fun vs=>K (eO vs)):
    ∃v x,(results fn t).run P w= .ok v w∧R g x v∧K x:=by
  obtain⟨vs,xs,hr,hl,hx,hk⟩:=oL he hc _ h
  refine⟨if h:vs.toArray.size=1 then vs.toArray[0] else .tuple vs.toArray,eO xs,?_,?_,hk⟩
  · rw[sP,Array.mapM_eq_mapM_toList]
    simp[hr]
  · match xs,vs,hl with
    | [x],[v],_=>simpa [eO] using hx 0 x v rfl rfl
    | [],[],_=>exact .bK rfl fun i c v hc=>by simp at hc
    | a::b::l,c::d::m,hl=>
      rw[dif_neg (by simp)]
      exact .bK (by simpa using hl) fun i x v h1 h2=>hx i x v h1 (by simpa using h2)
theorem jA {P:Program} {f:FuncId} {fn:Func} {c:Code} (rl:List ResultVar) (nt:Nat) (hf:P.funcs[f]? =some fn) (hn:(fn.name== "runtime.NumGoroutine")=false) (hb:fn.body=some c) (hr:fn.results.toList=rl) (hnt:fn.ntmps=nt)
    {args:List AV} {σ:aa} {K:KK} (hsz:decide (args.length≤nt)=true) (h:W P nt c (gJ P rl K) (kO 0 args) σ):af P f args σ K:=by
  subst hr
  subst hnt
  have hsz':=of_decide_eq_true hsz
  refine⟨⟨fn,hf,hn,by rw[hb];rfl⟩,fun g w vs hl hr hc=>?_⟩
  refine calls_of_wp hf hb ?_
  refine wp_mono (h g {tmps:=vs++Array.replicate (fn.ntmps-vs.size) undef,defers:=[]} w rfl (yr hsz' hl hr) hc) ?_
  rintro e a' w' ⟨hd',g',ρ',σ',hle,he',hc',hq⟩
  cases e with
  | normal=>
    have hq2:dZ P ρ' σ' fn.results.toList fun vs=>K (eO vs) σ':=hq
    obtain⟨v,x,hv,hrv,hk⟩:=j9 (K:=fun r=>K r σ') he' hc' hq2;exact⟨hd',v,hv,v,rfl,g',_,σ',hle,hc',hrv,hk⟩
  | ret=>
    have hq2:dZ P ρ' σ' fn.results.toList fun vs=>K (eO vs) σ':=hq
    obtain⟨v,x,hv,hrv,hk⟩:=j9 (K:=fun r=>K r σ') he' hc' hq2;exact⟨hd',v,hv,v,rfl,g',_,σ',hle,hc',hrv,hk⟩
  |exit id'=>exact hq.elim
  |goto l=>exact hq.elim
  |panic ch=>exact hq.elim
  |outgrown=>exact hq.elim
end Go.Kern

namespace Go.Kern
open Go.RowKit
theorem s9 {ρ ρ':Env} {l:List Operand} (h:∀x∈l,ev ρ x=ev ρ' x):l.map (ev ρ)=l.map (ev ρ'):=List.map_congr_left h
theorem dV {P:Program} {mu:List Nat} {o:Oper} {ρ ρ':Env} {σ:aa} {k:KK} (h:∀x∈o.op.operands,ev ρ x=ev ρ' x) (hk:bu P mu o ρ σ k):bu P mu o ρ' σ k:=by
  obtain⟨dst,op,type,pos,after,guard⟩:=o
  have pairs:∀ps:List (Nat×Operand),(∀p∈ps,ev ρ p.2=ev ρ' p.2)→(ps.map fun p=>(p.1,ev ρ p.2))=(ps.map fun p=>(p.1,ev ρ' p.2)):=fun ps hp=>List.map_congr_left fun p hm=>by rw[hp p hm]
  cases op<;>simp only[Op.operands] at h<;>simp only[bu] at hk ⊢
  case build t ps=>rw[←pairs ps.toList fun p hp=>h p.2 (by simp;exact⟨p.1,by simpa using hp⟩)];exact hk
  case buildSlice t n ps=>rw[←pairs ps.toList fun p hp=>h p.2 (by simp;exact⟨p.1,by simpa using hp⟩)];exact hk
  case makeFunc fn first caps=>rw[←s9 (l:=caps.toList) fun x hx=>h x (by simp;right;simpa using hx)];exact hk
  case slice t x lo hi mx=>
    have hx:=h x (by simp)
    rw[←hx]
    have h1:lo.map (ev ρ')=lo.map (ev ρ):=by cases lo<;>simp;exact(h _ (by simp)).symm
    have h2:hi.map (ev ρ')=hi.map (ev ρ):=by cases hi<;>simp;exact(h _ (by simp)).symm
    have h3:mx.map (ev ρ')=mx.map (ev ρ):=by cases mx<;>simp;exact(h _ (by simp)).symm
    rw[h1,h2,h3];exact hk
  case call c=>
    obtain⟨callee,args,tys⟩:=c
    simp only[Call.operands] at h
    split at hk
    · rename_i q
      rw[if_pos q]
      unfold mq at hk ⊢
      simp only at hk ⊢
      split at hk
      · rename_i f x e1
        have hf:=h f (by simp)
        have hx:=h x (by simp;right;rw[←Array.mem_toList_iff,e1];simp)
        rw[←hf,←hx];exact hk
      · exact hk.elim
    rename_i q
    rw[if_neg q]
    unfold uO at hk ⊢
    simp only at hk ⊢
    cases callee with
    | value f=>
      have hf:=h f (by simp)
      have ha:=s9 (ρ:=ρ) (ρ':=ρ') (l:=args.toList) fun x hx=>h x (by simp;right;simpa using hx)
      simp only at hk ⊢
      rw[←hf,←ha];exact hk
    |invoke r m=>exact hk
    | builtin b=>
      have hx:∀x∈args.toList,ev ρ x=ev ρ' x:=fun x hx=>h x (by simp;simpa using hx)
      have hmap:=s9 (ρ:=ρ) (ρ':=ρ') (l:=args.toList) hx
      simp only at hk ⊢
      split at hk
      · rename_i x t e1 e2
        rw[e1] at hx
        rw[←hx x (by simp)];exact hk
      · rename_i x y t u e1 e2
        rw[e1] at hx
        rw[←hx x (by simp),←hx y (by simp)];exact hk
      · rename_i x y t u e1 e2
        rw[e1] at hx
        rw[←hx x (by simp),←hx y (by simp)];exact hk
      · rw[←hmap];exact hk
  all_goals (first|exact hk|(simp only[List.mem_toArray,List.mem_cons,List.not_mem_nil,or_false,forall_eq_or_imp,forall_eq] at h;simp only[←h];exact hk)|(simp at h;simp only[←h];exact hk))
def cg (ops:Array Oper) (i:Nat):List Nat:=((ops[i]?).map fun o=>(o.after.toList.filter (Region.binds .any)).map (·.on)).getD []
def la (ops:Array Oper) (A:List (List Nat)):Bool:=
 (List.range ops.size).all fun i=>(cg ops i).all (fun e=>decide (e<i))&&(A.getD i []).all fun j=>(cg ops i).any fun e=>decide (j=e)||(A.getD e []).contains j
def gX (ops:Array Oper):List (List Nat):=
 (List.range ops.size).foldl (fun acc i=>acc++[((cg ops i).flatMap fun e=>e::acc.getD e []).eraseDups]) []
structure Cl where
 tq:List Nat
 wr:List Nat
 al:List Nat
 ap:List Nat
 fin:List Nat
 lt:List Nat
 lo:Nat
def Cl.early (c:Cl):Bool:=c.lt.isEmpty&&decide (c.lo≠0)
def Cl.any (c:Cl) (i:Nat):Bool:=c.tq.contains i||c.wr.contains i||c.al.contains i
def Cl.cY (c:Cl) (i j:Nat):Bool:=(c.wr.contains i&&(c.wr.contains j||c.al.contains j||(c.tq.contains j&& !c.lt.contains i)))||(c.wr.contains j&&(c.wr.contains i||c.al.contains i||(c.tq.contains i&& !c.lt.contains j)))||(c.al.contains i&&c.tq.contains j&& !c.early)||(c.al.contains j&&c.tq.contains i&& !c.early)
def pS (c:Cl) (ops:Array Oper) (A:List (List Nat)):Bool:=
 (List.range ops.size).all fun j=>(List.range j).all fun i=>(A.getD j []).contains i||(match ops[i]?,ops[j]? with
  |some a,some b=>a.apart ops b&& !c.cY i j
  |_,_=>true)
def l4 (q:Nat) (s t:aa):Prop:=t=s∨∃ob,t=s.put q ob
theorem fp {q:Nat} {s:aa} {x y:Ob}:l4 q (s.put q x) (s.put q y)=True:=eq_true (.inr ⟨y,by
 funext p
 simp only[aa.put]
 split<;>rfl⟩)
def dF (s t:aa):Prop:=∃q,l4 q s t
theorem bO {q:Nat} {s:aa} {x:Ob}:dF s (s.put q x)=True:=eq_true ⟨q,.inr ⟨x,rfl⟩⟩
theorem dh {q:Nat} {s:aa} {x y:Ob}:dF (s.put q x) (s.put q y)=True:=eq_true ⟨q,by rw[fp];trivial⟩
theorem cM {s:aa}:dF s s=True:=eq_true ⟨0,.inl rfl⟩
def sB (lt:List Nat) (lo i:Nat) (σ σ':aa):Prop:=
 match lt with
 | []=>True
 |_::_=>if lt.contains i=true then l4 lo σ σ' else dF σ σ'
def iE (nu:Nat→Nat):List Nat→aa→aa
 | [],s=>s
 |i::r,s=>(iE nu r s).drop (nu i)
def iA (o:Oper):Bool:=
 match o.op with
 | .load .. =>true
 | .lookup .. =>true
 |_=>false
def wu (P:Program) (mu:List Nat) (lt:List Nat) (lo:Nat) (al:List Nat) (nu:Nat→Nat) (o:Oper) (ρ:Env) (σ:aa) (v:AV):Prop:=
 match lt with
 | []=>if lo=0 then True else iA o=true∧bu P mu o ρ (iE nu al σ) (fun v' s'=>v'=v∧s'=iE nu al σ)
 |_::_=>∀x,bu P mu o ρ (σ.put lo x) (fun v' s'=>v'=v∧s'=σ.put lo x)
def pP (c:Cl) (ops:Array Oper):Bool:=
 la ops (gX ops)&&pS c ops (gX ops)&&(c.al.all fun i=> !c.wr.contains i&& !c.tq.contains i&&(match ops[i]? with|some o=>o.guard.isNone|none=>false))&&
  (c.ap.all fun i=>c.wr.contains i&& !c.al.contains i&&(match ops[i]? with|some o=>o.guard.isNone|none=>false))&&
  (c.fin.all fun i=>decide (i+1=ops.size)&&c.wr.contains i&& !c.al.contains i&& !c.ap.contains i&&((List.range i).all fun j=>((gX ops).getD i []).contains j)&&(match ops[i]? with|some o=>o.guard.isNone|none=>false))
def uo (c:Cl) (ops:Array Oper):Bool:=c.lt.isEmpty&&pP c ops
def oN (c:Cl) (ops:Array Oper):Bool:= !c.lt.isEmpty&&c.al.isEmpty&&c.fin.isEmpty&&(c.wr.all fun i=> !c.tq.contains i)&&(c.lt.all fun i=>c.wr.contains i)&&pP c ops
def ew (P:Program) (o:Oper) (nu:Nat) (k:AV→Ob→Prop):Prop:=
  match o.op with
  | .alloc t=>(ae P t).ok=true∧(match (ae P t).zero with
    |some z=>z.known=true∧k (.ptr nu 0 0) (.arr t [z])
    |none=>False)
  |_=>False
def dK (P:Program) (n:Nat) (mu:List Nat) (c:Cl) (nu:Nat→Nat) (ops:Array Oper):List Oper→Nat→Env→aa→(Env→aa→Prop)→Prop
  | [],_,ρ,σ,K=>K ρ σ
  | o::r,i,ρ,σ,K=>gA n o.dst=true∧
    (if c.al.contains i=true then ew P o (nu i) fun v z=>bw (dK P n mu c nu ops r (i+1) (ρ.aG o.dst v) (σ.put (nu i) z) K) .mk
    else if c.ap.contains i=true then sk P mu o ρ σ (nu i) fun v s'=>sB c.lt c.lo i σ s'∧bw (dK P n mu c nu ops r (i+1) (ρ.aG o.dst v) s' K) .mk
    else if c.fin.contains i=true then bu P mu o ρ σ fun v s'=>bw (dK P n mu c nu ops r (i+1) (ρ.aG o.dst v) s' K) .mk
    else bM ops ρ o fun b=>if b=true then
      (if c.wr.contains i=true then ∃v σ',bu P mu o ρ σ (fun v' s'=>v'=v∧s'=σ')∧sB c.lt c.lo i σ σ'∧bw (dK P n mu c nu ops r (i+1) (ρ.aG o.dst v) σ' K) .mk
        else if c.tq.contains i=true then ∃v,bu P mu o ρ σ (fun v' s'=>v'=v∧s'=σ)∧wu P mu c.lt c.lo c.al nu o ρ σ v∧bw (dK P n mu c nu ops r (i+1) (ρ.aG o.dst v) σ K) .mk
        else ∃v,(∀s:aa,bu P mu o ρ s (fun v' s'=>v'=v∧s'=s))∧bw (dK P n mu c nu ops r (i+1) (ρ.aG o.dst v) σ K) .mk)
    else bw (dK P n mu c nu ops r (i+1) (ρ.aG o.dst (.bK [])) σ K) .mk)
section
variable {P:Program} {n:Nat} {mu:List Nat} {c:Cl} {nu:Nat→Nat} {ops:Array Oper} {o:Oper} {r:List Oper} {i:Nat} {ρ:Env} {σ:aa} {K:Env→aa→Prop}
theorem xI:dK P n mu c nu ops [] i ρ σ K=K ρ σ:=propext Iff.rfl
theorem vH:dK P n mu c nu ops (o::r) i ρ σ K=(gA n o.dst=true∧
  (if c.al.contains i=true then ew P o (nu i) fun v z=>bw (dK P n mu c nu ops r (i+1) (ρ.aG o.dst v) (σ.put (nu i) z) K) .mk
  else if c.ap.contains i=true then sk P mu o ρ σ (nu i) fun v s'=>sB c.lt c.lo i σ s'∧bw (dK P n mu c nu ops r (i+1) (ρ.aG o.dst v) s' K) .mk
  else if c.fin.contains i=true then bu P mu o ρ σ fun v s'=>bw (dK P n mu c nu ops r (i+1) (ρ.aG o.dst v) s' K) .mk
  else bM ops ρ o fun b=>if b=true then
   (if c.wr.contains i=true then ∃v σ',bu P mu o ρ σ (fun v' s'=>v'=v∧s'=σ')∧sB c.lt c.lo i σ σ'∧bw (dK P n mu c nu ops r (i+1) (ρ.aG o.dst v) σ' K) .mk
    else if c.tq.contains i=true then ∃v,bu P mu o ρ σ (fun v' s'=>v'=v∧s'=σ)∧wu P mu c.lt c.lo c.al nu o ρ σ v∧bw (dK P n mu c nu ops r (i+1) (ρ.aG o.dst v) σ K) .mk
    else ∃v,(∀s:aa,bu P mu o ρ s (fun v' s'=>v'=v∧s'=s))∧bw (dK P n mu c nu ops r (i+1) (ρ.aG o.dst v) σ K) .mk)
  else bw (dK P n mu c nu ops r (i+1) (ρ.aG o.dst (.bK [])) σ K) .mk)):=propext Iff.rfl
end
theorem nE {nu:Nat→Nat} {p:Nat} {x:Ob}:∀{l:List Nat} {s:aa},(iE nu l s) p=some x→s p=some x∧∀k,k∈l→p≠nu k
  | [],s,h=>⟨h,fun k hk=>by cases hk⟩
  | i::r,s,h=>by
    simp only[iE,aa.drop] at h
    split at h
    · cases h
    · rename_i hne
      obtain⟨h1,h2⟩:=nE h
      refine⟨h1,fun k hk=>?_⟩
      rcases List.mem_cons.1 hk with rfl|hk
      · exact hne
      · exact h2 k hk
theorem mR {P:Program} {mu:List Nat} {o:Oper} {ρ:Env} {σ:aa} {k:KK} (hro:iA o=true) (hk:bu P mu o ρ σ k) {g:Gh} {n:Nat} {a:Act} {w:World} (he:RE g n ρ a.tmps) (hc:ay g w σ):
  ∃v r,(execOp a.eval o).run P w= .ok (.value v) w∧R g r v∧k r σ:=by
 obtain⟨dst,op,type,pos,after,guard⟩:=o
 unfold iA at hro
 unfold bu at hk
 cases op<;>simp only at hro hk<;>try (cases hro;done)
 case load t x=>
  obtain⟨u,r,h1,h2,h3⟩:=mK hc (he.eval x) hk
  exact⟨u,r,by simp[execOp,h1],h2,h3⟩
 case lookup t m key ok=>
  obtain⟨u,r,h1,h2,h3⟩:=jZ hc (he.eval m) (he.eval key) hk
  exact⟨u,r,by simp[execOp,h1],h2,h3⟩
structure pn (P:Program) (n:Nat) (mu:List Nat) (c:Cl) (nu:Nat→Nat) (ops:Array Oper) (i:Nat) (o:Oper) (ρ ρ':Env) (σ σ':aa) (v:AV) (z:Ob):Prop where
 env:ρ'=ρ.aG o.dst v
 dst:gA n o.dst=true
 al:c.al.contains i=true→ew P o (nu i) (fun v' z'=>v'=v∧z'=z)∧σ'=σ.put (nu i) z∧v= .ptr (nu i) 0 0
 apn:c.ap.contains i=true→c.al.contains i=false→sk P mu o ρ σ (nu i) (fun v' s'=>v'=v∧s'=σ')
 run:c.al.contains i=false→c.ap.contains i=false→c.fin.contains i=false→∃b,bM ops ρ o (fun c=>c=b)∧(b=true→bu P mu o ρ σ (fun v' s'=>v'=v∧s'=σ'))∧(b=false→v= .bK []∧σ'=σ)∧
  (b=true→c.wr.contains i=false→c.tq.contains i=false→∀s:aa,bu P mu o ρ s (fun v' s'=>v'=v∧s'=s))
 iy:c.al.contains i=false→c.ap.contains i=false→c.wr.contains i=false→σ'=σ
 late:c.lt.isEmpty=false→c.al.contains i=false→c.fin.contains i=false→c.wr.contains i=true→∃q,l4 q σ σ'∧(c.lt.contains i=true→q=c.lo)
 rob:c.lt.isEmpty=false→c.al.contains i=false→c.ap.contains i=false→c.fin.contains i=false→c.wr.contains i=false→c.tq.contains i=true→bM ops ρ o (fun c=>c=true)→∀x,bu P mu o ρ (σ.put c.lo x) (fun v' s'=>v'=v∧s'=σ.put c.lo x)
 ear:c.early=true→c.al.contains i=false→c.ap.contains i=false→c.fin.contains i=false→c.wr.contains i=false→c.tq.contains i=true→bM ops ρ o (fun c=>c=true)→iA o=true∧bu P mu o ρ (iE nu c.al σ) (fun v' s'=>v'=v∧s'=iE nu c.al σ)
theorem lF {ops:Array Oper} {ρ:Env} {o:Oper} {k:Bool→Prop} (h:bM ops ρ o k):∃b,bM ops ρ o (fun c=>c=b)∧k b:=by
  unfold bM at h ⊢
  cases hg:o.guard with
  |none=>rw[hg] at h;exact⟨true,rfl,h⟩
  | some jw=>
    obtain⟨j,want⟩:=jw
    rw[hg] at h
    simp only at h ⊢
    cases hd:(ops[j]?).bind (·.dst) with
    |none=>rw[hd] at h;exact⟨false,rfl,h⟩
    | some s=>
      rw[hd] at h
      simp only at h ⊢
      split at h
      · exact⟨_,rfl,h⟩
      · exact⟨_,rfl,h⟩
      · exact h.elim
theorem ph {P:Program} {o:Oper} {nu:Nat} {k:AV→Ob→Prop} (h:ew P o nu k):∃z,ew P o nu (fun v' z'=>v'= .ptr nu 0 0∧z'=z)∧k (.ptr nu 0 0) z:=by
 unfold ew at h ⊢
 split at h
 ·obtain⟨h1,h2⟩:=h
  split at h2
  ·rename_i z hz
   exact⟨_,⟨h1,h2.1,rfl,rfl⟩,h2.2⟩
  ·exact h2.elim
 ·exact h.elim
theorem tZ {P:Program} {T:Ty} {mu:Bool} {σ:aa} {x y:AV} {nu:Nat} {k:KK} (h:ec P T mu σ x y nu k):∃v σ',ec P T mu σ x y nu (fun v' s'=>v'=v∧s'=σ')∧k v σ':=by
 unfold ec at h ⊢
 obtain⟨h1,h2,h3,h4,h⟩:=h
 split at h
 ·obtain⟨h5,h⟩:=h
  split at h
  ·obtain⟨h6,h7,h8,h9,h⟩:=h
   split at h
   ·rename_i rows hr
    obtain⟨h10,h11,h⟩:=h
    split at h
    ·rename_i q;exact⟨_,_,⟨h1,h2,h3,h4,h5,h6,h7,h8,h9,h10,h11,by rw[if_pos q];exact⟨rfl,rfl⟩⟩,h⟩
    ·rename_i q;exact⟨_,_,⟨h1,h2,h3,h4,h5,h6,h7,h8,h9,h10,h11,by rw[if_neg q];exact⟨rfl,rfl⟩⟩,h⟩
   ·exact h.elim
  ·obtain⟨h6,h7,h8,h⟩:=h
   split at h
   ·rename_i q;exact⟨_,_,⟨h1,h2,h3,h4,h5,h6,h7,h8,by rw[if_pos q];exact⟨rfl,rfl⟩⟩,h⟩
   ·rename_i q
    split at h
    ·rename_i q2;exact⟨_,_,⟨h1,h2,h3,h4,h5,h6,h7,h8,by rw[if_neg q,if_pos q2];exact⟨h.1,rfl,rfl⟩⟩,h.2⟩
    ·rename_i q2
     split at h
     ·exact⟨_,_,⟨h1,h2,h3,h4,h5,h6,h7,h8,by rw[if_neg q,if_neg q2];exact⟨rfl,rfl⟩⟩,h⟩
     ·exact⟨_,_,⟨h1,h2,h3,h4,h5,h6,h7,h8,by rw[if_neg q,if_neg q2];exact⟨rfl,rfl⟩⟩,h⟩
     ·exact⟨_,_,⟨h1,h2,h3,h4,h5,h6,h7,h8,by rw[if_neg q,if_neg q2];exact⟨h.1,rfl,rfl⟩⟩,h.2⟩
     ·exact h.elim
  ·exact h.elim
 ·exact h.elim
theorem yb {P:Program} {mu:List Nat} {o:Oper} {ρ:Env} {σ:aa} {nu:Nat} {k:KK} (h:sk P mu o ρ σ nu k):∃v σ',sk P mu o ρ σ nu (fun v' s'=>v'=v∧s'=σ')∧k v σ':=by
 unfold sk at h ⊢
 split at h
 ·split at h
  ·obtain⟨h1,h2⟩:=h
   obtain⟨v,σ',h3,h4⟩:=tZ h2
   exact⟨v,σ',⟨h1,h3⟩,h4⟩
  ·exact h.elim
 ·obtain⟨h1,h2,h3,h4,h5,h6,h7,h8⟩:=h
  exact⟨_,_,⟨h1,h2,h3,h4,h5,h6,h7,rfl,rfl⟩,h8⟩
 ·exact h.elim
theorem vX {P:Program} {mu:List Nat} {o:Oper} {ρ ρ':Env} {σ:aa} {nu:Nat} {k:KK} (h:∀x∈o.op.operands,ev ρ x=ev ρ' x) (hk:sk P mu o ρ σ nu k):sk P mu o ρ' σ nu k:=by
 obtain⟨dst,op,type,pos,after,guard⟩:=o
 unfold sk at hk ⊢
 simp only at hk h ⊢
 split at hk
 ·rename_i c
  obtain⟨callee,args,argTypes⟩:=c
  simp only[Op.operands,Call.operands] at h
  simp only at hk ⊢
  split at hk
  ·rename_i x y t u hargs htys
   have hx:∀z∈args.toList,ev ρ z=ev ρ' z:=fun z hz=>h z (by simpa using hz)
   rw[hargs] at hx
   rw[←hx x (by simp),←hx y (by simp)];exact hk
  ·exact hk.elim
 ·rename_i t m ps
  simp only[Op.operands] at h
  have e:(ps.toList.map fun p=>(p.1,ev ρ' p.2))=(ps.toList.map fun p=>(p.1,ev ρ p.2)):=List.map_congr_left fun p hp=>by rw[h p.2 (by simp;exact⟨p.1,by simpa using hp⟩)]
  rw[e];exact hk
 ·exact hk.elim
theorem vA {ops:Array Oper} {ρ:Env} {o:Oper} {k:Bool→Prop} {b:Bool} (h:bM ops ρ o (fun c=>c=b)) (hk:k b):bM ops ρ o k:=by
  unfold bM at h ⊢
  cases hg:o.guard with
  |none=>rw[hg] at h;simp only at h ⊢;subst h;exact hk
  | some jw=>
    obtain⟨j,want⟩:=jw
    rw[hg] at h
    simp only at h ⊢
    cases hd:(ops[j]?).bind (·.dst) with
    |none=>rw[hd] at h;simp only at h ⊢;subst h;exact hk
    | some s=>
      rw[hd] at h
      simp only at h ⊢
      split at h
      · subst h;exact hk
      · subst h;exact hk
      · exact h.elim
theorem tY {P:Program} {T:Ty} {mu:Bool} {σ:aa} {x y:AV} {nu:Nat} {k:KK} {v:AV} {σ':aa} (h:ec P T mu σ x y nu (fun v' s'=>v'=v∧s'=σ')) (hk:k v σ'):ec P T mu σ x y nu k:=by
 unfold ec at h ⊢
 obtain⟨h1,h2,h3,h4,h⟩:=h
 refine⟨h1,h2,h3,h4,?_⟩
 split at h
 ·obtain⟨h5,h⟩:=h
  refine⟨h5,?_⟩
  split at h
  ·obtain⟨h6,h7,h8,h9,h⟩:=h
   refine⟨h6,h7,h8,h9,?_⟩
   split at h
   ·obtain⟨h10,h11,h⟩:=h
    refine⟨h10,h11,?_⟩
    split at h
    ·rename_i q;rw[if_pos q,h.1,h.2];exact hk
    ·rename_i q;rw[if_neg q,h.1,h.2];exact hk
   ·exact h.elim
  ·obtain⟨h6,h7,h8,h⟩:=h
   refine⟨h6,h7,h8,?_⟩
   split at h
   ·rename_i q;rw[if_pos q,h.1,h.2];exact hk
   ·rename_i q
    rw[if_neg q]
    split at h
    ·rename_i q2;rw[if_pos q2];exact⟨h.1,by rw[h.2.1,h.2.2];exact hk⟩
    ·rename_i q2
     rw[if_neg q2]
     split at h
     ·rw[h.1,h.2];exact hk
     ·rw[h.1,h.2];exact hk
     ·exact⟨h.1,by rw[h.2.1,h.2.2];exact hk⟩
     ·exact h
  ·exact h.elim
 ·exact h.elim
theorem AQ {P:Program} {mu:List Nat} {o:Oper} {ρ:Env} {σ:aa} {nu:Nat} {k:KK} {v:AV} {σ':aa} (h:sk P mu o ρ σ nu (fun v' s'=>v'=v∧s'=σ')) (hk:k v σ'):sk P mu o ρ σ nu k:=by
 unfold sk at h ⊢
 split at h
 ·split at h
  ·exact⟨h.1,tY h.2 hk⟩
  ·exact h.elim
 ·obtain⟨h1,h2,h3,h4,h5,h6,h7,h8,h9⟩:=h
  exact⟨h1,h2,h3,h4,h5,h6,h7,by rw[h8,h9];exact hk⟩
 ·exact h.elim
theorem lX {P:Program} {n:Nat} {mu:List Nat} {c:Cl} {nu:Nat→Nat} {ops:Array Oper} {K:Env→aa→Prop} {m:List Oper}:∀ (l:List Oper) (i:Nat) (ρ:Env) (σ:aa),(∀j,j<l.length→c.fin.contains (i+j)=false)→dK P n mu c nu ops (l++m) i ρ σ K→
    dK P n mu c nu ops l i ρ σ (fun ρ' σ'=>dK P n mu c nu ops m (i+l.length) ρ' σ' K)
  | [],i,ρ,σ,_,h=>h
  | o::r,i,ρ,σ,hf,h=>by
    obtain⟨hd,h⟩:=h
    have ih:=fun ρ' σ' (h:dK P n mu c nu ops (r++m) (i+1) ρ' σ' K)=>lX r (i+1) ρ' σ' (fun j hj=>by rw[show i+1+j=i+(j+1) by omega];exact hf (j+1) (by simp;omega)) h
    have hfi:=hf 0 (by simp)
    rw[Nat.add_zero] at hfi
    have e:i+1+r.length=i+(o::r).length:=by simp;omega
    rw[e] at ih
    refine⟨hd,?_⟩
    split at h
    · rename_i q
      rw[if_pos q]
      unfold ew at h ⊢
      split at h
      · refine⟨h.1,?_⟩
        have h:=h.2
        split at h
        · exact⟨h.1,ih _ _ h.2⟩
        · exact h.elim
      · exact h.elim
    · rename_i q
      rw[if_neg q]
      split at h
      · rename_i q2
        rw[if_pos q2]
        obtain⟨v,σ',h1,h2⟩:=yb h
        exact AQ h1 ⟨h2.1,ih _ _ h2.2⟩
      · rename_i q2
        rw[if_neg q2]
        split at h
        · rename_i q3;rw[hfi] at q3;cases q3
        · rename_i q3
          rw[if_neg q3]
          obtain⟨b,hb,h⟩:=lF h
          refine vA hb ?_
          cases b with
          | true=>
            rw[if_pos rfl] at h
            rw[if_pos rfl]
            split at h
            · rename_i q4;rw[if_pos q4];obtain⟨v,σ',h1,h0,h2⟩:=h;exact⟨v,σ',h1,h0,ih _ _ h2⟩
            · rename_i q4
              rw[if_neg q4]
              split at h
              · rename_i q5;rw[if_pos q5];obtain⟨v,h1,h0,h2⟩:=h;exact⟨v,h1,h0,ih _ _ h2⟩
              · rename_i q5;rw[if_neg q5];obtain⟨v,h1,h2⟩:=h;exact⟨v,h1,ih _ _ h2⟩
          | false=>
            rw[if_neg (by simp)] at h
            rw[if_neg (by simp)]
            exact ih _ _ h
theorem jL {P:Program} {n:Nat} {mu:List Nat} {c:Cl} {nu:Nat→Nat} {ops:Array Oper} {K:Env→aa→Prop}:∀ (l:List Oper) (i:Nat) (ρ:Env) (σ:aa),(∀j,j<l.length→c.fin.contains (i+j)=false)→dK P n mu c nu ops l i ρ σ K→
    ∃ (ρs:Nat→Env) (sts:Nat→aa) (vals:Nat→AV) (zs:Nat→Ob),ρs 0=ρ∧sts 0=σ∧(∀j o,l[j]? =some o→pn P n mu c nu ops (i+j) o (ρs j) (ρs (j+1)) (sts j) (sts (j+1)) (vals j) (zs j))∧K (ρs l.length) (sts l.length)
  | [],i,ρ,σ,_,h=>⟨fun _=>ρ,fun _=>σ,fun _=> .any,fun _=> .map [],rfl,rfl,fun j o ho=>by simp at ho,h⟩
  | o::r,i,ρ,σ,hfn,h=>by
    obtain⟨hd,h⟩:=h
    have hfi:=hfn 0 (by simp)
    rw[Nat.add_zero] at hfi
    obtain⟨v,z,σ',bg,hr⟩:∃v z σ',pn P n mu c nu ops i o ρ (ρ.aG o.dst v) σ σ' v z∧dK P n mu c nu ops r (i+1) (ρ.aG o.dst v) σ' K:=by
      have toLate:∀{σ':aa},sB c.lt c.lo i σ σ'→c.lt.isEmpty=false→∃q,l4 q σ σ'∧(c.lt.contains i=true→q=c.lo):=fun {σ'} h0 hl=>by
        unfold sB at h0
        split at h0
        · rename_i e;rw[e] at hl;cases hl
        · split at h0
          · exact⟨_,h0,fun _=>rfl⟩
          · rename_i hh
            obtain⟨q,hq⟩:=h0
            exact⟨q,hq,fun e=>absurd e hh⟩
      have ltE:∀{A:Prop},c.lt.isEmpty=false→(c.lt.isEmpty=true)→A:=fun h1 h2=>by rw[h1] at h2;cases h2
      cases ha:c.al.contains i with
      | true=>
        rw[if_pos ha] at h
        obtain⟨z,h1,h2⟩:=ph h
        exact⟨_,z,_,⟨rfl,hd,fun _=>⟨h1,rfl,rfl⟩,(fun _ e=>by rw[ha] at e;cases e),(fun e=>by rw[ha] at e;cases e),(fun e=>by rw[ha] at e;cases e),(fun _ e=>by rw[ha] at e;cases e),(fun _ e=>by rw[ha] at e;cases e),(fun _ e=>by rw[ha] at e;cases e)⟩,h2⟩
      | false=>
        rw[if_neg (by rw[ha];simp)] at h
        cases hap:c.ap.contains i with
        | true=>
          rw[if_pos hap] at h
          obtain⟨v,σ',h1,h0,h2⟩:=yb h
          exact⟨v,.map [],σ',⟨rfl,hd,(fun e=>by rw[ha] at e;cases e),fun _ _=>h1,(fun _ e=>by rw[hap] at e;cases e),(fun _ e=>by rw[hap] at e;cases e),(fun hl _ _ _=>toLate h0 hl),(fun _ _ e=>by rw[hap] at e;cases e),(fun _ _ e=>by rw[hap] at e;cases e)⟩,h2⟩
        |false=>
        rw[if_neg (by rw[hap];simp),if_neg (by rw[hfi];simp)] at h
        have nap:c.ap.contains i=true→c.al.contains i=false→∀ (v:AV) (σ':aa),sk P mu o ρ σ (nu i) (fun v' s'=>v'=v∧s'=σ'):=fun e=>by rw[hap] at e;cases e
        obtain⟨b,hb,h⟩:=lF h
        cases b with
        | true=>
          rw[if_pos rfl] at h
          split at h
          · rename_i hw
            obtain⟨v,σ',h1,h0,h2⟩:=h
            have hlate:=toLate h0
            exact⟨v,.map [],σ',⟨rfl,hd,(fun e=>by rw[ha] at e;cases e),(fun e e2=>nap e e2 _ _),fun _ _ _=>⟨true,hb,fun _=>h1,nofun,(fun _ e=>by rw[hw] at e;cases e)⟩,(fun _ _ e=>by rw[hw] at e;cases e),fun hl _ _ _=>hlate hl,(fun _ _ _ _ e=>by rw[hw] at e;cases e),(fun _ _ _ _ e=>by rw[hw] at e;cases e)⟩,h2⟩
          · rename_i hw
            have hw0:c.wr.contains i=false:=by simpa using hw
            split at h
            · rename_i ht
              obtain⟨v,h1,h0,h2⟩:=h
              exact⟨v,.map [],σ,⟨rfl,hd,(fun e=>by rw[ha] at e;cases e),(fun e e2=>nap e e2 _ _),fun _ _ _=>⟨true,hb,fun _=>h1,nofun,(fun _ _ e=>by rw[ht] at e;cases e)⟩,fun _ _ _=>rfl,fun _ _ _ _=>⟨c.lo,.inl rfl,fun _=>rfl⟩,fun hl _ _ _ _ _ _=>by
                unfold wu at h0
                split at h0
                · rename_i e;rw[e] at hl;cases hl
                · exact h0,fun hl _ _ _ _ _ _=>by
                simp only[Cl.early,Bool.and_eq_true,decide_eq_true_eq] at hl
                unfold wu at h0
                split at h0
                · rw[if_neg hl.2] at h0;exact h0
                · rename_i e;rw[e] at hl;cases hl.1⟩,h2⟩
            · rename_i ht
              obtain⟨v,h1,h2⟩:=h
              exact⟨v,.map [],σ,⟨rfl,hd,(fun e=>by rw[ha] at e;cases e),(fun e e2=>nap e e2 _ _),fun _ _ _=>⟨true,hb,fun _=>h1 σ,nofun,fun _ _ _=>h1⟩,fun _ _ _=>rfl,fun _ _ _ _=>⟨c.lo,.inl rfl,fun _=>rfl⟩,(fun _ _ _ _ _ e=>absurd e ht),(fun _ _ _ _ _ e=>absurd e ht)⟩,h2⟩
        | false=>
          rw[if_neg (by simp)] at h
          exact⟨.bK [],.map [],σ,⟨rfl,hd,(fun e=>by rw[ha] at e;cases e),(fun e e2=>nap e e2 _ _),fun _ _ _=>⟨false,hb,nofun,fun _=>⟨rfl,rfl⟩,nofun⟩,fun _ _ _=>rfl,fun _ _ _ _=>⟨c.lo,.inl rfl,fun _=>rfl⟩,fun _ _ _ _ _ _ hg=>by
            exfalso
            unfold bM at hb hg
            cases hgd:o.guard with
            |none=>rw[hgd] at hb;cases hb
            | some jw=>
              obtain⟨j,want⟩:=jw
              rw[hgd] at hb hg
              simp only at hb hg
              cases hdd:(ops[j]?).bind (·.dst) with
              |none=>rw[hdd] at hg;cases hg
              | some s=>
                rw[hdd] at hb hg
                simp only at hb hg
                split at hb
                · rename_i e;rw[e] at hg;simp only at hg;rw[hg] at hb;cases hb
                · rename_i e;rw[e] at hg;simp only at hg;cases hg
                · exact hb.elim,fun _ _ _ _ _ _ hg=>by
            exfalso
            unfold bM at hb hg
            cases hgd:o.guard with
            |none=>rw[hgd] at hb;cases hb
            | some jw=>
              obtain⟨j,want⟩:=jw
              rw[hgd] at hb hg
              simp only at hb hg
              cases hdd:(ops[j]?).bind (·.dst) with
              |none=>rw[hdd] at hg;cases hg
              | some s=>
                rw[hdd] at hb hg
                simp only at hb hg
                split at hb
                · rename_i e;rw[e] at hg;simp only at hg;rw[hg] at hb;cases hb
                · rename_i e;rw[e] at hg;simp only at hg;cases hg
                · exact hb.elim⟩,h⟩
    obtain⟨ρs,sts,vals,zs,e1,e2,h1,h2⟩:=jL r (i+1) _ σ' (fun j hj=>by rw[show i+1+j=i+(j+1) by omega];exact hfn (j+1) (by simp;omega)) hr
    refine⟨fun|0=>ρ|j+1=>ρs j,fun|0=>σ|j+1=>sts j,fun|0=>v|j+1=>vals j,fun|0=>z|j+1=>zs j,rfl,rfl,fun j o' ho=>?_,h2⟩
    cases j with
    | zero=>
      simp at ho;subst ho
      simp only[e1,e2,Nat.add_zero]
      exact bg
    | succ j=>
      have:=h1 j o' (by simpa using ho)
      rw[show i+1+j=i+(j+1) by omega] at this
      exact this
def bQ (ops:Array Oper) (vals:Nat→AV) (ρ:Env) (L:Array Bool):Nat→Nat→AV
 |0,s=>ρ.get s
 |m+1,s=>if L.getD m false=true∧(ops[m]?).bind (·.dst)=some s then vals m else bQ ops vals ρ L m s
def dG (c:Cl) (nu:Nat→Nat) (zs:Nat→Ob) (sts:Nat→aa) (L:Array Bool):Nat→aa
 |0=>sts 0
 |m+1=>if L.getD m false=true∧c.wr.contains m=true then sts (m+1) else if L.getD m false=true∧c.al.contains m=true then(dG c nu zs sts L m).put (nu m) (zs m) else dG c nu zs sts L m
theorem gv {ops:Array Oper} {L:Array Bool} (hL:L.size=ops.size) {i:Nat} (h:i∈Region.ready .any ops L):i<ops.size∧L.getD i false=false∧∀e∈cg ops i,L.getD e false=true:=by
 unfold Region.ready at h
 simp only[List.mem_filter,List.mem_range,Bool.and_eq_true,Bool.not_eq_true'] at h
 obtain⟨h1,h2,h3⟩:=h
 refine⟨h1,?_,fun e he=>?_⟩
 ·simp[Array.getD,hL,h1] at h2 ⊢
  exact h2
 ·unfold cg at he
  have ho:ops[i]? =some ops[i]:=by simp[h1]
  rw[ho] at he h3
  simp only[Option.map_some,Option.getD_some,List.mem_map,List.mem_filter] at he h3
  obtain⟨ed,⟨hm,hb⟩,rfl⟩:=he
  have:=Array.all_eq_true'.1 h3 ed (by simpa using hm)
  simpa [hb] using this
def Down (ops:Array Oper) (L:Array Bool):Prop:=∀i,L.getD i false=true→∀e∈cg ops i,L.getD e false=true
theorem cQ {ops:Array Oper} {A:List (List Nat)} (hA:la ops A=true) {L:Array Bool} (hL:L.size=ops.size) (hd:Down ops L):∀ (i j:Nat),L.getD i false=true→j∈A.getD i []→L.getD j false=true:=by
  intro i
  induction i using Nat.strongRecOn with
  | _ i ih=>
    intro j hi hj
    have hlt:i<ops.size:=by
      rcases Nat.lt_or_ge i ops.size with h|h
      · exact h
      · simp[Array.getD,hL,show ¬i<ops.size by omega] at hi
    have:=List.all_eq_true.1 hA i (List.mem_range.2 hlt)
    simp only[Bool.and_eq_true] at this
    obtain⟨h1,h2⟩:=this
    have h3:=List.all_eq_true.1 h2 j hj
    obtain⟨e,he,h4⟩:=List.any_eq_true.1 h3
    have hle:=hd i hi e he
    have helt:e<i:=by simpa using List.all_eq_true.1 h1 e he
    simp only[Bool.or_eq_true,decide_eq_true_eq,List.contains_iff_mem] at h4
    rcases h4 with rfl|h4
    · exact hle
    · exact ih e helt j hle h4
theorem ek {ops:Array Oper} {A:List (List Nat)} (hA:la ops A=true) {L:Array Bool} (hL:L.size=ops.size) (hd:Down ops L) {i:Nat} (hi:i<ops.size) (hr:∀e∈cg ops i,L.getD e false=true) {j:Nat} (hj:j∈A.getD i []):L.getD j false=true:=by
 have:=List.all_eq_true.1 hA i (List.mem_range.2 hi)
 simp only[Bool.and_eq_true] at this
 have h3:=List.all_eq_true.1 this.2 j hj
 obtain⟨e,he,h4⟩:=List.any_eq_true.1 h3
 simp only[Bool.or_eq_true,decide_eq_true_eq,List.contains_iff_mem] at h4
 rcases h4 with rfl|h4
 ·exact hr j he
 ·exact cQ hA hL hd e j (hr e he) h4
theorem cA {c:Cl} {ops:Array Oper} {A:List (List Nat)} (h:pS c ops A=true) {i j:Nat} (hij:i<j) {a b:Oper} (ha:ops[i]? =some a) (hb:ops[j]? =some b):
  i∈A.getD j []∨(a.apart ops b=true∧c.cY i j=false):=by
 have hj:j<ops.size:=(Array.getElem?_eq_some_iff.1 hb).1
 have h1:=List.all_eq_true.1 h j (List.mem_range.2 hj)
 have h2:=List.all_eq_true.1 h1 i (List.mem_range.2 hij)
 rw[ha,hb] at h2
 rcases Bool.or_eq_true_iff.1 h2 with h2|h2
 ·exact .inl (List.contains_iff_mem.1 h2)
 ·have:=Bool.and_eq_true_iff.1 h2
  exact .inr ⟨this.1,by simpa using this.2⟩
theorem cd {L:Array Bool} {i j:Nat} (hi:i<L.size):(L.setIfInBounds i true).getD j false=if j=i then true else L.getD j false:=by
 rw[Array.getD_eq_getD_getElem?,Array.getElem?_setIfInBounds,Array.getD_eq_getD_getElem?]
 by_cases h:i=j
 ·subst h;simp[hi]
 ·rw[if_neg h,if_neg (fun e=>h e.symm)]
theorem put_comm {s:aa} {a b:Nat} (h:a≠b) (x y:Ob):(s.put a x).put b y=(s.put b y).put a x:=by
 funext p
 simp only[aa.put]
 by_cases h1:p=a
 ·have h2:¬p=b:=fun e=>h (h1.symm.trans e)
  simp only[h1,h,if_true,if_false]
 ·by_cases h2:p=b
  ·simp only[h2,if_true,if_neg (fun e:b=a=>h e.symm)]
  ·simp only[h1,h2,if_false]
section
variable {P:Program} {n:Nat} {mu:List Nat} {c:Cl} {nu:Nat→Nat} {ops:Array Oper} {ρs:Nat→Env} {sts:Nat→aa} {vals:Nat→AV} {zs:Nat→Ob}
theorem mI (ht:∀j o,ops[j]? =some o→pn P n mu c nu ops j o (ρs j) (ρs (j+1)) (sts j) (sts (j+1)) (vals j) (zs j)) (m s:Nat) (hm:m<ops.size):
    (ρs (m+1)).get s=if (ops[m]?).bind (·.dst)=some s then vals m else(ρs m).get s:=by
  have ho:ops[m]? =some ops[m]:=by simp[hm]
  have:=(ht m _ ho).env
  rw[this,ho,Option.bind_some]
  cases hd:ops[m].dst with
  |none=>simp[Env.aG]
  | some d=>
    simp only[Env.aG,Env.get,Option.some.injEq]
    by_cases h:s=d
    · subst h;simp
    · rw[if_neg h,if_neg (fun e=>h e.symm)]
variable (hapw:∀m,c.wr.contains m=false→c.ap.contains m=false) (hA:la ops (gX ops)=true) (hp:pS c ops (gX ops)=true)
 (ht:∀j o,ops[j]? =some o→pn P n mu c nu ops j o (ρs j) (ρs (j+1)) (sts j) (sts (j+1)) (vals j) (zs j))
include hapw hA hp ht
theorem oO {L:Array Bool} (hL:L.size=ops.size) (hd:Down ops L) {i:Nat} {o:Oper} (ho:ops[i]? =some o) (hni:L.getD i false=false) (hr:∀e∈cg ops i,L.getD e false=true) {s:Nat} (hs:s∈o.looksAt ops):
    ∀m,m≤ops.size→bQ ops vals (ρs 0) L m s=if m≤i then(ρs m).get s else(ρs i).get s
  |0,_=>by simp[bQ]
  | m+1,hm=>by
    have ih:=oO hL hd ho hni hr hs m (by omega)
    have hm':m<ops.size:=by omega
    have hom:ops[m]? =some ops[m]:=by simp[hm']
    simp only[bQ,ih]
    rcases Nat.lt_trichotomy m i with h|h|h
    · rw[if_pos (by omega:m≤i),if_pos (by omega:m+1≤i),mI ht m s hm']
      by_cases hw:(ops[m]?).bind (·.dst)=some s
      · have hlm:L.getD m false=true:=by
          rcases cA hp h hom ho with h1|⟨h1,_⟩
          · exact ek hA hL hd (Array.getElem?_eq_some_iff.1 ho).1 hr h1
          · have hdm:ops[m].dst=some s:=by rw[hom] at hw;simpa using hw
            exact absurd hs ((Oper.apart_spec h1).1 s hdm)
        rw[if_pos ⟨hlm,hw⟩,if_pos hw]
      · rw[if_neg (fun h=>hw h.2),if_neg hw]
    · subst h
      rw[if_neg (fun h=>by rw[hni] at h;exact absurd h.1 (by simp)),if_pos (Nat.le_refl _),if_neg (by omega)]
    · rw[if_neg (by omega:¬m≤i),if_neg (by omega:¬m+1≤i)]
      by_cases hw:(ops[m]?).bind (·.dst)=some s
      · have hlm:L.getD m false=false:=by
          cases hlm:L.getD m false with
          |false=>rfl
          | true=>
            exfalso
            rcases cA hp h ho hom with h1|⟨h1,_⟩
            · have:=cQ hA hL hd m i hlm h1
              rw[hni] at this;cases this
            · have hdm:ops[m].dst=some s:=by rw[hom] at hw;simpa using hw
              exact(Oper.apart_spec h1).2.2 s hdm hs
        rw[if_neg (fun h=>by rw[hlm] at h;exact absurd h.1 (by simp))]
      · rw[if_neg (fun h=>hw h.2)]
theorem jC {L:Array Bool} (hL:L.size=ops.size) (hd:Down ops L) {i:Nat} {o:Oper} (ho:ops[i]? =some o) (hni:L.getD i false=false) (hr:∀e∈cg ops i,L.getD e false=true) (hlk:c.wr.contains i=true∨(c.tq.contains i=true∧c.lt.isEmpty=true∧c.early=false)):
    ∀m,m≤ops.size→dG c nu zs sts L m=if m≤i then sts m else sts i
  |0,_=>by simp[dG]
  | m+1,hm=>by
    have ih:=jC hL hd ho hni hr hlk m (by omega)
    have hm':m<ops.size:=by omega
    have hom:ops[m]? =some ops[m]:=by simp[hm']
    simp only[dG,ih]
    have bg:=ht m _ hom
    have hcl:(c.wr.contains m=true∨c.al.contains m=true)→c.cY m i=true∧c.cY i m=true:=by
      intro hwa
      simp only[Cl.cY]
      rcases hlk with h'|⟨h',h0,hne⟩
      · rcases hwa with h|h<;>simp only[h,h',Bool.true_and,Bool.and_true,Bool.or_true,Bool.true_or]<;>simp
      · have hl0:c.lt=[]:=by simpa using h0
        have hn:∀q,c.lt.contains q=false:=fun q=>by rw[hl0];rfl
        rcases hwa with h|h<;>simp only[h,h',hn,hne,Bool.not_false,Bool.true_and,Bool.and_true,Bool.or_true,Bool.true_or]<;>simp
    rcases Nat.lt_trichotomy m i with h|h|h
    · rw[if_pos (by omega:m≤i),if_pos (by omega:m+1≤i)]
      have hlm:(c.wr.contains m=true∨c.al.contains m=true)→L.getD m false=true:=fun hwa=>by
        rcases cA hp h hom ho with h1|⟨_,h1⟩
        · exact ek hA hL hd (Array.getElem?_eq_some_iff.1 ho).1 hr h1
        · rw[(hcl hwa).1] at h1;cases h1
      cases hw:c.wr.contains m with
      |true=>rw[if_pos ⟨hlm (.inl hw),rfl⟩]
      | false=>
        rw[if_neg (fun h=>by simp at h)]
        cases ha:c.al.contains m with
        |true=>rw[if_pos ⟨hlm (.inr ha),rfl⟩,(bg.al ha).2.1]
        |false=>rw[if_neg (fun h=>by simp at h),bg.iy ha (hapw m hw) hw]
    · subst h
      rw[if_neg (fun h=>by rw[hni] at h;exact absurd h.1 (by simp)),if_neg (fun h=>by rw[hni] at h;exact absurd h.1 (by simp)),if_pos (Nat.le_refl _),if_neg (by omega)]
    · rw[if_neg (by omega:¬m≤i),if_neg (by omega:¬m+1≤i)]
      have hlm:(c.wr.contains m=true∨c.al.contains m=true)→L.getD m false=false:=fun hwa=>by
        cases hlm:L.getD m false with
        |false=>rfl
        | true=>
          exfalso
          rcases cA hp h ho hom with h1|⟨_,h1⟩
          · have:=cQ hA hL hd m i hlm h1
            rw[hni] at this;cases this
          · rw[(hcl hwa).2] at h1;cases h1
      cases hw:c.wr.contains m with
      |true=>rw[if_neg (fun h=>by rw[hlm (.inl hw)] at h;exact absurd h.1 (by simp)),if_neg (fun h=>by rw[hlm (.inl hw)] at h;exact absurd h.1 (by simp))]
      | false=>
        rw[if_neg (fun h=>by simp at h)]
        cases ha:c.al.contains m with
        |true=>rw[if_neg (fun h=>by rw[hlm (.inr ha)] at h;exact absurd h.1 (by simp))]
        |false=>rw[if_neg (fun h=>by simp at h)]
theorem qH {L:Array Bool} (hL:L.size=ops.size) (hd:Down ops L) {i:Nat} {o:Oper} (ho:ops[i]? =some o) (hni:L.getD i false=false) (hr:∀e∈cg ops i,L.getD e false=true) (htq:c.tq.contains i=true) (hlt:c.lt=[]) (p:Nat) (hp':∀k,c.al.contains k=true→p≠nu k):
    ∀m,m≤ops.size→(dG c nu zs sts L m) p=(if m≤i then sts m else sts i) p
  |0,_=>by simp[dG]
  | m+1,hm=>by
    have ih:=qH hL hd ho hni hr htq hlt p hp' m (by omega)
    have hm':m<ops.size:=by omega
    have hom:ops[m]? =some ops[m]:=by simp[hm']
    have bg:=ht m _ hom
    have hn:∀q,c.lt.contains q=false:=fun q=>by rw[hlt];rfl
    have hcl:c.wr.contains m=true→c.cY m i=true∧c.cY i m=true:=by
      intro h
      simp only[Cl.cY,h,htq,hn,Bool.not_false,Bool.true_and,Bool.and_true,Bool.or_true,Bool.true_or]
      simp
    have hput:∀ (s:aa) (x:Ob),c.al.contains m=true→(s.put (nu m) x) p=s p:=fun s x ha=>by simp only[aa.put,if_neg (hp' m ha)]
    simp only[dG]
    rcases Nat.lt_trichotomy m i with h|h|h
    · rw[if_pos (by omega:m≤i)] at ih
      rw[if_pos (by omega:m+1≤i)]
      have hlm:c.wr.contains m=true→L.getD m false=true:=fun hwa=>by
        rcases cA hp h hom ho with h1|⟨_,h1⟩
        · exact ek hA hL hd (Array.getElem?_eq_some_iff.1 ho).1 hr h1
        · rw[(hcl hwa).1] at h1;cases h1
      cases hw:c.wr.contains m with
      |true=>rw[if_pos ⟨hlm hw,rfl⟩]
      | false=>
        rw[if_neg (fun h=>by simp at h)]
        cases ha:c.al.contains m with
        | true=>
          rw[(bg.al ha).2.1,hput _ _ ha]
          split
          · rw[hput _ _ ha];exact ih
          · exact ih
        |false=>rw[if_neg (fun h=>by simp at h),bg.iy ha (hapw m hw) hw];exact ih
    · subst h
      rw[if_pos (Nat.le_refl _)] at ih
      rw[if_neg (fun h=>by rw[hni] at h;exact absurd h.1 (by simp)),if_neg (fun h=>by rw[hni] at h;exact absurd h.1 (by simp)),if_neg (by omega)]
      exact ih
    · rw[if_neg (by omega:¬m≤i)] at ih
      rw[if_neg (by omega:¬m+1≤i)]
      have hlm:c.wr.contains m=true→L.getD m false=false:=fun hwa=>by
        cases hlm:L.getD m false with
        |false=>rfl
        | true=>
          exfalso
          rcases cA hp h ho hom with h1|⟨_,h1⟩
          · have:=cQ hA hL hd m i hlm h1
            rw[hni] at this;cases this
          · rw[(hcl hwa).2] at h1;cases h1
      cases hw:c.wr.contains m with
      |true=>rw[if_neg (fun h=>by rw[hlm hw] at h;exact absurd h.1 (by simp)),if_neg (fun h=>by rw[hlm hw] at h;exact absurd h.1 (by simp))];exact ih
      | false=>
        rw[if_neg (fun h=>by simp at h)]
        cases ha:c.al.contains m with
        | true=>
          split
          · rw[hput _ _ ha];exact ih
          · exact ih
        |false=>rw[if_neg (fun h=>by simp at h)];exact ih
theorem uG {L:Array Bool} (hL:L.size=ops.size) (hd:Down ops L) {i:Nat} {o:Oper} (ho:ops[i]? =some o) (hni:L.getD i false=false) (s:Nat):
    ∀m,m≤ops.size→bQ ops vals (ρs 0) (L.setIfInBounds i true) m s=if i<m∧o.dst=some s then vals i else bQ ops vals (ρs 0) L m s
  |0,_=>by simp[bQ]
  | m+1,hm=>by
    have ih:=uG hL hd ho hni s m (by omega)
    have hm':m<ops.size:=by omega
    have hi:i<ops.size:=(Array.getElem?_eq_some_iff.1 ho).1
    have hom:ops[m]? =some ops[m]:=by simp[hm']
    simp only[bQ,ih,cd (show i<L.size by omega)]
    rcases Nat.lt_trichotomy m i with h|h|h
    · simp only[show ¬m=i by omega,show ¬i<m by omega,show ¬i<m+1 by omega,false_and,if_false]
    · subst h
      rw[if_pos rfl,ho,Option.bind_some]
      by_cases hs:o.dst=some s
      · rw[if_pos ⟨rfl,hs⟩,if_pos ⟨by omega,hs⟩]
      · rw[if_neg (fun h=>hs h.2),if_neg (fun h=>hs h.2),if_neg (fun h=>hs h.2),if_neg (fun h=>hs h.2)]
    · rw[if_neg (by omega:¬m=i)]
      by_cases hs:o.dst=some s
      · by_cases hw:L.getD m false=true∧(ops[m]?).bind (·.dst)=some s
        · exfalso
          obtain⟨hlm,hw⟩:=hw
          have hdm:ops[m].dst=some s:=by rw[hom] at hw;simpa using hw
          rcases cA hp h ho hom with h1|⟨h1,_⟩
          · have:=cQ hA hL hd m i hlm h1
            rw[hni] at this;cases this
          · exact(Oper.apart_spec h1).2.1 s hs hdm
        · rw[if_neg hw,if_pos ⟨h,hs⟩,if_pos ⟨by omega,hs⟩]
      · simp only[hs,Bool.false_eq_true,and_false,if_false]
def dr (c:Cl) (nu:Nat→Nat) (zs:Nat→Ob) (sts:Nat→aa) (i:Nat) (s:aa):aa:=
 if c.wr.contains i=true then sts (i+1) else if c.al.contains i=true then s.put (nu i) (zs i) else s
theorem wv (hnu:∀i j,c.al.contains i=true→c.al.contains j=true→nu i=nu j→i=j) {L:Array Bool} (hL:L.size=ops.size) (hd:Down ops L) {i:Nat} {o:Oper} (ho:ops[i]? =some o) (hni:L.getD i false=false):
    ∀m,m≤ops.size→dG c nu zs sts (L.setIfInBounds i true) m=if i<m then dr c nu zs sts i (dG c nu zs sts L m) else dG c nu zs sts L m
  |0,_=>by simp[dG]
  | m+1,hm=>by
    have ih:=wv hnu hL hd ho hni m (by omega)
    have hm':m<ops.size:=by omega
    have hi:i<ops.size:=(Array.getElem?_eq_some_iff.1 ho).1
    have hom:ops[m]? =some ops[m]:=by simp[hm']
    simp only[dG,ih,cd (show i<L.size by omega)]
    rcases Nat.lt_trichotomy m i with h|h|h
    · simp only[show ¬m=i by omega,show ¬i<m by omega,show ¬i<m+1 by omega,if_false]
    · subst h
      rw[if_pos rfl,if_pos (show m<m+1 by omega),hni]
      simp only[Bool.false_eq_true,false_and,if_false,true_and,dr,Nat.lt_irrefl]
    · rw[if_neg (by omega:¬m=i),if_pos (by omega:i<m+1),if_pos h]
      have hnl:c.cY i m=true→L.getD m false=false:=fun hcl=>by
        cases hlm:L.getD m false with
        |false=>rfl
        | true=>
          exfalso
          rcases cA hp h ho hom with h1|⟨_,h1⟩
          · have:=cQ hA hL hd m i hlm h1
            rw[hni] at this;cases this
          · rw[hcl] at h1;cases h1
      cases hw:c.wr.contains i with
      | true=>
        have hcl:(c.wr.contains m=true∨c.al.contains m=true)→L.getD m false=false:=fun hwa=>hnl (by
          simp only[Cl.cY]
          rcases hwa with h|h<;>simp only[h,hw,Bool.true_and,Bool.or_true,Bool.true_or]<;>simp)
        simp only[dr,hw,if_true]
        cases hwm:c.wr.contains m with
        |true=>simp only[hcl (.inl hwm),Bool.false_eq_true,false_and,if_false]
        | false=>
          cases ham:c.al.contains m with
          |true=>simp only[hcl (.inr ham),Bool.false_eq_true,false_and,if_false]
          |false=>simp only[Bool.false_eq_true,and_false,if_false]
      | false=>
        cases ha:c.al.contains i with
        | true=>
          have hcl:c.wr.contains m=true→L.getD m false=false:=fun hwm=>hnl (by
            simp only[Cl.cY,Cl.any]
            simp only[hwm,ha,Bool.true_and,Bool.or_true,Bool.true_or])
          simp only[dr,hw,ha,Bool.false_eq_true,if_false,if_true]
          cases hwm:c.wr.contains m with
          |true=>simp only[hcl hwm,Bool.false_eq_true,false_and,if_false]
          | false=>
            simp only[Bool.false_eq_true,and_false,if_false]
            cases ham:c.al.contains m with
            | true=>
              simp only[and_true]
              split
              · exact put_comm (fun e=>by have:=hnu i m ha ham e;omega) _ _
              · rfl
            |false=>simp only[Bool.false_eq_true,and_false,if_false]
        |false=>simp only[dr,hw,ha,Bool.false_eq_true,if_false]
end
def left (ops:Array Oper) (L:Array Bool):Nat:=((List.range ops.size).filter fun i=> !L.getD i false).length
theorem rG {ops:Array Oper} {L:Array Bool} (hL:L.size=ops.size) {i:Nat} (hi:i<ops.size) (hni:L.getD i false=false):left ops (L.setIfInBounds i true)<left ops L:=by
 unfold left
 have:((List.range ops.size).filter fun j=> !(L.setIfInBounds i true).getD j false)=((List.range ops.size).filter fun j=> !L.getD j false).filter (fun j=> !decide (j=i)):=by
  rw[List.filter_filter]
  apply List.filter_congr
  intro j _
  rw[cd (by omega)]
  by_cases h:j=i
  ·subst h;simp
  ·rw[if_neg h];simp[h]
 rw[this,List.length_filter_lt_length_iff_exists]
 exact⟨i,by simp only[List.mem_filter,List.mem_range,hni];exact⟨hi,rfl⟩,by simp⟩
theorem oW {ops:Array Oper} {L:Array Bool} (h:left ops L=0):∀i,i<ops.size→L.getD i false=true:=by
 intro i hi
 have:=List.filter_eq_nil_iff.1 (List.eq_nil_of_length_eq_zero h) i (List.mem_range.2 hi)
 simpa using this
theorem vi {ops:Array Oper} {L:Array Bool} (hL:L.size=ops.size) {i:Nat} (hi:i<ops.size) (hni:L.getD i false=false) (he:∀e∈cg ops i,L.getD e false=true):i∈Region.ready .any ops L:=by
 unfold Region.ready
 simp only[List.mem_filter,List.mem_range,Bool.and_eq_true,Bool.not_eq_true']
 have ho:ops[i]? =some ops[i]:=by simp[hi]
 refine⟨hi,?_,?_⟩
 ·simp[Array.getD,hL,hi] at hni ⊢;exact hni
 ·rw[ho]
  simp only[Option.map_some,Option.getD_some]
  rw[Array.all_eq_true']
  intro ed hed
  by_cases hb:Region.binds .any ed=true
  ·have:=he ed.on (by
    unfold cg
    rw[ho]
    simp only[Option.map_some,Option.getD_some,List.mem_map,List.mem_filter]
    exact⟨ed,⟨by simpa using hed,hb⟩,rfl⟩)
   simp[this]
  ·simp[hb]
theorem lr {ops:Array Oper} {A:List (List Nat)} (hA:la ops A=true) {L:Array Bool} (hL:L.size=ops.size) (h:Region.ready .any ops L=[]):∀i,i<ops.size→L.getD i false=true:=by
  intro i
  induction i using Nat.strongRecOn with
  | _ i ih=>
    intro hi
    cases hni:L.getD i false with
    |true=>rfl
    | false=>
      exfalso
      have h1:=List.all_eq_true.1 hA i (List.mem_range.2 hi)
      simp only[Bool.and_eq_true] at h1
      have:=vi hL hi hni (fun e he=>by
        have helt:e<i:=by simpa using List.all_eq_true.1 h1.1 e he
        exact ih e helt (by omega))
      rw[h] at this
      cases this
theorem ju {ops:Array Oper} {o:Oper} {ρ ρ':Env} (h:∀s∈o.looksAt ops,ρ.get s=ρ'.get s):∀x∈o.op.operands,ev ρ x=ev ρ' x:=by
 intro x hx
 cases x with
 |tmp t=>exact h t (List.mem_append_left _ (List.mem_filterMap.2 ⟨.tmp t,by simpa using hx,rfl⟩))
 |const v=>rfl
 |global v=>rfl
 |func f=>rfl
theorem lU {ops:Array Oper} {o:Oper} {j:Nat} {want:Bool} (hg:o.guard=some (j,want)) {s:Nat} (hs:(ops[j]?).bind (·.dst)=some s):s∈o.looksAt ops:=by
 unfold Oper.looksAt
 rw[hg]
 simp[hs]
def gY (ρ:Env) (l:List Nat):Env:=l.map fun s=>(s,ρ.get s)
theorem er (ρ:Env):∀ (l:List Nat) (s:Nat),(gY ρ l).get s=if s∈l then ρ.get s else .any
  | [],s=>by simp[gY,Env.get]
  | a::l,s=>by
    have ih:=er ρ l s
    unfold gY at ih ⊢
    simp only[List.map_cons,Env.get,ih,List.mem_cons]
    by_cases h:s=a
    · subst h;simp
    · simp[h]
theorem ic (a:Act) (d:Option Tmp) (v:Value):(a.put d v).defers=a.defers:=by cases d<;>rfl
theorem q9 (a:Act) (d:Option Tmp) (v:Value):(a.put d v).tmps.size=a.tmps.size:=by cases d<;>simp[Act.put]
theorem rb {a:Act} {n:Nat} (hn:a.tmps.size=n) {d:Option Tmp} (hd:gA n d=true) (v:Value) (s:Nat):(a.put d v).tmps.getD s undef=if d=some s then v else a.tmps.getD s undef:=by
  cases d with
  |none=>simp[Act.put]
  | some d=>
    have hd':d<n:=by simpa [gA] using hd
    simp only[Act.put,Option.some.injEq]
    rw[Array.getD_eq_getD_getElem?,Array.getElem?_setIfInBounds]
    by_cases h:d=s
    · subst h;simp[hn,hd']
    · rw[if_neg h,if_neg h,←Array.getD_eq_getD_getElem?]
structure zV (g g':Gh):Prop where
 w0:g'.w0=g.w0
 bf:∀b o v,g.bf b o=some v→g'.bf b o=some v
 loc:∀o x,g.loc o=some x→g'.loc o=some x
 tipv:∀o n v,g.tipv o n=some v→g'.tipv o n=some v
theorem zV.then {a b c:Gh} (h:zV a b) (k:b.Le c):zV a c:=
 ⟨k.w0.trans h.w0,fun _ _ _ x=>k.bf _ _ _ (h.bf _ _ _ x),fun _ _ x=>k.loc _ _ (h.loc _ _ x),fun _ _ _ x=>k.tipv _ _ _ (h.tipv _ _ _ x)⟩
def Gh.aA (g:Gh) (r:Nat→Prop):Gh:= {g with res:=r}
theorem R.aA {g:Gh} (r:Nat→Prop) {x:AV} {v:Value} (h:R g x v):R (g.aA r) x v:=by
  induction h with
  |any v=>exact .any v
  |int k n=>exact .int k n
  |bool b=>exact .bool b
  |str s=>exact .str s
  |agg hl h ih=>exact .agg hl ih
  |bK hl h ih=>exact .bK hl ih
  |slnil=>exact .slnil
  | sl hk hs hu hi h ih=>
    rename_i k xs a cap sz vs
    refine .sl ?_ hs hu hi ih
    cases k<;>exact hk
  |nilp=>exact .nilp
  |ip hs ho hi h ih=>exact .ip hs ho hi ih
  |ptr hb=>exact .ptr hb
  |ms hb hc hl ha=>exact .ms hb hc hl ha
  |map hb=>exact .map hb
  |nilmap=>exact .nilmap
  |fn hl h ih=>exact .fn hl ih
  |nilfn=>exact .nilfn
  |ifc h ih=>exact .ifc ih
  |nilifc=>exact .nilifc
theorem jT.aA {g:Gh} (r:Nat→Prop) {w:World} {o b:Nat} {x:Ob} (h:jT g w o b x):jT (g.aA r) w o b x:=by
  cases x with
  | arr e rows=>
    obtain⟨sz,cells,h1,h2,h3,h4,h5,h6⟩:=h
    exact⟨sz,cells,h1,h2,h3,h4,fun i c v hc hv=>(h5 i c v hc hv).aA r,h6⟩
  |tip n e sz=>exact h
  | map es=>
    obtain⟨en,ck,h1,h2,h3,h4,h5⟩:=h
    exact⟨en,ck,h1,h2,h3,fun i kv e hk he=>⟨(h4 i kv e hk he).1.aA r,(h4 i kv e hk he).2.aA r⟩,h5⟩
  | mapR es en ck=>
    obtain⟨h1,h2,h3,h4,h5⟩:=h
    exact⟨h1,h2,h3,fun i kv e hk he=>⟨(h4 i kv e hk he).1.aA r,(h4 i kv e hk he).2.aA r⟩,h5⟩
  |iter m en ck sn=>exact h
  |iterN=>exact h
theorem ay.aA {g:Gh} {w:World} {s:aa} (h:ay g w s) (r:Nat→Prop) (hf:∃N,∀o,N≤o→¬r o) (hr:∀o,r o→g.loc o=none∧(∀m,g.tipv o m=none)∧s o=none):ay (g.aA r) w s:=by
 obtain⟨N,hN⟩:=h.fresh
 obtain⟨M,hM⟩:=hf
 obtain⟨blk,h1,h2⟩:=h.obj
 refine⟨h.below,h.bf,h.loc,⟨max N M,fun o ho=>⟨(hN o (by omega)).1,(hN o (by omega)).2.1,(hN o (by omega)).2.2.1,hM o (by omega)⟩⟩,hr,blk,fun o x hx=>⟨(h1 o x hx).1,(h1 o x hx).2.aA r⟩,h2⟩
theorem xi {P:Program} {n:Nat} {mu:List Nat} {c:Cl} {nu:Nat→Nat} {ops:Array Oper} {A:List (List Nat)} {ρs:Nat→Env} {sts:Nat→aa} {vals:Nat→AV} {zs:Nat→Ob}
    (hA:la ops A=true) (hp:pS c ops A=true)
    (ht:∀j o,ops[j]? =some o→pn P n mu c nu ops j o (ρs j) (ρs (j+1)) (sts j) (sts (j+1)) (vals j) (zs j))
    (hl:c.lt.isEmpty=false) (hal:c.al=[]) (hapw:∀m,c.wr.contains m=false→c.ap.contains m=false) (hfi:c.fin=[]) (hlo:∃x,sts 0 c.lo=some x)
    {L:Array Bool} (hL:L.size=ops.size) (hd:Down ops L) {i:Nat} {o:Oper} (ho:ops[i]? =some o) (hni:L.getD i false=false) (hr:∀e∈cg ops i,L.getD e false=true) (htq:c.tq.contains i=true):
    ∃x,(sts i).put c.lo x=dG c nu zs sts L ops.size:=by
  have hi:i<ops.size:=(Array.getElem?_eq_some_iff.1 ho).1
  have put_some:∀{q:Nat} {s t:aa},l4 q s t→(∃x,s c.lo=some x)→∃x,t c.lo=some x:=fun {q s t} h hs=>by
    rcases h with rfl|⟨ob,rfl⟩
    · exact hs
    · simp only[aa.put]
      split
      · exact⟨_,rfl⟩
      · exact hs
  have put_off:∀{s t:aa},l4 c.lo s t→∀q,q≠c.lo→t q=s q:=fun {s t} h q hq=>by
    rcases h with rfl|⟨ob,rfl⟩
    · rfl
    · simp only[aa.put,if_neg hq]
  have step:∀m,m<ops.size→(c.wr.contains m=true→∃q,l4 q (sts m) (sts (m+1))∧(c.lt.contains m=true→q=c.lo))∧(c.wr.contains m=false→sts (m+1)=sts m):=fun m hm=>by
    have hom:ops[m]? =some ops[m]:=by simp[hm]
    have bg:=ht m _ hom
    have h1:c.al.contains m=false:=by rw[hal];rfl
    have h3:c.fin.contains m=false:=by rw[hfi];rfl
    exact⟨bg.late hl h1 h3,fun hw=>bg.iy h1 (hapw m hw) hw⟩
  have hsome:∀m,m≤ops.size→∃x,sts m c.lo=some x:=by
    intro m
    induction m with
    |zero=>intro _;exact hlo
    | succ m ih=>
      intro hm
      cases hw:c.wr.contains m with
      | true=>
        obtain⟨q,h1,_⟩:=(step m (by omega)).1 hw
        exact put_some h1 (ih (by omega))
      |false=>rw[(step m (by omega)).2 hw];exact ih (by omega)
  have cl1:∀m,c.wr.contains m=true→c.lt.contains m=false→c.cY m i=true∧c.cY i m=true:=fun m h1 h2=>by
    simp only[Cl.cY,h1,h2,htq,Bool.not_false,Bool.true_and,Bool.and_true,Bool.or_true,Bool.true_or]
    simp
  have cl2:∀m k,c.wr.contains m=true→c.wr.contains k=true→c.cY m k=true:=fun m k h1 h2=>by
    simp only[Cl.cY,h1,h2,Bool.true_and,Bool.and_true,Bool.or_true,Bool.true_or]
  have before:∀m,m<i→c.wr.contains m=true→c.lt.contains m=false→L.getD m false=true:=fun m hm h1 h2=>by
    have hom:ops[m]? =some (ops[m]'(by omega)):=by simp[show m<ops.size by omega]
    rcases cA hp hm hom ho with h|⟨_,h⟩
    · exact ek hA hL hd hi hr h
    · rw[(cl1 m h1 h2).1] at h;cases h
  have behind:∀m,i<m→m<ops.size→c.wr.contains m=true→L.getD m false=true→c.lt.contains m=true:=fun m hm hms h1 h2=>by
    have hom:ops[m]? =some ops[m]:=by simp[hms]
    cases h3:c.lt.contains m with
    |true=>rfl
    | false=>
      rcases cA hp hm ho hom with h|⟨_,h⟩
      · have:=cQ hA hL hd m i h2 h
        rw[hni] at this;cases this
      · rw[(cl1 m h1 h3).2] at h;cases h
  have chain:∀m k,k<m→m<ops.size→c.wr.contains k=true→c.wr.contains m=true→L.getD m false=true→L.getD k false=true:=fun m k hk hms h1 h2 h3=>by
    have hom:ops[m]? =some ops[m]:=by simp[hms]
    have hok:ops[k]? =some (ops[k]'(by omega)):=by simp[show k<ops.size by omega]
    rcases cA hp hk hok hom with h|⟨_,h⟩
    · exact cQ hA hL hd m k h3 h
    · rw[cl2 k m h1 h2] at h;cases h
  have reach:∀m,m<ops.size→c.wr.contains m=true→L.getD m false=true→∀k,i≤k→k≤m+1→∀q,q≠c.lo→sts k q=sts i q:=by
    intro m hm hw hLm k hik
    induction k with
    |zero=>intro _ q _;rw[show i=0 by omega]
    | succ k ih=>
      intro hkm q hq
      by_cases hki:k+1=i
      · rw[hki]
      · have h1:=ih (by omega) (by omega) q hq
        rw[←h1]
        cases hwk:c.wr.contains k with
        |false=>rw[(step k (by omega)).2 hwk]
        | true=>
          have hLk:L.getD k false=true:=by
            by_cases e:k=m
            · rw[e];exact hLm
            · exact chain m k (by omega) hm hwk hw hLm
          have hne:k≠i:=fun e=>by rw[e,hni] at hLk;cases hLk
          have hlt:=behind k (by omega) (by omega) hwk hLk
          obtain⟨r,h2,h3⟩:=(step k (by omega)).1 hwk
          rw[h3 hlt] at h2
          exact put_off h2 q hq
  have key:∀m,m≤ops.size→(∃x,dG c nu zs sts L m c.lo=some x)∧∀q,q≠c.lo→dG c nu zs sts L m q=sts (if m≤i then m else i) q:=by
    intro m
    induction m with
    |zero=>intro _;exact⟨hlo,fun q _=>by simp[dG]⟩
    | succ m ih=>
      intro hm
      obtain⟨ih1,ih2⟩:=ih (by omega)
      rw[dG]
      split
      · rename_i hc
        obtain⟨hc1,hc2⟩:=hc
        refine⟨hsome (m+1) hm,fun q hq=>?_⟩
        split
        · rfl
        · exact reach m (by omega) hc2 hc1 (m+1) (by omega) (Nat.le_refl _) q hq
      · rename_i hc
        rw[if_neg (by rw[hal];simp)]
        refine⟨ih1,fun q hq=>?_⟩
        rw[ih2 q hq]
        by_cases hmi:m+1≤i
        · rw[if_pos hmi,if_pos (by omega)]
          cases hw:c.wr.contains m with
          |false=>rw[(step m (by omega)).2 hw]
          | true=>
            cases hlt:c.lt.contains m with
            |false=>exact absurd ⟨before m (by omega) hw hlt,hw⟩ hc
            | true=>
              obtain⟨r,h2,h3⟩:=(step m (by omega)).1 hw
              rw[h3 hlt] at h2
              exact(put_off h2 q hq).symm
        · rw[if_neg hmi]
          split
          · rw[show m=i by omega]
          · rfl
  obtain⟨⟨x,hx⟩,h2⟩:=key ops.size (Nat.le_refl _)
  refine⟨x,?_⟩
  funext q
  simp only[aa.put]
  split
  · rename_i e;rw[e,hx]
  · rename_i e;rw[h2 q e,if_neg (by omega)]
theorem ld {P:Program} {n:Nat} (mu:List Nat) (c:Cl) {id:Nat} {ops:Array Oper} {Q:bk} {ρ:Env} {σ:aa} (hm:P.follows .mixedOrders=true) (hok:pP c ops=true)
    (hlate:c.lt.isEmpty=true∨(c.lt.isEmpty=false∧c.al=[]∧c.fin=[]∧∃x,σ c.lo=some x))
    (h:∀nu:Nat→Nat,(∀i,i∈c.al++c.ap→σ (nu i)=none)→(∀i j,i∈c.al++c.ap→j∈c.al++c.ap→nu i=nu j→i=j)→dK P n mu c nu ops ops.toList 0 ρ σ (bw (fun ρ' σ'=>Q .normal ρ' σ') .mk)):W P n (.region id ops true) Q ρ σ:=by
  simp only[pP,Bool.and_eq_true] at hok
  obtain⟨⟨⟨⟨hA,hp⟩,hal⟩,hap⟩,hfin⟩:=hok
  have hfno:∀i,c.fin.contains i=true→i+1=ops.size∧c.wr.contains i=true∧c.al.contains i=false∧c.ap.contains i=false∧(∀j,j<i→j∈(gX ops).getD i [])∧∀o,ops[i]? =some o→o.guard=none:=by
    intro i hi
    have h1:=List.all_eq_true.1 hfin i (List.contains_iff_mem.1 hi)
    simp only[Bool.and_eq_true,decide_eq_true_eq] at h1
    obtain⟨⟨⟨⟨⟨h2,h3⟩,h4⟩,h5⟩,h6⟩,h7⟩:=h1
    refine⟨h2,h3,by simpa using h4,by simpa using h5,fun j hj=>List.contains_iff_mem.1 (List.all_eq_true.1 h6 j (List.mem_range.2 hj)),fun o' ho'=>?_⟩
    rw[ho'] at h7
    simpa using h7
  have hapo:∀i,c.ap.contains i=true→i<ops.size∧c.wr.contains i=true∧c.al.contains i=false∧∀o,ops[i]? =some o→o.guard=none:=by
    intro i hi
    have h1:=List.all_eq_true.1 hap i (List.contains_iff_mem.1 hi)
    simp only[Bool.and_eq_true] at h1
    obtain⟨⟨h2,h3⟩,h4⟩:=h1
    cases ho:ops[i]? with
    |none=>rw[ho] at h4;cases h4
    | some o=>
      rw[ho] at h4
      refine⟨(Array.getElem?_eq_some_iff.1 ho).1,h2,by simpa using h3,fun o' ho'=>?_⟩
      injection ho' with ho'
      subst ho'
      simpa using h4
  have hapw:∀m,c.wr.contains m=false→c.ap.contains m=false:=fun m hm=>by
    cases h:c.ap.contains m with
    |false=>rfl
    |true=>have:=(hapo m h).2.1;rw[hm] at this;cases this
  have halo:∀i,c.al.contains i=true→i<ops.size∧c.wr.contains i=false∧c.tq.contains i=false∧∀o,ops[i]? =some o→o.guard=none:=by
    intro i hi
    have h1:=List.all_eq_true.1 hal i (List.contains_iff_mem.1 hi)
    simp only[Bool.and_eq_true] at h1
    obtain⟨⟨h2,h3⟩,h4⟩:=h1
    cases ho:ops[i]? with
    |none=>rw[ho] at h4;cases h4
    | some o=>
      rw[ho] at h4
      refine⟨(Array.getElem?_eq_some_iff.1 ho).1,by simpa using h2,by simpa using h3,fun o' ho'=>?_⟩
      injection ho' with ho'
      subst ho'
      simpa using h4
  intro g a w hd he hc
  obtain⟨N,hN⟩:=hc.fresh
  obtain⟨nu,hnu⟩:∃nu:Nat→Nat,nu=fun i=>N+i:=⟨_,rfl⟩
  have hnuN:∀i,N≤nu i:=fun i=>by rw[hnu];exact Nat.le_add_right _ _
  have hnui:∀i j,nu i=nu j→i=j:=fun i j e=>by rw[hnu] at e;simp only at e;omega
  have hdr:=h nu (fun i _=>(hN _ (hnuN i)).2.2.1) (fun i j _ _ e=>hnui i j e)
  obtain⟨ρs,sts,vals,zs,e1,e2,ht,hK,hKf⟩:∃ (ρs:Nat→Env) (sts:Nat→aa) (vals:Nat→AV) (zs:Nat→Ob),ρs 0=ρ∧sts 0=σ∧
      (∀j o,ops[j]? =some o→pn P n mu c nu ops j o (ρs j) (ρs (j+1)) (sts j) (sts (j+1)) (vals j) (zs j))∧((∀i,c.fin.contains i=false)→Q .normal (ρs ops.size) (sts ops.size))∧
      (∀i o,c.fin.contains i=true→ops[i]? =some o→bu P mu o (ρs i) (sts i) (fun v s'=>Q .normal ((ρs i).aG o.dst v) s')):=by
    by_cases hex:∃i,c.fin.contains i=true
    · obtain⟨f,hf⟩:=hex
      obtain⟨f1,f2,f3,f4,f5,f6⟩:=hfno f hf
      have hfl:f<ops.size:=by omega
      have huni:∀j,c.fin.contains j=true→j=f:=fun j hj=>by have:=(hfno j hj).1;omega
      have hlt:∀j,j<f→c.fin.contains j=false:=fun j hj=>by
        cases q:c.fin.contains j with
        |false=>rfl
        |true=>have:=huni j q;omega
      have hsplit:ops.toList=ops.toList.take f++[ops[f]]:=by
        have h1:=List.take_append_drop f ops.toList
        rw[List.drop_eq_getElem_cons (by simpa using hfl),List.drop_eq_nil_of_le (by simp;omega)] at h1
        rw[←Array.getElem_toList hfl]
        exact h1.symm
      have htl:(ops.toList.take f).length=f:=by rw[List.length_take];simp;omega
      rw[hsplit] at hdr
      have h1:=lX (ops.toList.take f) 0 ρ σ (fun j hj=>by rw[Nat.zero_add];exact hlt j (by omega)) hdr
      obtain⟨ρs,sts,vals,zs,e1,e2,ht',hK'⟩:=jL _ _ _ _ (fun j hj=>by rw[Nat.zero_add];exact hlt j (by omega)) h1
      rw[htl] at hK'
      obtain⟨hdst,hK2⟩:=hK'
      rw[Nat.zero_add,if_neg (by rw[f3];simp),if_neg (by rw[f4];simp),if_pos hf] at hK2
      refine⟨fun j=>if j≤f then ρs j else(ρs f).aG ops[f].dst .any,fun j=>if j≤f then sts j else sts f,fun j=>if j<f then vals j else .any,zs,by simp[e1],by simp[e2],fun j o ho=>?_,(fun hh=>by have:=hh f;rw[hf] at this;cases this),fun i o hi ho=>?_⟩
      · have hj:j<ops.size:=(Array.getElem?_eq_some_iff.1 ho).1
        by_cases hjf:j<f
        · have:=ht' j o (by rw[List.getElem?_take,if_pos hjf];simpa using ho)
          rw[Nat.zero_add] at this
          simp only[if_pos (show j≤f by omega),if_pos (show j+1≤f by omega),if_pos hjf]
          exact this
        · have hje:j=f:=by omega
          subst hje
          have hoe:o=ops[j]:=by rw[Array.getElem?_eq_getElem hj] at ho;injection ho with ho;exact ho.symm
          subst hoe
          simp only[if_pos (Nat.le_refl j),if_neg (show ¬j+1≤j by omega),if_neg (Nat.lt_irrefl j)]
          exact⟨rfl,hdst,(fun e=>absurd (f3.symm.trans e) (by decide)),(fun e=>absurd (f4.symm.trans e) (by decide)),(fun _ _ e=>absurd (hf.symm.trans e) (by decide)),(fun _ _ e=>absurd (f2.symm.trans e) (by decide)),(fun _ _ e=>absurd (hf.symm.trans e) (by decide)),(fun _ _ _ e=>absurd (hf.symm.trans e) (by decide)),(fun _ _ _ e=>absurd (hf.symm.trans e) (by decide))⟩
      · have hie:=huni i hi
        subst hie
        have hoe:o=ops[i]:=by rw[Array.getElem?_eq_getElem hfl] at ho;injection ho with ho;exact ho.symm
        subst hoe
        simp only[if_pos (Nat.le_refl i)]
        exact hK2
    · have hnf:∀i,c.fin.contains i=false:=fun i=>by
        cases q:c.fin.contains i with
        |false=>rfl
        |true=>exact absurd ⟨i,q⟩ hex
      obtain⟨ρs,sts,vals,zs,e1,e2,ht',hK⟩:=jL _ _ _ _ (fun j _=>hnf _) hdr
      rw[Array.length_toList] at hK
      exact⟨ρs,sts,vals,zs,e1,e2,fun j o ho=>by
        have:=ht' j o (by simpa using ho)
        rwa [Nat.zero_add] at this,fun _=>hK,fun i o hi=>by rw[hnf i] at hi;cases hi⟩
  subst e1;subst e2
  refine wp_region_any hm ?_
  have inv:∃Inv:Array Bool→Act→World→Prop,(Inv=fun L a w=>a.defers=[]∧a.tmps.size=n∧∃g',zV g g'∧ay g' w (dG c nu zs sts L ops.size)∧(∀s,R g' (bQ ops vals (ρs 0) L ops.size s) (a.tmps.getD s undef))∧
      ∀p,g'.res p↔(g.res p∨∃m,(c.al.contains m=true∨c.ap.contains m=true)∧L.getD m false=false∧p=nu m)):=⟨_,rfl⟩
  obtain⟨Inv,hInv⟩:=inv
  have fin:∀ (L:Array Bool) (a:Act) (w:World),(∀i,c.fin.contains i=false)→L.size=ops.size→(∀i,i<ops.size→L.getD i false=true)→Inv L a w→mb g n Q .normal a w:=by
    intro L a w hnf hL hall hi
    rw[hInv] at hi
    obtain⟨hd,hs,g',hle,hc,hr,hres⟩:=hi
    have he:∀m,m≤ops.size→∀s,bQ ops vals (ρs 0) L m s=(ρs m).get s:=by
      intro m
      induction m with
      |zero=>intro _ s;rfl
      | succ m ih=>
        intro hm s
        rw[mI ht m s (by omega),bQ,ih (by omega) s,hall m (by omega)]
        simp
    have bg:∀m,m≤ops.size→dG c nu zs sts L m=sts m:=by
      intro m
      induction m with
      |zero=>intro _;rfl
      | succ m ih=>
        intro hm
        have hom:ops[m]? =some (ops[m]'(by omega)):=by simp[show m<ops.size by omega]
        rw[dG,ih (by omega),hall m (by omega)]
        cases ha:c.al.contains m with
        | true=>
          rw[(halo m ha).2.1]
          simp only[Bool.false_eq_true,and_false,if_false,and_self,if_true]
          exact((ht m _ hom).al ha).2.1.symm
        | false=>
          cases hw:c.wr.contains m with
          |true=>simp
          | false=>
            rw[(ht m _ hom).iy ha (hapw m hw) hw];simp
    rw[bg _ (Nat.le_refl _)] at hc
    refine⟨hd,g'.aA g.res,ρs ops.size,sts ops.size,⟨hle.w0,hle.bf,hle.loc,hle.tipv,rfl⟩,⟨hs,fun s=>?_⟩,hc.aA g.res ⟨N,fun o ho=>(hN o ho).2.2.2⟩ (fun o ho=>hc.res o ((hres o).2 (.inl ho))),hK hnf⟩
    rw[←he _ (Nat.le_refl _)];exact(hr s).aA _
  have main:∀ (fuel:Nat) (L:Array Bool) (a:Act) (w:World),left ops L≤fuel→L.size=ops.size→Down ops L→(∀i,c.fin.contains i=true→L.getD i false=false)→Inv L a w→wpAny P .any ops (mb g n Q) fuel L a w:=by
    have nofin:∀{L:Array Bool},(∀i,c.fin.contains i=true→L.getD i false=false)→(∀i,i<ops.size→L.getD i false=true)→∀i,c.fin.contains i=false:=fun hnf hall i=>by
      cases q:c.fin.contains i with
      |false=>rfl
      |true=>have h1:=hnf i q;rw[hall i (by have:=(hfno i q).1;omega)] at h1;cases h1
    intro fuel
    induction fuel with
    | zero=>
      intro L a w hlf hL hdn hlf2 hinv
      have hall:=oW (Nat.le_zero.1 hlf)
      refine⟨?_,fin L a w (nofin hlf2 hall) hL hall hinv⟩
      cases hr:Region.ready .any ops L with
      |nil=>rfl
      | cons i r=>
        have hi:=gv hL (i:=i) (by rw[hr];exact List.mem_cons_self)
        rw[hall i hi.1] at hi
        exact absurd hi.2.1 (by simp)
    | succ fuel ih=>
      intro L a w hlf hL hdn hlf2 hinv
      refine⟨fun hr=>fin L a w (nofin hlf2 (lr hA hL hr)) hL (lr hA hL hr) hinv,fun i hi=>?_⟩
      obtain⟨hlt,hni,hre⟩:=gv hL hi
      obtain⟨o,ho⟩:∃o,ops[i]? =some o:=⟨ops[i],by simp[hlt]⟩
      have bg:=ht i o ho
      have hinv0:=hinv
      rw[hInv] at hinv
      obtain⟨hd,hs,g',hle,hc',hr',hres⟩:=hinv
      cases hfi:c.fin.contains i with
      | true=>
        obtain⟨f1,f2,f3,f4,f5,f6⟩:=hfno i hfi
        have hall:∀j,j<i→L.getD j false=true:=fun j hj=>ek hA hL hdn hlt hre (f5 j hj)
        have henv:∀m,m≤i→∀s,bQ ops vals (ρs 0) L m s=(ρs m).get s:=by
          intro m
          induction m with
          |zero=>intro _ s;rfl
          | succ m ihm=>
            intro hm s
            rw[mI ht m s (by omega),bQ,ihm (by omega) s,hall m (by omega)]
            simp
        have henv2:∀s,bQ ops vals (ρs 0) L ops.size s=(ρs i).get s:=fun s=>by
          rw[←f1,bQ,hni]
          simp only[Bool.false_eq_true,false_and,if_false]
          exact henv i (Nat.le_refl _) s
        have hRE:RE g' n (ρs i) a.tmps:=⟨hs,fun s=>by rw[←henv2];exact hr' s⟩
        have hstE:=jC hapw hA hp ht hL hdn ho hni hre (.inl f2) ops.size (Nat.le_refl _)
        rw[if_neg (by omega)] at hstE
        rw[hstE] at hc'
        have hsem:=hKf i o hfi ho
        unfold wpOp
        rw[ho]
        simp only
        have hwant:Region.wanted o (yielded ops a.tmps)=true:=by simp[Region.wanted,f6 o ho]
        rw[hwant,if_pos rfl]
        refine .inl ?_
        refine(dU hsem hRE hc').wp ?_
        rintro v w' ⟨g2,x,σ',h1,h2,h3,h4⟩
        have hlift:mb g n Q .normal (a.put o.dst v) w':=by
          refine⟨by rw[ic];exact hd,g2.aA g.res,_,σ',⟨h1.w0.trans hle.w0,fun b o v hx=>h1.bf _ _ _ (hle.bf _ _ _ hx),fun o x hx=>h1.loc _ _ (hle.loc _ _ hx),fun o n v hx=>h1.tipv _ _ _ (hle.tipv _ _ _ hx),rfl⟩,?_,?_,h4⟩
          · have hput:=(hRE.le h1).put bg.dst h3
            exact⟨hput.size,fun s=>(hput.get s).aA _⟩
          · exact h2.aA g.res ⟨N,fun o ho=>(hN o ho).2.2.2⟩ (fun o ho=>h2.res o (by rw[h1.res];exact(hres o).2 (.inl ho)))
        have hL':(L.setIfInBounds i true).size=ops.size:=by simp[hL]
        have hall':∀j,j<ops.size→(L.setIfInBounds i true).getD j false=true:=fun j hj=>by
          rw[cd (by omega)]
          split
          · rfl
          · exact hall j (by omega)
        have hrn:Region.ready .any ops (L.setIfInBounds i true)=[]:=by
          cases hr:Region.ready .any ops (L.setIfInBounds i true) with
          |nil=>rfl
          | cons j r=>
            have hj:=gv hL' (i:=j) (by rw[hr];exact List.mem_cons_self)
            rw[hall' j hj.1] at hj
            exact absurd hj.2.1 (by simp)
        cases fuel with
        |zero=>exact⟨hrn,hlift⟩
        |succ fuel=>exact⟨fun _=>hlift,fun j hj=>by rw[hrn] at hj;cases hj⟩
      |false=>
      have next:∀ (v:Value) (w':World) (g2:Gh),zV g g2→ay g2 w' (dr c nu zs sts i (dG c nu zs sts L ops.size))→R g2 (vals i) v→(∀x u,R g' x u→R g2 x u)→
          (∀p,g2.res p↔(g'.res p∧¬ ((c.al.contains i=true∨c.ap.contains i=true)∧p=nu i)))→wpAny P .any ops (mb g n Q) fuel (L.setIfInBounds i true) (a.put o.dst v) w':=by
        intro v w' g2 hle2 hc2 hv hRR hres2
        have hL':(L.setIfInBounds i true).size=ops.size:=by simp[hL]
        refine ih _ _ _ (by have:=rG hL hlt hni;omega) hL' ?_ (fun j hj=>?_) ?_
        · intro q hq e he
          rw[cd (by omega)] at hq ⊢
          by_cases hei:e=i
          · rw[if_pos hei]
          · rw[if_neg hei]
            by_cases hqi:q=i
            · subst hqi;exact hre e he
            · rw[if_neg hqi] at hq;exact hdn q hq e he
        · rw[cd (by omega),if_neg (fun e=>by rw[←e,hj] at hfi;cases hfi)]
          exact hlf2 j hj
        · rw[hInv]
          refine⟨by rw[ic];exact hd,by rw[q9];exact hs,g2,hle2,?_,fun s=>?_,fun p=>?_⟩
          · rw[wv hapw hA hp ht (fun i j _ _ e=>hnui i j e) hL hdn ho hni ops.size (Nat.le_refl _),if_pos hlt];exact hc2
          · rw[uG hapw hA hp ht hL hdn ho hni s ops.size (Nat.le_refl _),rb hs bg.dst]
            by_cases hds:o.dst=some s
            · rw[if_pos ⟨hlt,hds⟩,if_pos hds];exact hv
            · rw[if_neg (fun h=>hds h.2),if_neg hds];exact hRR _ _ (hr' s)
          · rw[hres2 p,hres p]
            constructor
            · rintro⟨h1|⟨m,h1,h2,rfl⟩,h3⟩
              · exact .inl h1
              · refine .inr ⟨m,h1,?_,rfl⟩
                rw[cd (by omega),if_neg (fun e=>h3 ⟨by rw[←e];exact h1,by rw[e]⟩)];exact h2
            · rintro(h1|⟨m,h1,h2,rfl⟩)
              · refine⟨.inl h1,fun hh=>?_⟩
                have:=(hN (nu i) (hnuN i)).2.2.2
                rw[hh.2] at h1;exact this h1
              · rw[cd (by omega)] at h2
                split at h2
                · cases h2
                · rename_i hmi
                  exact⟨.inr ⟨m,h1,h2,rfl⟩,fun hh=>hmi (hnui _ _ hh.2)⟩
      unfold wpOp
      rw[ho]
      simp only
      cases ha:c.al.contains i with
      | true=>
        obtain⟨_,hnw,_,hgn⟩:=halo i ha
        obtain⟨h1,h2,h3⟩:=bg.al ha
        have hwant:Region.wanted o (yielded ops a.tmps)=true:=by simp[Region.wanted,hgn o ho]
        rw[hwant,if_pos rfl]
        refine .inl ?_
        have hri:g'.res (nu i):=(hres _).2 (.inr ⟨i,.inl ha,hni,rfl⟩)
        have hf:=hc'.res _ hri
        unfold ew at h1
        split at h1
        · rename_i t hop
          obtain⟨hok,h1⟩:=h1
          split at h1
          · rename_i z hz
            obtain⟨hkn,_,h1⟩:=h1
            obtain⟨zv,hzv,hzr,_⟩:=gm hok hz w
            have hrun:(execOp a.eval o).run P w= .ok (.value (.pointer (some ⟨w.heap.size,0,none⟩))) (w.alloc (.cells zv.cells t)):=by
              have:o=⟨o.dst,.alloc t,o.type,o.pos,o.after,o.guard⟩:=by cases o;simp only at hop;rw[hop]
              rw[this]
              simp[execOp,Instr.alloc,hzv,newVar,newRow]
            have hcf:=hc'.aA (fun p=>g'.res p∧p≠nu i) (by
              obtain⟨M,hM⟩:=hc'.fresh
              exact⟨M,fun o ho h=>(hM o ho).2.2.2 h.1⟩) (fun o ho=>hc'.res o ho.1)
            obtain⟨c1,c2⟩:=(hzr (g'.aA fun p=>g'.res p∧p≠nu i)).cells hkn
            have hcc:=hcf.gh (w':=w.alloc (.cells zv.cells t)) (Below.alloc (Below.refl _ _) (Nat.le_refl _) _) (by simp) (nu i) hf.1 hf.2.2 hf.2.1 (fun h=>h.2 rfl) (.arr t [z]) z.cells.length 1 (fun g3 hle3 hl3 him3=>
              ⟨z.cells.length,zv.cells,⟨1,hl3,by simp[c1]⟩,heap_alloc_new w _,fun r hr=>by rw[List.mem_singleton.1 hr],by simp[c1],fun q cc u hci hui=>by
                rw[jO] at hci
                exact(c2 q cc u hci hui).le hle3,him3⟩)
            have hle2:=Gh.bx (g:=g'.aA fun p=>g'.res p∧p≠nu i) (w.heap.size,z.cells.length,1) (o:=nu i) hf.1
            unfold Oper.wp
            rw[hrun]
            refine next _ _ _ ⟨hle2.w0.trans hle.w0,fun b o v hx=>hle2.bf _ _ _ (hle.bf _ _ _ hx),fun o x hx=>hle2.loc _ _ (hle.loc _ _ hx),fun o n v hx=>hle2.tipv _ _ _ (hle.tipv _ _ _ hx)⟩ ?_ ?_ (fun x u hx=>(hx.aA _).le hle2) (fun p=>?_)
            · simp only[dr,hnw,ha,Bool.false_eq_true,if_false,if_true]
              rw[←h1]
              exact hcc
            · rw[h3]
              have:=R.ptr (g:=(g'.aA fun p=>g'.res p∧p≠nu i).bj (nu i) (w.heap.size,z.cells.length,1)) (o:=nu i) (i:=0) (off:=0) (b:=w.heap.size) (sz:=z.cells.length) (n:=1) (by simp[Gh.bj])
              simpa using this
            · constructor
              · rintro⟨q1,q2⟩;exact⟨q1,fun hh=>q2 hh.2⟩
              · rintro⟨q1,q2⟩;exact⟨q1,fun e=>q2 ⟨.inl ha,e⟩⟩
          · exact h1.elim
        · exact h1.elim
      | false=>
        have hread:∀s∈o.looksAt ops,bQ ops vals (ρs 0) L ops.size s=(ρs i).get s:=fun s hsm=>by
          have:=oO hapw hA hp ht hL hdn ho hni hre hsm ops.size (Nat.le_refl _)
          rw[this]
          split
          · rename_i q;exact absurd q (by omega)
          · rfl
        have hRE:RE g' n (gY (ρs i) (o.looksAt ops)) a.tmps:=⟨hs,fun s=>by
          rw[er]
          split
          · rename_i hsm;rw[←hread s hsm];exact hr' s
          · exact .any _⟩
        have hop:∀x∈o.op.operands,ev (ρs i) x=ev (gY (ρs i) (o.looksAt ops)) x:=ju (ops:=ops) fun s hsm=>by rw[er,if_pos hsm]
        have hlook:(c.wr.contains i=true∨(c.tq.contains i=true∧c.lt.isEmpty=true∧c.early=false))→dG c nu zs sts L ops.size=sts i:=fun hlk=>by
          have hss:=jC hapw hA hp ht hL hdn ho hni hre hlk ops.size (Nat.le_refl _)
          rw[if_neg (by omega)] at hss;exact hss
        cases hapi:c.ap.contains i with
        | true=>
          have hwi:=(hapo i hapi).2.1
          have hwant:Region.wanted o (yielded ops a.tmps)=true:=by simp[Region.wanted,(hapo i hapi).2.2.2 o ho]
          rw[hwant,if_pos rfl]
          refine .inl ?_
          have hri:g'.res (nu i):=(hres _).2 (.inr ⟨i,.inr hapi,hni,rfl⟩)
          have hf:=hc'.res _ hri
          have hcf:=hc'.aA (fun p=>g'.res p∧p≠nu i) (by
            obtain⟨M,hM⟩:=hc'.fresh
            exact⟨M,fun o ho h=>(hM o ho).2.2.2 h.1⟩) (fun o ho=>hc'.res o ho.1)
          have hsem2:sk P mu o (gY (ρs i) (o.looksAt ops)) (dG c nu zs sts L ops.size) (nu i) (fun v' s'=>v'=vals i∧s'=dr c nu zs sts i (dG c nu zs sts L ops.size)):=by
            refine vX hop ?_
            have hlk:=Or.inl (b:=c.tq.contains i=true∧c.lt.isEmpty=true∧c.early=false) hwi
            have:=bg.apn hapi ha
            rw[←hlook hlk] at this
            simp only[dr,hwi,if_true]
            exact this
          have hRE2:RE (g'.aA fun p=>g'.res p∧p≠nu i) n (gY (ρs i) (o.looksAt ops)) a.tmps:=⟨hRE.size,fun s=>(hRE.get s).aA _⟩
          refine(vW hsem2 hRE2 hcf hf.2.2 hf.1 hf.2.1 (fun h=>h.2 rfl)).wp ?_
          rintro v w' ⟨g2,x,σ',h1,h2,h3,h4,h5⟩
          subst h4;subst h5
          refine next v w' g2 ⟨h1.w0.trans hle.w0,fun b o v hx=>h1.bf _ _ _ (hle.bf _ _ _ hx),fun o x hx=>h1.loc _ _ (hle.loc _ _ hx),fun o n v hx=>h1.tipv _ _ _ (hle.tipv _ _ _ hx)⟩ h2 h3 (fun x u hx=>(hx.aA _).le h1) (fun p=>?_)
          rw[h1.res]
          constructor
          · rintro⟨q1,q2⟩;exact⟨q1,fun hh=>q2 hh.2⟩
          · rintro⟨q1,q2⟩;exact⟨q1,fun e=>q2 ⟨.inr hapi,e⟩⟩
        |false=>
        obtain⟨b,hgd,hrun,hskip,hfree⟩:=bg.run ha hapi hfi
        have hnext:∀ (v:Value) (w':World) (g2:Gh),g'.Le g2→ay g2 w' (dr c nu zs sts i (dG c nu zs sts L ops.size))→R g2 (vals i) v→wpAny P .any ops (mb g n Q) fuel (L.setIfInBounds i true) (a.put o.dst v) w':=by
          intro v w' g2 h1 h2 h3
          refine next v w' g2 (hle.then h1) h2 h3 (fun x u hx=>hx.le h1) (fun p=>?_)
          rw[h1.res]
          constructor
          · intro q;exact⟨q,fun hh=>by rcases hh.1 with h|h;(rw[ha] at h;cases h);(rw[hapi] at h;cases h)⟩
          · exact fun q=>q.1
        have hgs:=iC (k:=fun c=>c=b) (ops:=ops) (ρ:=gY (ρs i) (o.looksAt ops)) (o:=o) (g:=g') (n:=n) (t:=a.tmps) (by
          unfold bM at hgd ⊢
          cases hg:o.guard with
          |none=>rw[hg] at hgd;exact hgd
          | some jw=>
            obtain⟨j,want⟩:=jw
            rw[hg] at hgd
            simp only at hgd ⊢
            cases hdd:(ops[j]?).bind (·.dst) with
            |none=>rw[hdd] at hgd;exact hgd
            | some s=>
              rw[hdd] at hgd
              simp only at hgd ⊢
              rw[er,if_pos (lU hg hdd)]
              exact hgd) (fun _ _ _ s _=>hRE.get s)
        cases b with
        | true=>
          rw[hgs,if_pos rfl]
          refine .inl ?_
          by_cases hea:c.wr.contains i=false∧c.tq.contains i=true∧c.early=true
          · obtain⟨hw,htq,hea⟩:=hea
            have hl0:c.lt=[]:=by
              simp only[Cl.early,Bool.and_eq_true] at hea
              simpa using hea.1
            obtain⟨hro,hrd⟩:=bg.ear hea ha hapi hfi hw htq hgd
            have hsub:(iE nu c.al (sts i)).Sub (dG c nu zs sts L ops.size):=fun p x hx=>by
              obtain⟨h1,h2⟩:=nE hx
              have:=qH (zs:=zs) hapw hA hp ht hL hdn ho hni hre htq hl0 p (fun k hk=>h2 k (List.contains_iff_mem.1 hk)) ops.size (Nat.le_refl _)
              rw[if_neg (by omega)] at this
              rw[this];exact h1
            obtain⟨v,r,q1,q2,q3,_⟩:=mR hro (dV hop hrd) hRE (hc'.sub hsub)
            unfold Oper.wp
            rw[q1]
            subst q3
            refine hnext v w g' (.refl g') ?_ q2
            simp only[dr,hw,ha,Bool.false_eq_true,if_false]
            exact hc'
          have hsem2:bu P mu o (gY (ρs i) (o.looksAt ops)) (dG c nu zs sts L ops.size) (fun v' s'=>v'=vals i∧s'=dr c nu zs sts i (dG c nu zs sts L ops.size)):=by
            refine dV hop ?_
            cases hw:c.wr.contains i with
            | true=>
              rw[hlook (.inl hw)]
              simp only[dr,hw,if_true]
              exact hrun rfl
            | false=>
              simp only[dr,hw,ha,Bool.false_eq_true,if_false]
              cases htq:c.tq.contains i with
              | true=>
                rcases hlate with hl0|⟨hl,q1,q3,hlo⟩
                · have hne:c.early=false:=by
                    cases q:c.early with
                    |false=>rfl
                    |true=>exact absurd ⟨hw,htq,q⟩ hea
                  rw[hlook (.inr ⟨htq,hl0,hne⟩)]
                  have:=hrun rfl
                  rw[bg.iy ha hapi hw] at this
                  exact this
                · obtain⟨x,hxy⟩:=xi (nu:=nu) (zs:=zs) hA hp ht hl q1 hapw q3 hlo hL hdn ho hni hre htq
                  have hrb:=bg.rob hl ha hapi hfi hw htq hgd x
                  rw[hxy] at hrb
                  exact hrb
              |false=>exact hfree rfl hw htq _
          refine(dU hsem2 hRE hc').wp ?_
          rintro v w' ⟨g2,x,σ',h1,h2,h3,h4,h5⟩
          subst h4;subst h5
          exact hnext v w' g2 h1 h2 h3
        | false=>
          rw[hgs,if_neg (by simp)]
          obtain⟨hv,hk⟩:=hskip rfl
          refine hnext undef w g' (.refl g') ?_ (by rw[hv];exact gR g')
          cases hw:c.wr.contains i with
          | true=>
            have:=hlook (.inl hw)
            simp only[dr,hw,if_true]
            rw[hk,←this];exact hc'
          | false=>
            simp only[dr,hw,ha,Bool.false_eq_true,if_false]
            exact hc'
  refine main ops.size _ a _ ?_ (by simp) (fun i hi=>?_) (fun i _=>by simp[Array.getD]) ?_
  · unfold left
    exact Nat.le_trans (List.length_filter_le _ _) (by simp)
  · simp[Array.getD] at hi
  · have hst0:∀m,dG c nu zs sts (Array.replicate ops.size false) m=sts 0:=by
      intro m
      induction m with
      |zero=>rfl
      |succ m ih=>rw[dG,ih,if_neg (by simp[Array.getD]),if_neg (by simp[Array.getD])]
    have hen0:∀m s,bQ ops vals (ρs 0) (Array.replicate ops.size false) m s=(ρs 0).get s:=by
      intro m s
      induction m with
      |zero=>rfl
      |succ m ih=>rw[bQ,ih,if_neg];simp[Array.getD]
    rw[hInv]
    refine⟨hd,he.size,g.aA (fun p=>g.res p∨∃m,(c.al.contains m=true∨c.ap.contains m=true)∧p=nu m),⟨rfl,fun _ _ _ h=>h,fun _ _ h=>h,fun _ _ _ h=>h⟩,?_,fun s=>?_,fun p=>?_⟩
    · rw[hst0]
      refine hc.drew.aA _ ⟨N+ops.size,fun o ho=>?_⟩ (fun o ho=>?_)
      · rintro(h1|⟨m,h1,h2⟩)
        · exact(hN o (by omega)).2.2.2 h1
        · have hm:m<ops.size:=by rcases h1 with h1|h1;exact(halo m h1).1;exact(hapo m h1).1
          rw[hnu] at h2;simp only at h2;omega
      · rcases ho with h1|⟨m,h1,rfl⟩
        · exact hc.res o h1
        · exact⟨(hN _ (hnuN m)).1,(hN _ (hnuN m)).2.1,(hN _ (hnuN m)).2.2.1⟩
    · rw[hen0]
      exact(he.get s).aA _
    · constructor
      · rintro(h1|⟨m,h1,h2⟩)
        · exact .inl h1
        · exact .inr ⟨m,h1,by simp[Array.getD],h2⟩
      · rintro(h1|⟨m,h1,_,h2⟩)
        · exact .inl h1
        · exact .inr ⟨m,h1,h2⟩
theorem qv {P:Program} {n:Nat} (mu:List Nat) (c:Cl) {id:Nat} {ops:Array Oper} {Q:bk} {ρ:Env} {σ:aa} (hm:P.follows .mixedOrders=true) (hok:uo c ops=true)
  (h:∀nu:Nat→Nat,(∀i,i∈c.al++c.ap→σ (nu i)=none)→(∀i j,i∈c.al++c.ap→j∈c.al++c.ap→nu i=nu j→i=j)→dK P n mu c nu ops ops.toList 0 ρ σ (bw (fun ρ' σ'=>Q .normal ρ' σ') .mk)):W P n (.region id ops true) Q ρ σ:=by
 simp only[uo,Bool.and_eq_true] at hok
 exact ld mu c hm hok.2 (.inl hok.1) h
theorem jz {P:Program} {n:Nat} (mu:List Nat) (c:Cl) {id:Nat} {ops:Array Oper} {Q:bk} {ρ:Env} {σ:aa} (hm:P.follows .mixedOrders=true) (hok:oN c ops=true) (hlo:∃x,σ c.lo=some x)
  (h:∀nu:Nat→Nat,(∀i,i∈c.al++c.ap→σ (nu i)=none)→(∀i j,i∈c.al++c.ap→j∈c.al++c.ap→nu i=nu j→i=j)→dK P n mu c nu ops ops.toList 0 ρ σ (bw (fun ρ' σ'=>Q .normal ρ' σ') .mk)):W P n (.region id ops true) Q ρ σ:=by
 simp only[oN,Bool.and_eq_true] at hok
 obtain⟨⟨⟨⟨⟨h1,h2⟩,h4⟩,h5⟩,h5'⟩,h6⟩:=hok
 exact ld mu c hm h6 (.inr ⟨by simpa using h1,by simpa using h2,by simpa using h4,hlo⟩) h
end Go.Kern

namespace Go.Kern
open Go.RowKit
theorem cR {x:Int} (h1: -9223372036854775808≤x) (h2:x≤9223372036854775807):IntKind.i64.wrap x=x:=IntWalk.i64_in _ ⟨h1,h2⟩
theorem ak {P:Program} {n:Nat} {Q:bk} {ρ:Env} {σ:aa} {c:Code} {α:Type} (E:α→Env) (S:α→aa) (I:α→Prop) (m:α→Nat) (a0:α) (hI:I a0) (hE:(E a0).Sub ρ) (hS:(S a0).Sub σ)
    (hr:∀a,I a→W P n c (bk.then (fun ρ' σ'=>∃a',m a'<m a∧I a'∧(E a').Sub ρ'∧(S a').Sub σ') Q) (E a) (S a)):W P n (.loop c) Q ρ σ:=by
  refine AT (fun k ρ' σ'=>∃a,m a=k∧I a∧(E a).Sub ρ'∧(S a).Sub σ') (m a0) ⟨a0,rfl,hI,hE,hS⟩ ?_
  rintro k ρ' σ' ⟨a,rfl,ha,hEa,hSa⟩
  refine lb hEa hSa (ua (hr a ha) ?_)
  intro e ρ2 σ2 hq
  cases e with
  | normal=>
    obtain⟨a',h1,h2,h3,h4⟩:=hq
    exact⟨m a',h1,a',rfl,h2,h3,h4⟩
  |exit id=>exact hq
  |goto l=>exact hq
  |ret=>exact hq
  |panic ch=>exact hq
  |outgrown=>exact hq
theorem ah {P:Program} {f:FuncId} {fn:Func} {c:Code} (rl:List ResultVar) (nt:Nat) (hf:P.funcs[f]? =some fn) (hn:(fn.name== "runtime.NumGoroutine")=false) (hb:fn.body=some c) (hr:fn.results.toList=rl) (hnt:fn.ntmps=nt)
  {args:List AV} {σ:aa} {X:AV} (hsz:decide (args.length≤nt)=true) (h:W P nt c (gJ P rl (fun r s=>r=X∧σ.Sub s)) (kO 0 args) σ):af P f args σ (fun r s=>r=X∧s=σ):=by
 have:=jA rl nt hf hn hb hr hnt hsz h
 refine⟨this.1,fun g w vs hl hr hc=>(this.2 g w vs hl hr hc).mono ?_⟩
 rintro e w' ⟨v,he,g',r,σ',h1,h2,h3,h4,h5⟩
 exact⟨v,he,g',r,σ,h1,h2.sub h5,h3,h4,rfl⟩
theorem ai {P:Program} {f:FuncId} {fn:Func} {c:Code} (rl:List ResultVar) (nt:Nat) (hf:P.funcs[f]? =some fn) (hn:(fn.name== "runtime.NumGoroutine")=false) (hb:fn.body=some c) (hr:fn.results.toList=rl) (hnt:fn.ntmps=nt)
  {args:List AV} {σ:aa} {K:KK} (hsz:decide (args.length≤nt)=true) (h:W P nt c (gJ P rl (fun r s=>∃s0:aa,s0.Sub s∧K r s0)) (kO 0 args) σ):af P f args σ K:=by
 have:=jA rl nt hf hn hb hr hnt hsz h
 refine⟨this.1,fun g w vs hl hr hc=>(this.2 g w vs hl hr hc).mono ?_⟩
 rintro e w' ⟨v,he,g',r,σ',h1,h2,h3,s0,h4,h5⟩
 exact⟨v,he,g',r,s0,h1,h2.sub h4,h3,h5⟩
theorem aK {P:Program} {f:FuncId} {args:List AV} {σ:aa} {K0 k:KK} {t:Tag k} (h:af P f args σ K0) (hk:∀r s,K0 r s→k r s):af P f args σ (bw k t):=h.mono hk
section
variable {K:Env→aa→Prop} {Q:bk} {ρ:Env} {σ:aa} {id id':Nat}
theorem qg (h:Q .normal ρ σ):bk.inBlock id Q (.exit id) ρ σ:=by simp only[bk.inBlock,if_true];exact h
theorem tA (hne:¬id'=id) (h:Q (.exit id') ρ σ):bk.inBlock id Q (.exit id') ρ σ:=by simp only[bk.inBlock,if_neg hne];exact h
end
theorem ao (s:aa) (o:Nat) (x:Ob):(s.put o x) o=some x:=by simp[aa.put]
theorem iT (s:aa) (o:Nat) (x y:Ob):(s.put o x).put o y=s.put o y:=by
 funext p
 simp only[aa.put]
 split<;>rfl
theorem au {s:aa} {o p:Nat} (h:p≠o) {x:Ob}:(s.put o x) p=s p:=by simp[aa.put,h]
theorem fC {s:aa} {o p:Nat} {x:Ob} (h:(s.put o x) p=none):o≠p:=by
 rintro rfl
 simp[aa.put] at h
theorem ep {s:aa} {o p:Nat} {x:Ob} (h:(s.put o x) p=none):s p=none:=by
 rwa [au (fun e=>fC h e.symm)] at h
theorem aw {s t:aa} (h:s.Sub t) {o:Nat} (ho:s o=none) (x:Ob):s.Sub (t.put o x):=fun p y hp=>by
 simp only[aa.put]
 split
 ·rename_i e;rw[e,ho] at hp;cases hp
 ·exact h p y hp
theorem bo {s t:aa} (h:s.Sub t) {o:Nat} (ho:t o=none):s o=none:=by
 cases hs:s o with
 |none=>rfl
 |some x=>have:=h o x hs;rw[ho] at this;cases this
theorem aa.Sub.refl (s:aa):s.Sub s:=fun _ _ h=>h
def ints (l:List Int):List AV:=l.map fun n=> .int .i64 n
theorem dP (l:List Int):(ints l).length=l.length:=by simp[ints]
theorem gy {l:List Int} {i:Nat} (h:i<l.length):(ints l).getD i .any= .int .i64 (l.getD i 0):=by
 simp[ints,List.getD_eq_getElem?_getD,h]
theorem getD_map {α:Type} (f:α→AV) {l:List α} {i:Nat} (d:α) (h:i<l.length):(l.map f).getD i .any=f (l.getD i d):=by
 simp[List.getD_eq_getElem?_getD,h]
theorem xK {p:Prop} [Decidable p] (h:p):decide p=true:=decide_eq_true h
theorem xL {p:Prop} [Decidable p] (h:¬p):decide p=false:=decide_eq_false h
theorem Ay {c:Prop} [Decidable c] {A B:Prop} (h1:c→A) (h2:¬c→B):ite c A B:=by
 by_cases h:c
 ·rw[if_pos h];exact h1 h
 ·rw[if_neg h];exact h2 h
theorem y5 {b:Bool} {A B:Prop} (h1:b=true→A) (h2:b=false→B):ite (b=true) A B:=by
 cases b
 ·exact h2 rfl
 ·exact h1 rfl
theorem ib (l:List Int):aO 1 (ints l)=true:=jG 1 _ (fun _=>rfl) l
theorem eT {s:aa} {o p:Nat} (h:p≠o):(s.drop o) p=s p:=by simp[aa.drop,h]
theorem lf {s t:aa} (h:s.Sub t) {o:Nat} (ho:s o=none):s.Sub (t.drop o):=fun p y hp=>by
 simp only[aa.drop]
 split
 ·rename_i e;rw[e,ho] at hp;cases hp
 ·exact h p y hp
theorem Ab {P:Program} {n:Nat} {Q:bk} {ρ:Env} {σ:aa} {x y:Code} (E:Env) (S:aa) (hx:W P n x (bk.then (fun ρ' σ'=>E.Sub ρ'∧S.Sub σ') Q) ρ σ) (hy:W P n y Q E S):W P n (.seq x y) Q ρ σ:=by
 refine yg (ua hx ?_)
 intro e ρ2 σ2 hq
 cases e with
 |normal=>exact lb hq.1 hq.2 hy
 |exit id=>exact hq
 |goto l=>exact hq
 |ret=>exact hq
 |panic ch=>exact hq
 |outgrown=>exact hq
theorem sub_eq {s t:aa} (h:s=t):s.Sub t:=by rw[h];exact aa.Sub.refl _
theorem AS {P:Program} {n:Nat} {Q:bk} {ρ:Env} {σ:aa} {x y:Code} {α:Type} (E:α→Env) (S:α→aa) (I:α→Prop) (hx:W P n x (bk.then (fun ρ' σ'=>∃a,I a∧(E a).Sub ρ'∧(S a).Sub σ') Q) ρ σ) (hy:∀a,I a→W P n y Q (E a) (S a)):W P n (.seq x y) Q ρ σ:=by
  refine yg (ua hx ?_)
  intro e ρ2 σ2 hq
  cases e with
  | normal=>
    obtain⟨a,h1,h2,h3⟩:=hq
    exact lb h2 h3 (hy a h1)
  |exit id=>exact hq
  |goto l=>exact hq
  |ret=>exact hq
  |panic ch=>exact hq
  |outgrown=>exact hq
theorem yQ {P:Program} {n:Nat} {mu:List Nat} {ops:Array Oper} {l:List Oper} {ρ:Env} {σ:aa} {K:Env→aa→Prop} (h:prun P n mu ops l ρ σ K):prun P n mu ops l ρ σ K:=h
theorem zC {P:Program} {n:Nat} {mu:List Nat} {c:Cl} {nu:Nat→Nat} {ops:Array Oper} {l:List Oper} {i:Nat} {ρ:Env} {σ:aa} {K:Env→aa→Prop} (h:dK P n mu c nu ops l i ρ σ K):dK P n mu c nu ops l i ρ σ K:=h
end Go.Kern

namespace Go.Kern
open Go.RowKit Go.ChangeShapes
inductive Sh where
 |int (k:IntKind)
 |bool
 |str
 |sl (e:Sh) (ag:Bool)
 |nil
 |cons (f r:Sh)
def Sh.size:Sh→Nat
 | .int _| .bool| .str| .sl _ _=>1
 | .nil=>0
 | .cons f r=>f.size+r.size
def Sh.isAgg:Sh→Bool
 | .nil| .cons _ _=>true
 |_=>false
def fq (ag:Bool) (l:List AV):AV:=
 match ag with
 |true=> .agg l
 |false=>l.headD .any
def Sh.ok:Sh→List AV→Prop
 | .int k,l=>∃n,l=[.int k n]∧(Lit.int k n).wf=true
 | .bool,l=>∃b,l=[.bool b]
 | .str,l=>∃s:ByteArray,l=[.str s]∧s.size≤maxLen
 | .sl e ag,l=>∃ (kd:SK) (ys:List (List AV)),l=[.sl kd (ys.map (fq ag))]∧ys.length≤maxLen∧∀y,y∈ys→e.ok y
 | .nil,l=>l=[]
 | .cons f r,l=>∃a b,l=a++b∧f.ok a∧r.ok b
def Sh.qB (P:Program):Sh→(TypeId→Bool)×(List Field→Nat→Bool)
  | .int k=>(fun t=>match P.underlying t with|some (.int q)=>decide (q=k)|_=>false,fun _ _=>false)
  | .bool=>(fun t=>match P.underlying t with|some .bool=>true|_=>false,fun _ _=>false)
  | .str=>(fun t=>match P.underlying t with|some .string=>true|_=>false,fun _ _=>false)
  | .sl e ag=>(fun t=>match P.underlying t with
      |some (.slice et)=>decide (P.cellsOf et=e.size)&&decide (0<e.size)&&decide (e.isAgg=ag)&&(e.qB P).1 et
      |_=>false,fun _ _=>false)
  | .nil=>(fun t=>match P.underlying t with|some (.struct fs)=>fs.toList.isEmpty&&decide (P.cellsOf t=0)|_=>false,fun l _=>l.isEmpty)
  | .cons f r=>
    let F:List Field→Nat→Bool:=fun l off=>match l with
      | []=>false
      |fd::l=>decide (fd.offset=off)&&decide (P.cellsOf fd.type=f.size)&&(f.qB P).1 fd.type&&(r.qB P).2 l (off+f.size)
    (fun t=>match P.underlying t with|some (.struct fs)=>decide (P.cellsOf t=f.size+r.size)&&F fs.toList 0|_=>false,F)
theorem Sh.mh:∀ (s:Sh) {l:List AV},s.ok l→l.length=s.size
 | .int k,l,⟨n,h,_⟩=>by rw[h];rfl
 | .bool,l,⟨n,h⟩=>by rw[h];rfl
 | .str,l,⟨n,h,_⟩=>by rw[h];rfl
 | .sl e ag,l,⟨kd,ys,h,_⟩=>by rw[h];rfl
 | .nil,l,h=>by rw[show l=[] from h];rfl
 | .cons f r,l,⟨a,b,h,ha,hb⟩=>by rw[h,List.length_append,f.mh ha,r.mh hb];rfl
theorem mE {e:Sh} {ag:Bool} (h:e.isAgg=ag) {y:List AV} (hy:e.ok y):(fq ag y).cells=y:=by
 subst h
 cases e with
 |int k=>obtain⟨n,rfl,_⟩:=hy;rfl
 |bool=>obtain⟨n,rfl⟩:=hy;rfl
 |str=>obtain⟨n,rfl,_⟩:=hy;rfl
 |sl e ag=>obtain⟨kd,ys,rfl,_⟩:=hy;rfl
 |nil=>rfl
 |cons f r=>rfl
def yz (W:World):Gh:= {w0:=W,bf:=fun b o=>W.cell? ⟨b,o,none⟩,loc:=fun _=>none,tipv:=fun _ _=>none,res:=fun _=>False}
def Cn:aa:=fun _=>none
theorem B9 (W:World):ay (yz W) W Cn where
 below:=Below.refl _ _
 bf b o v h:=h
 loc o b sz n h:=by cases h
 fresh:=⟨0,fun o _=>⟨rfl,fun _=>rfl,rfl,id⟩⟩
 res o h:=h.elim
 obj:=⟨fun _=>0,⟨nofun,nofun⟩⟩
def RC (W:World) (l:List AV) (cs:List Value):Prop:=l.length=cs.length∧∀ (i:Nat) (c:AV) (v:Value),l[i]? =some c→cs[i]? =some v→R (yz W) c v
theorem RC.one {W:World} {c:AV} {v:Value} (h:R (yz W) c v):RC W [c] [v]:=⟨rfl,fun i x u hx hu=>by
 cases i with
 |zero=>simp at hx hu;subst hx;subst hu;exact h
 |succ i=>simp at hx⟩
theorem RC.append {W:World} {l m:List AV} {cs ds:List Value} (h:RC W l cs) (k:RC W m ds):RC W (l++m) (cs++ds):=by
 refine⟨by rw[List.length_append,List.length_append,h.1,k.1],fun i c v hc hv=>?_⟩
 rw[List.getElem?_append] at hc hv
 rw[h.1] at hc
 split at hc
 ·rename_i hi
  rw[if_pos hi] at hv
  exact h.2 i c v hc hv
 ·rename_i hi
  rw[if_neg hi] at hv
  exact k.2 _ c v hc hv
section
variable {H:Type} {enc:TypeId×Value→H} {P:Program} {W:World} {held:Bool} {sp:Nat→Bool}
theorem yJ {e:Sh} {ag:Bool} (hag:e.isAgg=ag) (h0:0<e.size) {a:Addr} {len cap:Nat} (hl:len≤cap)
  (f:Nat→List AV) (c:Nat→List Value) (hf:∀i,i<len→e.ok (f i)∧RC W (f i) (c i)∧W.cells? 0 (a.add (i*e.size)) e.size=some (c i)):
  R (yz W) (.sl .bf (((List.range len).map f).map (fq ag))) (.slice (some a) len cap):=by
 have hcell:∀i,i<len→∀j,j<e.size→a.spot=none∧W.cell? ⟨a.block,a.off+(i*e.size+j),none⟩=(c i)[j]? :=fun i hi j hj=>by
  obtain⟨_,h2,h3⟩:=World.cells?_some (hf i hi).2.2
  have h4:=h3 j hj
  have hsp:a.spot=none:=by
   obtain⟨_,k2,k3⟩:=World.cells?_some (hf 0 (by omega)).2.2
   have k4:=k3 0 h0
   rw[List.getElem?_eq_getElem (by omega)] at k4
   have:=World.cell?_spot k4
   simpa [Addr.add] using this
  refine⟨hsp,?_⟩
  rw[bF hsp,bF rfl] at h4
  rw[←h4]
  simp only[Nat.add_assoc]
 have hxs:((List.range len).map f).map (fq ag)=(List.range len).map fun i=>fq ag (f i):=by simp
 have hlen:(((List.range len).map f).map (fq ag)).length=len:=by simp
 have hu:∀x,x∈((List.range len).map f).map (fq ag)→x.cells.length=e.size:=by
  intro x hx
  rw[hxs] at hx
  obtain⟨i,hi,rfl⟩:=List.mem_map.1 hx
  rw[mE hag (hf i (List.mem_range.1 hi)).1]
  exact e.mh (hf i (List.mem_range.1 hi)).1
 have hcl:=aI (((List.range len).map f).map (fq ag)) hu
 rw[hlen] at hcl
 have key:∀k,k<len*e.size→∃i j,i<len∧j<e.size∧k=i*e.size+j∧(ar (((List.range len).map f).map (fq ag)))[k]? =(f i)[j]? :=fun k hk=>by
  have hi:k/e.size<len:=(Nat.div_lt_iff_lt_mul h0).2 hk
  refine⟨k/e.size,k%e.size,hi,Nat.mod_lt _ h0,by rw[Nat.mul_comm];exact(Nat.div_add_mod _ _).symm,?_⟩
  rw[bU h0 _ hu,hxs,List.getElem?_map,List.getElem?_range hi]
  simp only[Option.map_some,Option.bind_some]
  rw[mE hag (hf _ hi).1]
 have hr:=R.sl (g:=yz W) (k:= .bf) (xs:=((List.range len).map f).map (fq ag)) (a:=a) (cap:=cap) (sz:=e.size) (vs:=fun k=>(W.cell? ⟨a.block,a.off+k,none⟩).getD undef)
  (by rw[hlen];exact hl)
  (fun hne=>by
   cases len with
   |zero=>exact absurd rfl hne
   |succ n=>exact(hcell 0 (by omega) 0 h0).1)
  hu
  (fun k hk=>by
   rw[hcl] at hk
   obtain⟨i,j,hi,hj,rfl,_⟩:=key k hk
   have h2:=(hcell i hi j hj).2
   have hlt:j<(c i).length:=by have:=(World.cells?_some (hf i hi).2.2).2.1;omega
   show W.cell? _=some _
   rw[h2,List.getElem?_eq_getElem hlt];rfl)
  (fun k x hx=>by
   have hk:k<len*e.size:=by
    have:=(List.getElem?_eq_some_iff.1 hx).1
    omega
   obtain⟨i,j,hi,hj,rfl,he⟩:=key k hk
   rw[he] at hx
   have hlt:j<(c i).length:=by have:=(World.cells?_some (hf i hi).2.2).2.1;omega
   have h2:=(hcell i hi j hj).2
   simp only[h2,List.getElem?_eq_getElem hlt,Option.getD_some]
   exact(hf i hi).2.1.2 j x _ hx (List.getElem?_eq_getElem hlt))
 rw[hlen] at hr
 exact hr
theorem Sh.read:∀ (s:Sh),
    (∀ (t:TypeId) (fuel:Nat) (cs:List Value) (x:DataW H×List MemPlace),(s.qB P).1 t=true→DataW.trod enc P W 0 sp held fuel t cs=some x→∃l,s.ok l∧RC W l cs)∧
    (∀ (fl:List Field) (off n:Nat) (cs:List Value),(s.qB P).2 fl off=true→off+s.size=cs.length→
      (∀f,f∈fl→∃x,DataW.trod enc P W 0 sp held n f.type ((cs.drop f.offset).take (P.cellsOf f.type))=some x)→∃l,s.ok l∧RC W l (cs.drop off))
  | .int k=>by
    refine⟨?_,?_⟩
    · intro t fuel cs x hc h
      simp only[Sh.qB] at hc
      split at hc
      · rename_i q hq
        obtain rfl:=of_decide_eq_true hc
        obtain⟨n,rfl,_,hw⟩:=DataW.trod_int hq h
        exact⟨_,⟨n,rfl,hw⟩,.one (.int _ _)⟩
      · cases hc
    · intro fl off n cs hc
      simp[Sh.qB] at hc
  | .bool=>by
    refine⟨?_,?_⟩
    · intro t fuel cs x hc h
      simp only[Sh.qB] at hc
      split at hc
      · rename_i hq
        obtain⟨n,rfl,_⟩:=DataW.trod_bool hq h
        exact⟨_,⟨n,rfl⟩,.one (.bool _)⟩
      · cases hc
    · intro fl off n cs hc
      simp[Sh.qB] at hc
  | .str=>by
    refine⟨?_,?_⟩
    · intro t fuel cs x hc h
      simp only[Sh.qB] at hc
      split at hc
      · rename_i hq
        obtain⟨n,rfl,_,hw⟩:=DataW.trod_string hq h
        exact⟨_,⟨n,rfl,hw⟩,.one (.str _)⟩
      · cases hc
    · intro fl off n cs hc
      simp[Sh.qB] at hc
  | .sl e ag=>by
    refine⟨?_,?_⟩
    · intro t fuel cs x hc h
      simp only[Sh.qB] at hc
      split at hc
      · rename_i et hq
        simp only[Bool.and_eq_true,decide_eq_true_eq] at hc
        obtain⟨⟨⟨hsz,h0⟩,hag⟩,hce⟩:=hc
        rcases DataW.trod_slice hq h with ⟨rfl,_⟩|⟨a,len,cap,elems,rest,n,_,rfl,_,_,hlc,hcm,hel,hi,_⟩
        · exact⟨[.sl .nil []],⟨.nil,[],rfl,by simp,fun y hy=>by cases hy⟩,.one .slnil⟩
        · have hex:∀i,∃ (l:List AV) (c:List Value),i<len→e.ok l∧RC W l c∧W.cells? 0 (a.add (i*e.size)) e.size=some c:=fun i=>by
            by_cases hlt:i<len
            · have h1:=hi i hlt
              rw[List.getElem?_eq_getElem (by omega)] at h1
              rw[hsz] at h1
              cases hcs:W.cells? 0 (a.add (i*e.size)) e.size with
              |none=>rw[hcs] at h1;cases h1
              | some c=>
                rw[hcs] at h1
                obtain⟨l,h2,h3⟩:=(Sh.read e).1 et n c _ hce h1
                exact⟨l,c,fun _=>⟨h2,h3,rfl⟩⟩
            · exact⟨[],[],fun h=>absurd h hlt⟩
          have f:=fun i=>(hex i).choose
          refine⟨[.sl .bf (((List.range len).map fun i=>(hex i).choose).map (fq ag))],⟨.bf,(List.range len).map fun i=>(hex i).choose,rfl,by simp;omega,fun y hy=>?_⟩,.one ?_⟩
          · obtain⟨i,hi',rfl⟩:=List.mem_map.1 hy
            exact((hex i).choose_spec.choose_spec (List.mem_range.1 hi')).1
          · exact yJ hag h0 hlc (fun i=>(hex i).choose) (fun i=>(hex i).choose_spec.choose) fun i hi'=>(hex i).choose_spec.choose_spec hi'
      · cases hc
    · intro fl off n cs hc
      simp[Sh.qB] at hc
  | .nil=>by
    refine⟨?_,?_⟩
    · intro t fuel cs x hc h
      simp only[Sh.qB] at hc
      split at hc
      · rename_i fs hq
        simp only[Bool.and_eq_true,decide_eq_true_eq] at hc
        obtain⟨xs,n,_,_,hl,_⟩:=DataW.trod_struct hq h
        have:cs=[]:=List.eq_nil_of_length_eq_zero (by omega)
        subst this
        exact⟨[],rfl,rfl,fun i c v hc=>by simp at hc⟩
      · cases hc
    · intro fl off n cs hc hl _
      have:cs.drop off=[]:=List.drop_eq_nil_of_le (by simp only[Sh.size] at hl;omega)
      exact⟨[],rfl,by rw[this];exact⟨rfl,fun i c v hc=>by simp at hc⟩⟩
  | .cons f r=>by
    have hF:∀ (fl:List Field) (off n:Nat) (cs:List Value),((Sh.cons f r).qB P).2 fl off=true→off+(f.size+r.size)=cs.length→
        (∀f,f∈fl→∃x,DataW.trod enc P W 0 sp held n f.type ((cs.drop f.offset).take (P.cellsOf f.type))=some x)→∃l,(Sh.cons f r).ok l∧RC W l (cs.drop off):=by
      intro fl off n cs hc hl hx
      simp only[Sh.qB] at hc
      cases fl with
      |nil=>cases hc
      | cons fd fl=>
        simp only[Bool.and_eq_true,decide_eq_true_eq] at hc
        obtain⟨⟨⟨ho,hs⟩,hcf⟩,hcr⟩:=hc
        obtain⟨x,hx0⟩:=hx fd List.mem_cons_self
        obtain⟨a,ha,hra⟩:=(Sh.read f).1 _ _ _ _ hcf hx0
        obtain⟨b,hb,hrb⟩:=(Sh.read r).2 fl (off+f.size) n cs hcr (by omega) fun fd' hf'=>hx fd' (List.mem_cons_of_mem _ hf')
        refine⟨a++b,⟨a,b,rfl,ha,hb⟩,?_⟩
        have e:cs.drop off=(cs.drop off).take f.size++cs.drop (off+f.size):=by
          rw[←List.drop_drop,List.take_append_drop]
        rw[e]
        rw[ho,hs] at hra
        exact hra.append hrb
    refine⟨fun t fuel cs x hc h=>?_,hF⟩
    simp only[Sh.qB] at hc
    split at hc
    · rename_i fs hq
      rw[Bool.and_eq_true,decide_eq_true_eq] at hc
      obtain⟨xs,n,_,_,hl,hlen,hi⟩:=DataW.trod_struct hq h
      have:=hF fs.toList 0 n cs hc.2 (by omega) fun fd hfd=>by
        obtain⟨i,hi',rfl⟩:=List.getElem_of_mem hfd
        have hi2:i<fs.size:=by simpa using hi'
        have:=hi i fs[i] (by simp[hi2])
        exact⟨xs[i]'(by omega),by simpa [List.getElem?_eq_getElem (show i<xs.length by omega)] using this⟩
      simpa using this
    · cases hc
end
end Go.Kern

namespace Go.Kern
open Go.RowKit Go.ChangeShapes
section
variable {H:Type} {enc:TypeId×Value→H} {P:Program}
theorem jW {W W':World} (hl:laidOutB P=true) (hb:Below W.heap.size W W') {sp:Nat→Bool}:∀ (ts:List TypeId) (vs:List Value) (ds:List (DataW H)) (ps:List MemPlace),
    (∀t,t∈ts→P.readableRec t=true∧t<P.types.size)→DataW.TrodAll enc P W 0 (fun _=>true) true ts vs ds ps→(∀p,p∈ps→p.block<W.heap.size)→(∀p,p∈ps→sp p.block=true)→
    DataW.TrodAll enc P W' 0 sp true ts vs ds ps
  | [],[],[],ps,_,h,_,_=>h
  | t::ts,v::vs,d::ds,ps,hr,⟨p,q,h1,h2,h3⟩,hlt,hs=>by
    subst h3
    have ht:=hr t List.mem_cons_self
    exact⟨p,q,WideElems.Trod_stays hl ht.1 ht.2 h1 (fun x hx=>hb.same (hlt x (List.mem_append_left _ hx))) (fun x hx=>hs x (List.mem_append_left _ hx)),
      jW hl hb ts vs ds q (fun t h=>hr t (List.mem_cons_of_mem _ h)) h2 (fun x hx=>hlt x (List.mem_append_right _ hx)) (fun x hx=>hs x (List.mem_append_right _ hx)),rfl⟩
  | [],[],_::_,_,_,h,_,_=>h.elim
  | [],_::_,_,_,_,h,_,_=>h.elim
  |_::_,[],_,_,_,h,_,_=>h.elim
  |_::_,_::_,[],_,_,h,_,_=>h.elim
theorem y3 {fn:Func} {f:FuncId} {s:ChangeSpec} {tb:TypeId} {args:Array Value} {W:World} {ds gs:List (DataW H)} {before:List MemPlace}
  (hl:laidOutB P=true) (hr:∀t,t∈fn.params.toList→P.readableRec t=true∧t<P.types.size) (hres:fn.resultTypes= #[tb]) (htb:P.underlying tb=some .bool)
  (hvars:s.vars=[]) (hspec:s.fn H ds= {results:=[.lit (.bool true)],args:=ds})
  (hW:DataW.Whole enc P fn.params.toList s.vars false W args.toList ds gs before)
  (xs:List AV) (hxl:xs.length=args.size) (hx:∀ (i:Nat) (c:AV) (v:Value),xs[i]? =some c→args[i]? =some v→R (yz W) c v)
  (hp:af P f xs Cn (fun r s=>r= .bool true∧s=Cn)):
  Calls P f args W fun e W'=>∃v,e= .returned v∧s.post enc P fn false true false false W args v W':=by
 refine(hp.2 (yz W) W args hxl hx (B9 W)).mono ?_
 rintro e W' ⟨v,he,g',r,σ',hle,hc,hrv,rfl,_⟩
 refine⟨v,he,?_⟩
 have hv:v= .bool true:=by cases hrv;rfl
 subst hv
 have hb:Below W.heap.size W W':=by
  have h1:=hc.below
  rw[hle.w0] at h1
  exact h1
 have hlt:∀p,p∈before→p.block<W.heap.size:=fun p h=>hW.lt p h
 have hW2:=hW
 obtain⟨p,q,hA,hV,hpq,hz,_⟩:=hW2
 rw[hvars] at hV
 obtain⟨rfl,rfl⟩:=trodVars_none hV
 rw[List.append_nil] at hpq
 subst hpq
 have hfn:s.fn H (ds++[])= {results:=[.lit (.bool true)],args:=ds}:=by rw[List.append_nil];exact hspec
 have hargs:∀sp:Nat→Bool,(∀x∈before,sp x.block=true)→DataW.TrodAll enc P W' 0 sp true fn.params.toList args.toList (s.fn H (ds++[])).args before:=by
  intro sp hs
  rw[hfn]
  exact jW hl hb _ _ _ _ hr hA hlt hs
 have hresT:∀ (b:Nat) (sp:Nat→Bool) (hd:Bool),DataW.TrodAll enc P W' b sp hd fn.resultTypes.toList ((Value.bool true).resultList fn.resultTypes.size) (s.fn H (ds++[])).results []:=by
  intro b sp hd
  rw[hfn,hres]
  exact trodAll_cons_mk (shut_bool htb _) trodAll_mk0
 have hvarsT:∀sp:Nat→Bool,DataW.TrodVars enc P W' sp s.vars (s.fn H (ds++[])).vars []:=by
  intro sp
  rw[hfn,hvars]
  rfl
 refine⟨ds,[],before,[],before,[],hW,hresT _ _ _,hargs _ fun x hx=>?_,hvarsT _,hb.frame _,fun _=>?_⟩
 ·simpa using hlt x hx
 ·refine⟨ok_one hres rfl (okWide_bool_mk htb _),_,_,([]++before)++[],⟨[]++before,[],trodAll_append (hargs _ fun _ _=>rfl) (hresT _ _ _),hvarsT _,rfl,?_,nofun⟩,?_⟩
  ·intro b off h
   have h':MemPlace.cell b off∈before:=by simpa using h
   rw[hb.frozen (hlt _ h')]
   exact hz b off h'
  ·intro x hx _
   simpa using hx
end
end Go.Kern

namespace Go.Kern
open Go.RowKit Go.ChangeShapes Go.WideShapes
def fB:Sh:= .int .i64
theorem BY {α:Type} {e:Sh} {ag:Bool} (f:α→AV) (hf:∀y,e.ok y→∃a,fq ag y=f a):∀{l:List AV},(Sh.sl e ag).ok l→∃ (k:SK) (zs:List α),l=[.sl k (zs.map f)]∧zs.length≤maxLen:=by
  have gen:∀ys:List (List AV),(∀y,y∈ys→e.ok y)→∃zs:List α,ys.map (fq ag)=zs.map f∧zs.length=ys.length:=by
    intro ys
    induction ys with
    |nil=>exact fun _=>⟨[],rfl,rfl⟩
    | cons y ys ih=>
      intro h
      obtain⟨a,ha⟩:=hf y (h y List.mem_cons_self)
      obtain⟨zs,h1,h2⟩:=ih fun y hy=>h y (List.mem_cons_of_mem _ hy)
      exact⟨a::zs,by rw[List.map_cons,h1,ha];rfl,by simp[h2]⟩
  rintro l ⟨k,ys,rfl,h1,h2⟩
  obtain⟨zs,h3,h4⟩:=gen ys h2
  exact⟨k,zs,by rw[h3],by omega⟩
theorem yK {l:List AV} (h:(Sh.sl fB false).ok l):∃ (k:SK) (zs:List Int),l=[.sl k (ints zs)]∧zs.length≤maxLen:=
 BY (e:=fB) (fun n=>AV.int .i64 n) (fun y hy=>by obtain⟨n,rfl,_⟩:=hy;exact⟨n,rfl⟩) h
inductive RS (W:World):List AV→List Value→Prop
 |nil:RS W [] []
 |cons {x:AV} {v:Value} {xs:List AV} {vs:List Value} (h:R (yz W) x v) (hs:RS W xs vs):RS W (x::xs) (v::vs)
theorem yq {W:World}:∀ (xs:List AV) (vs:List Value),RS W xs vs→xs.length=vs.toArray.size∧∀ (i:Nat) (c:AV) (v:Value),xs[i]? =some c→vs.toArray[i]? =some v→R (yz W) c v
  |_,_,.nil=>⟨rfl,fun i c v h=>by simp at h⟩
  | _,_,.cons h hs=>by
    obtain⟨h1,h2⟩:=yq _ _ hs
    refine⟨by simpa using h1,fun i c v hc hv=>?_⟩
    cases i with
    |zero=>simp at hc hv;subst hc;subst hv;exact h
    |succ i=>exact h2 i c v (by simpa using hc) (by simpa using hv)
end Go.Kern

namespace Go.Kern
open Go.RowKit
theorem Gh.wg {g:Gh} {b:Nat} {cs:Array Value} {m:Nat} (hn:∀off,g.bf b off=none):g.Le (g.bp b cs m):=
 ⟨rfl,fun b' o v hi=>by
  simp only[Gh.bp]
  by_cases e:b'=b
  ·subst e;rw[hn] at hi;cases hi
  ·rw[if_neg e];exact hi,fun _ _ h=>h,fun _ _ _ h=>h,rfl⟩
theorem lK {s:aa} {o p:Nat} {x:Ob} (h:(s.drop o) p=some x):p≠o∧s p=some x:=by
 simp only[aa.drop] at h
 split at h
 ·cases h
 ·exact⟨by assumption,h⟩
theorem ay.freeze {g:Gh} {w:World} {s:aa} (h:ay g w s) {o:Nat} {e:TypeId} {rows:List AV} (ho:s o=some (.arr e rows)):
    ∃ g',g.Le g'∧ay g' w (s.drop o)∧
      (∀sz st len v,st+len≤rows.length→R g (.ms o sz st len) v→R g' (.sl .bf ((rows.drop st).take len)) v)∧
      (∀i off x v,rows[i]? =some x→R g (.ptr o i off) v→R g' (.ip x off) v):=by
  obtain⟨blk,h1,h2⟩:=h.obj
  obtain⟨hb,sz,cells,⟨n,hl,hsz⟩,hh,hrow,hfit,hcell,himm⟩:=h1 o _ ho
  have hle:g.Le (g.bp (blk o) cells (rows.length*sz)):=Gh.wg himm
  have hcl:(ar rows).length=rows.length*sz:=aI rows hrow
  have hget:∀i,i<rows.length*sz→∃u,cells[i]? =some u:=fun i hi=>⟨_,Array.getElem?_eq_getElem (by omega)⟩
  have hval:∀i c,(ar rows)[i]? =some c→R g c (cells.getD i undef):=fun i c hc=>by
    have hi:i<rows.length*sz:=by rw[←hcl];exact(List.getElem?_eq_some_iff.1 hc).1
    obtain⟨u,hu⟩:=hget i hi
    rw[Array.getD_eq_getD_getElem?,hu]
    exact hcell i c u hc hu
  have himm2:∀i,i<rows.length*sz→(g.bp (blk o) cells (rows.length*sz)).bf (blk o) i=some (cells.getD i undef):=fun i hi=>by
    obtain⟨u,hu⟩:=hget i hi
    simp only[Gh.bp]
    rw[if_pos trivial,if_pos hi,Array.getD_eq_getD_getElem?,hu]
    rfl
  refine⟨_,hle,⟨h.below,fun b off v hi=>?_,h.loc,?_,?_,blk,fun p x hx=>?_,fun p q x y hx hy=>?_⟩,?_,?_⟩
  · simp only[Gh.bp] at hi
    split at hi
    · rename_i eb
      subst eb
      split at hi
      · simp[World.cell?,hh,hi]
      · cases hi
    · exact h.bf b off v hi
  · obtain⟨N,hN⟩:=h.fresh
    exact ⟨N, fun p hp => ⟨(hN p hp).1, (hN p hp).2.1, by simp only[aa.drop];split;· rfl
                                                          · exact(hN p hp).2.2.1,(hN p hp).2.2.2⟩⟩
  · exact fun p hp => ⟨(h.res p hp).1, (h.res p hp).2.1, by simp only[aa.drop];split;· rfl
                                                            · exact(h.res p hp).2.2⟩
  · obtain⟨hne,hx⟩:=lK hx
    refine⟨(h1 p x hx).1,(h1 p x hx).2.iy hle rfl (fun off=>?_) (fun _=>rfl)⟩
    simp only[Gh.bp]
    rw[if_neg (fun eb=>hne (h2 p o x _ hx ho eb))]
  · exact h2 p q x y (lK hx).2 (lK hy).2
  · intro sz' st len v bg hv
    cases hv with
    | ms hb' hc hlen ha=>
      rename_i b' n' cap a
      rw[hl] at hb'
      injection hb' with hb'
      injection hb' with e1 e2
      injection e2 with e2 e3
      subst e1;subst e2;subst e3
      have hlen2:((rows.drop st).take len).length=len:=by rw[List.length_take,List.length_drop];omega
      have hm:∀x,x∈(rows.drop st).take len→x.cells.length=sz:=fun x hx=>hrow x (List.mem_of_mem_drop (List.mem_of_mem_take hx))
      have hcl2:(ar ((rows.drop st).take len)).length=len*sz:=by rw[aI _ hm,hlen2]
      have hidx:∀i c,(ar ((rows.drop st).take len))[i]? =some c→(ar rows)[st*sz+i]? =some c:=fun i c hc=>by
        have hi:i<len*sz:=by rw[←hcl2];exact(List.getElem?_eq_some_iff.1 hc).1
        have hpos:0<sz:=by
          rcases Nat.eq_zero_or_pos sz with e0|e0
          · subst e0;omega
          · exact e0
        rw[bU hpos _ hm] at hc
        rw[bU hpos _ hrow]
        have q1:(st*sz+i)/sz=st+i/sz:=by rw[Nat.mul_comm,Nat.mul_add_div hpos]
        have q2:(st*sz+i)%sz=i%sz:=by rw[Nat.mul_comm,Nat.mul_add_mod]
        have hil:i/sz<len:=Nat.div_lt_of_lt_mul (by rw[Nat.mul_comm];exact hi)
        rw[q1,q2]
        rw[List.getElem?_take,if_pos hil,List.getElem?_drop] at hc
        exact hc
      have:=R.sl (g:=g.bp (blk o) cells (rows.length*sz)) (k:= .bf) (xs:=(rows.drop st).take len) (a:=a) (cap:=cap) (sz:=sz) (vs:=fun i=>cells.getD (st*sz+i) undef) (by show _≤_;omega)
        (fun hne=>by
          have hlp:0<len:=by
            rcases Nat.eq_zero_or_pos len with e0|e0
            · subst e0;simp at hne
            · exact e0
          rw[ha (by omega)])
        hm (fun i hi=>?_) (fun i c hc=>(hval _ c (hidx i c hc)).le hle)
      · rw[hlen2] at this;exact this
      · rw[hcl2] at hi
        have hlp:0<len:=by
          rcases Nat.eq_zero_or_pos len with e0|e0
          · subst e0;omega
          · exact e0
        rw[ha (by omega)]
        refine himm2 _ ?_
        have:(st+len)*sz≤rows.length*sz:=Nat.mul_le_mul_right _ bg
        rw[Nat.add_mul] at this
        show st*sz+i<_
        omega
  · intro i off x v hx hv
    cases hv with
    | ptr hb'=>
      rename_i b' sz' n'
      rw[hl] at hb'
      injection hb' with hb'
      injection hb' with e1 e2
      injection e2 with e2 e3
      subst e1;subst e2;subst e3
      have hil:i<rows.length:=(List.getElem?_eq_some_iff.1 hx).1
      have hxs:x.cells.length=sz:=hrow x (List.mem_of_getElem? hx)
      refine R.ip (base:=i*sz) (vs:=fun j=>cells.getD (i*sz+j) undef) rfl rfl (fun j hj=>himm2 _ ?_) (fun j c hc=>(hval _ c ?_).le hle)
      · have:(i+1)*sz≤rows.length*sz:=Nat.mul_le_mul_right _ hil
        rw[Nat.add_mul,Nat.one_mul] at this
        omega
      · have hj:j<sz:=by rw[←hxs];exact(List.getElem?_eq_some_iff.1 hc).1
        rw[fG rows hrow i j x hx hj]
        exact hc
theorem R.pz {g:Gh} {k:SK} {xs:List AV} {v:Value} (h:R g (.sl k xs) v) (hk:k.isNil=false):R g (.sl .bf xs) v:=by
  cases h with
  |slnil=>cases hk
  | sl hk' hs hu hi h=>
    refine .sl ?_ hs hu hi h
    cases k with
    |nil=>cases hk
    |bf=>exact hk'
    |full=>show _≤_;rw[show _=_ from hk'];exact Nat.le_refl _
    |tip o=>exact hk'.1
inductive Fin (K:KK) (r:AV) (s:aa):Prop where
 |as (h:K r s)
 |bf (k:SK) (xs:List AV) (hr:r= .sl k xs) (hk:k.isNil=false) (h:K (.sl .bf xs) s)
 |Cr (o sz n:Nat) (e:TypeId) (rows:List AV) (hr:r= .ms o sz 0 n) (hs:s o=some (.arr e rows)) (hn:n≤rows.length) (h:K (.sl .bf (rows.take n)) (s.drop o))
theorem dT {P:Program} {f:FuncId} {args:List AV} {σ:aa} {K0 K:KK} (h:af P f args σ K0) (hk:∀r s,K0 r s→Fin (fun r s=>∃s0:aa,s0.Sub s∧K r s0) r s):af P f args σ K:=
 ⟨h.1,fun g w vs hl hr hc=>(h.2 g w vs hl hr hc).mono fun _ _ ⟨v,he,g',r,σ',h1,h2,h3,h4⟩=>by
  rcases hk _ _ h4 with ⟨s0,q1,q2⟩|⟨kd,xs,rfl,hkd,s0,q1,q2⟩|⟨o,sz,n,et,rows,rfl,hs,hn,s0,p1,p2⟩
  ·exact⟨v,he,g',_,_,h1,h2.sub q1,h3,q2⟩
  ·exact⟨v,he,g',_,_,h1,h2.sub q1,h3.pz hkd,q2⟩
  ·obtain⟨g2,q1,q2,q3,_⟩:=h2.freeze hs
   have:=q3 sz 0 n v (by omega) h3
   exact⟨v,he,g2,_,_,h1.trans q1,q2.sub p1,by simpa using this,p2⟩⟩
def Cr (o:Nat) (rows:List AV):AV→AV
  | .ms p sz st len=>if p=o then(if st+len≤rows.length then .sl .bf ((rows.drop st).take len) else .any) else .ms p sz st len
  | .ptr p i off=>if p=o then(match rows[i]? with
    |some x=> .ip x off
    |none=> .any) else .ptr p i off
  |x=>x
def Env.Cr (o:Nat) (rows:List AV) (ρ:Env):Env:=ρ.map fun e=>(e.1,Kern.Cr o rows e.2)
end Go.Kern

namespace Go.Kern
open Go.RowKit
theorem CY {a b:Int} (h:b≤a):decide (a<b)=false:=decide_eq_false (by omega)
theorem CZ {a b:Int} (h:b<a):decide (a≤b)=false:=decide_eq_false (by omega)
theorem C0 {a b:Int} (h:a=b):decide (a=b)=true:=decide_eq_true h
theorem C1 {a b:Int} (h:a≠b):decide (a=b)=false:=decide_eq_false h
theorem CQ {a b:Int} (h:a<b):(a<b)=True:=eq_true h
theorem CR {a b:Int} (h:a≤b):(a≤b)=True:=eq_true h
theorem CU {a b:Nat} (h:a<b):(a<b)=True:=eq_true h
theorem CV {a b:Nat} (h:a≤b):(a≤b)=True:=eq_true h
theorem Dd {x:Int} (h1: -9223372036854775808≤x) (h2:x≤9223372036854775807):IntKind.i64.wrap x=x:=cR h1 h2
section
variable {P:Program} {n:Nat} {Q:bk} {ρ:Env} {σ:aa} {K:Env→aa→Prop} {id id':Nat}
theorem wt {c:Operand} {x y:Code} (hb:ev ρ c= .bool true) (h:W P n x Q ρ σ):W P n (.cond c x y) Q ρ σ:=jR hb (fun _=>h) (fun e=>by cases e)
theorem wf {c:Operand} {x y:Code} (hb:ev ρ c= .bool false) (h:W P n y Q ρ σ):W P n (.cond c x y) Q ρ σ:=jR hb (fun e=>by cases e) (fun _=>h)
theorem wc {c:Operand} {x y:Code} {b:Bool} (hb:ev ρ c= .bool b) (ht:b=true→W P n x Q ρ σ) (hf:b=false→W P n y Q ρ σ):W P n (.cond c x y) Q ρ σ:=jR hb ht hf
theorem s1 {x y:Code} (h:W P n x (bk.then (W P n y Q) Q) ρ σ):W P n (.seq x y) Q ρ σ:=yg h
theorem s2 {c:Code} (h:W P n c (bk.inBlock id Q) ρ σ):W P n (.block id c) Q ρ σ:=zU h
theorem s3 {mu:List Nat} {ops:Array Oper} (h:prun P n mu ops ops.toList ρ σ (bw (fun ρ' σ'=>Q .normal ρ' σ') .mk)):W P n (.region id ops false) Q ρ σ:=yh h
theorem e1 (h:Q .ret ρ σ):W P n .ret Q ρ σ:=Cg h
theorem e2 (h:Q .normal ρ σ):W P n .skip Q ρ σ:=AR h
theorem e3 (h:Q (.exit id) ρ σ):W P n (.exit id) Q ρ σ:=AU h
theorem e4 (h:K ρ σ):bk.then K Q .normal ρ σ:=h
theorem e5 (h:Q .ret ρ σ):bk.then K Q .ret ρ σ:=h
theorem e6 (h:Q (.exit id) ρ σ):bk.then K Q (.exit id) ρ σ:=h
theorem e7 (h:Q .normal ρ σ):bk.inBlock id Q .normal ρ σ:=h
theorem e8 (h:Q .ret ρ σ):bk.inBlock id Q .ret ρ σ:=h
theorem e9 (h:Q .normal ρ σ):bk.inBlock id Q (.exit id) ρ σ:=qg h
theorem e0 (hne:(id'==id)=false) (h:Q (.exit id') ρ σ):bk.inBlock id Q (.exit id') ρ σ:=tA (by simpa using hne) h
theorem ea {t:Tag K} (h:K ρ σ):bw K t ρ σ:=h
theorem s5 {rl:List ResultVar} {K:KK} (h:dZ P ρ σ rl fun vs=>K (eO vs) σ):gJ P rl K .ret ρ σ:=h
theorem s6 {rl:List ResultVar} {K:KK} (h:dZ P ρ σ rl fun vs=>K (eO vs) σ):gJ P rl K .normal ρ σ:=h
theorem s7 {p:Prop} {t:Tag p} (h:p):bw p t:=h
end
abbrev c0:Cl:=⟨[],[],[],[],[],[],0⟩
abbrev cq (l:List Nat):Cl:=⟨l,[],[],[],[],[],0⟩
abbrev cw (l w a q z:List Nat):Cl:=⟨l,w,a,q,z,[],0⟩
theorem gb {b:Bool} {A B:Prop} (h1:b=true→A) (h2:b=false→B):ite (b=true) A B:=y5 h1 h2
theorem gf {b:Bool} {A B:Prop} (h1:b=false→A) (h2:b=true→B):ite (b=false) A B:=by
 cases b
 ·exact h1 rfl
 ·exact h2 rfl
theorem gn {c:Prop} [Decidable (¬c)] {A B:Prop} (h1:¬c→A) (h2:c→B):ite (¬c) A B:=by
 by_cases h:c
 ·rw[if_neg (fun k=>k h)];exact h2 h
 ·rw[if_pos h];exact h1 h
theorem gp {c:Prop} [Decidable c] {A B:Prop} (h1:c→A) (h2:¬c→B):ite c A B:=Ay h1 h2
def Pure (P:Program) (f:FuncId) (args:List AV) (v:AV):Prop:=∀s,af P f args s (fun r s'=>r=v∧s'=s)
theorem cu {P:Program} {f:FuncId} {args:List AV} {σ:aa} {v:AV} {k:KK} {t:Tag k} (h:Pure P f args v) (hk:k v σ):af P f args σ (bw k t):=
 (h σ).mono fun r s' ⟨h1,h2⟩=>by subst h1;subst h2;exact hk
theorem cv {P:Program} {f:FuncId} {args:List AV} {v:AV} {k:AV→Prop} (h:Pure P f args v) (hk:k v):∃v,(∀s,af P f args s (bw (fun r s'=>r=v∧s'=s) .mk))∧k v:=⟨v,h,hk⟩
theorem cx {P:Program} {f:FuncId} {args:List AV} {v:AV} {k:AV→Prop} {σ:aa} (h:Pure P f args v) (hk:k v):∃v,af P f args σ (bw (fun r s'=>r=v∧s'=σ) .mk)∧k v:=⟨v,h σ,hk⟩
theorem cy {P:Program} {f:FuncId} {args:List AV} {σ τ:aa} {v:AV} {k:KK} {t:Tag k} (h:af P f args σ (fun r s'=>r=v∧s'=τ)) (hk:k v τ):af P f args σ (bw k t):=
 h.mono fun r s' ⟨h1,h2⟩=>by subst h1;subst h2;exact hk
theorem cz {P:Program} {f:FuncId} {args:List AV} {σ τ:aa} {v:AV} {k:AV→aa→Prop} (h:af P f args σ (fun r s'=>r=v∧s'=τ)) (hk:k v τ):∃v τ,af P f args σ (bw (fun r s'=>r=v∧s'=τ) .mk)∧k v τ:=⟨v,τ,h,hk⟩
theorem vJ (nu:Nat→Nat) (s:aa):iE nu [] s=s:=rfl
theorem tL (nu:Nat→Nat) (i:Nat) (r:List Nat) (s:aa):iE nu (i::r) s=(iE nu r s).drop (nu i):=rfl
attribute [go_sem] vJ tL iA
abbrev ce (l w a q z:List Nat):Cl:=⟨l,w,a,q,z,[],1⟩
attribute [go_sem] Bool.not_eq_true' Bool.not_eq_false' decide_eq_false_iff_not Bool.not_not xI vH wP vm sB fp bO dh cM wu gA ev ofConst dI Env.aG Env.get kO sS eO gE SK.isNil xk nB gw df SK.cut SK.jh SK.fresh oM sN qW aZ ib dY oneOf aH bL fH dL pb eD TK.agg AV.cells AV.known AV.one C7 List.set_cons_zero List.set_cons_succ ao iT forall_const implies_true exists_eq_left exists_eq_left' exists_eq_right exists_eq aa.Sub.refl and_self Int.toNat_natCast dP List.length_map true_and and_true decide_true decide_false if_true if_false Bool.false_eq_true Bool.true_eq_false List.getElem?_cons_zero List.getElem?_cons_succ List.length_cons List.length_nil List.drop_zero List.drop_succ_cons List.take_succ_cons List.take_zero List.drop_nil List.take_nil List.append_nil List.map_cons List.map_nil List.cons_append List.nil_append beq_self_eq_true Bool.false_beq Bool.true_beq Bool.not_true Bool.not_false Option.map_some Option.map_none Option.bind_some ne_eq not_false_eq_true List.contains_cons List.contains_nil Bool.or_false Bool.or_true Bool.and_true Bool.and_false Bool.true_and Bool.false_and List.all_cons List.all_nil Nat.one_ne_zero Nat.zero_ne_one Option.isSome_some Option.isSome_none List.getElem?_toArray beq_true beq_false decide_eq_true_eq Int.toNat_zero Int.le_refl Int.natCast_nonneg Nat.zero_add Nat.add_zero or_true true_or false_or or_false jU gd dy
attribute [go_sem ↓] ew bM bu uO q8 uq AP qc pB pT Cm xO Cd yd behind lS tU iK fY fX jK tH gI qd y0 pG kK lA pC pZ mj pY jJ k9 ec sk qu qt uH kV mq sT uv qm
def mr (ρ:Env):List (Nat×Operand)→List (Nat×AV)
 | []=>[]
 |(i,x)::r=>(i,ev ρ x)::mr ρ r
theorem lW (ρ:Env):∀l:List (Nat×Operand),List.map (fun p=>(p.1,ev ρ p.2)) l=mr ρ l
 | []=>rfl
 |(i,x)::r=>by rw[List.map_cons,lW ρ r,mr]
attribute [go_sem ↓] lW
attribute [go_sem] mr ya vU x9
abbrev tD:AV:= .ip (.agg []) 0
theorem R.tD {g:Gh} {o i off:Nat} {v:Value} (h:R g (.ptr o i off) v):R g tD v:=by
 cases h with
 |ptr hb=>exact .ip (base:=_) (vs:=fun _=>undef) rfl rfl (fun i hi=>by simp[AV.cells] at hi) (fun i c hc=>by simp[AV.cells] at hc)
theorem aP {σ:aa} {o c:Nat} {x:Ob} (h:(σ.put o x) c=none):c≠o:=fun e=>by
 simp only[aa.put,e,if_true] at h;cases h
theorem az {o c:Nat} (h:c≠o) (σ:aa) (x y:Ob):(σ.put o x).put c y=(σ.put c y).put o x:=put_comm (Ne.symm h) x y
theorem aq {o c:Nat} (h:c≠o) (σ:aa) (x:Ob):(σ.put o x) c=σ c:=by simp only[aa.put,if_neg h]
theorem an {σ:aa} {c:Nat} {y:Ob} (h:σ c=none):σ.Sub (σ.put c y):=fun p z hz=>by
 simp only[aa.put]
 split
 ·rename_i e;rw[e,h] at hz;cases hz
 ·exact hz
class St (p:Prop) (q:outParam Prop):Prop where
 h:q→p
theorem gS {p q:Prop} [i:St p q] (h:q):p:=i.h h
section
variable {P:Program} {n:Nat} {Q:bk} {ρ:Env} {σ:aa} {K:Env→aa→Prop} {id:Nat} {c:Code}
instance :St (W P n (.block id c) Q ρ σ) (W P n c (bk.inBlock id Q) ρ σ):=⟨s2⟩
instance :St (W P n .ret Q ρ σ) (Q .ret ρ σ):=⟨e1⟩
instance :St (W P n .skip Q ρ σ) (Q .normal ρ σ):=⟨e2⟩
instance :St (W P n (.exit id) Q ρ σ) (Q (.exit id) ρ σ):=⟨e3⟩
instance :St (bk.then K Q .normal ρ σ) (K ρ σ):=⟨e4⟩
instance :St (bk.then K Q .ret ρ σ) (Q .ret ρ σ):=⟨e5⟩
instance :St (bk.then K Q (.exit id) ρ σ) (Q (.exit id) ρ σ):=⟨e6⟩
instance :St (bk.inBlock id Q .normal ρ σ) (Q .normal ρ σ):=⟨e7⟩
instance :St (bk.inBlock id Q .ret ρ σ) (Q .ret ρ σ):=⟨e8⟩
instance :St (bk.inBlock id Q (.exit id) ρ σ) (Q .normal ρ σ):=⟨e9⟩
instance {t:Tag K}:St (bw K t ρ σ) (K ρ σ):=⟨ea⟩
class Rd (p:Prop) (q:outParam Prop):Prop where
 h:q→p
theorem rd {p q:Prop} [i:Rd p q] (h:q):p:=i.h h
instance {ops:Array Oper}:Rd (W P n (.region id ops false) Q ρ σ) (prun P n [] ops ops.toList ρ σ (bw (fun ρ' σ'=>Q .normal ρ' σ') .mk)):=⟨s3⟩
instance {mu:List Nat} {ops:Array Oper} {l:List Oper}:Rd (prun P n mu ops l ρ σ K) (prun P n mu ops l ρ σ K):=⟨yQ⟩
instance {mu:List Nat} {cl:Cl} {nu:Nat→Nat} {ops:Array Oper} {l:List Oper} {i:Nat}:Rd (dK P n mu cl nu ops l i ρ σ K) (dK P n mu cl nu ops l i ρ σ K):=⟨zC⟩
instance {rl:List ResultVar} {K:KK}:Rd (gJ P rl K .ret ρ σ) (dZ P ρ σ rl fun vs=>K (eO vs) σ):=⟨s5⟩
instance {rl:List ResultVar} {K:KK}:Rd (gJ P rl K .normal ρ σ) (dZ P ρ σ rl fun vs=>K (eO vs) σ):=⟨s6⟩
instance {p:Prop} {t:Tag p}:Rd (bw p t) p:=⟨s7⟩
class Mx (P:Program):Prop where
 h:P.follows .mixedOrders=true
theorem ry [i:Mx P] (mu:List Nat) (cl:Cl) {ops:Array Oper} (h:∀nu:Nat→Nat,(∀i,i∈cl.al++cl.ap→σ (nu i)=none)→(∀i j,i∈cl.al++cl.ap→j∈cl.al++cl.ap→nu i=nu j→i=j)→dK P n mu cl nu ops ops.toList 0 ρ σ (bw (fun ρ' σ'=>Q .normal ρ' σ') .mk)) (hok:uo cl ops=true:=by kernel_rfl):W P n (.region id ops true) Q ρ σ:=qv mu cl i.h hok h
end
class Bc (b:Bool) (c d:outParam Prop):Prop where
 t:b=true→c
 f:b=false→d
 t':c→b=true
 f':d→b=false
instance :Bc true True False:=⟨fun _=>trivial,nofun,fun _=>rfl,nofun⟩
instance :Bc false False True:=⟨nofun,fun _=>trivial,nofun,fun _=>rfl⟩
instance (priority:=low) {b:Bool}:Bc b (b=true) (b=false):=⟨id,id,id,id⟩
instance {p:Prop} [Decidable p]:Bc (decide p) p (¬p):=⟨of_decide_eq_true,of_decide_eq_false,decide_eq_true,decide_eq_false⟩
instance {b:Bool} {c d:Prop} [i:Bc b c d]:Bc (!b) d c:=⟨fun h=>i.f (by simpa using h),fun h=>i.t (by simpa using h),fun h=>by simpa using i.f' h,fun h=>by simpa using i.t' h⟩
section
variable {P:Program} {n:Nat} {Q:bk} {ρ:Env} {σ:aa} {b:Bool} {c d:Prop}
theorem wT [i:Bc b c d] {o:Operand} {x y:Code} (hb:ev ρ o= .bool b) (h:W P n x Q ρ σ) (hc:c:=by first|exact True.intro|assumption|omega):W P n (.cond o x y) Q ρ σ:=jR hb (fun _=>h) (fun e=>by rw[i.t' hc] at e;cases e)
theorem wF [i:Bc b c d] {o:Operand} {x y:Code} (hb:ev ρ o= .bool b) (h:W P n y Q ρ σ) (hc:d:=by first|exact True.intro|assumption|omega):W P n (.cond o x y) Q ρ σ:=jR hb (fun e=>by rw[i.f' hc] at e;cases e) (fun _=>h)
theorem wC [i:Bc b c d] {o:Operand} {x y:Code} (hb:ev ρ o= .bool b) (ht:c→W P n x Q ρ σ) (hf:d→W P n y Q ρ σ):W P n (.cond o x y) Q ρ σ:=jR hb (fun e=>ht (i.t e)) (fun e=>hf (i.f e))
end
class Sp (p:Prop) (c A d B:outParam Prop):Prop where
 h:(c→A)→(d→B)→p
 t:c→A→p
 f:d→B→p
section
variable {A B:Prop}
instance (priority:=low) {c:Prop} [Decidable c]:Sp (ite c A B) c A (¬c) B:=⟨gp,fun h k=>by rw[if_pos h];exact k,fun h k=>by rw[if_neg h];exact k⟩
instance {c:Prop} [Decidable (¬c)]:Sp (ite (¬c) A B) (¬c) A c B:=⟨gn,fun h k=>by rw[if_pos h];exact k,fun h k=>by rw[if_neg (fun e=>e h)];exact k⟩
instance {b:Bool}:Sp (ite (b=true) A B) (b=true) A (b=false) B:=⟨gb,fun h k=>by rw[if_pos h];exact k,fun h k=>by rw[if_neg (by rw[h];decide)];exact k⟩
instance {b:Bool}:Sp (ite (b=false) A B) (b=false) A (b=true) B:=⟨gf,fun h k=>by rw[if_pos h];exact k,fun h k=>by rw[if_neg (by rw[h];decide)];exact k⟩
end
theorem gT {p c A d B:Prop} [i:Sp p c A d B] (h:A) (hc:c:=by first|assumption|omega):p:=i.t hc h
theorem gF {p c A d B:Prop} [i:Sp p c A d B] (h:B) (hc:d:=by first|assumption|omega):p:=i.f hc h
class Us (p:Prop) (P:outParam Program) (f:outParam FuncId) (args:outParam (List AV)) (q:outParam (AV→Prop)):Prop where
 h:∀v,Pure P f args v→q v→p
class Uw (p:Prop) (P:outParam Program) (f:outParam FuncId) (args:outParam (List AV)) (σ:outParam aa) (q:outParam (AV→aa→Prop)):Prop where
 h:∀v τ,af P f args σ (fun r s'=>r=v∧s'=τ)→q v τ→p
section
variable {P:Program} {f:FuncId} {args:List AV} {v:AV} {σ τ:aa}
instance {k:KK} {t:Tag k}:Us (af P f args σ (bw k t)) P f args (fun v=>k v σ):=⟨fun _=>cu⟩
instance {k:AV→Prop}:Us (∃v,(∀s,af P f args s (bw (fun r s'=>r=v∧s'=s) .mk))∧k v) P f args k:=⟨fun _=>cv⟩
instance {k:AV→Prop}:Us (∃v,af P f args σ (bw (fun r s'=>r=v∧s'=σ) .mk)∧k v) P f args k:=⟨fun _=>cx⟩
instance {k:KK} {t:Tag k}:Uw (af P f args σ (bw k t)) P f args σ k:=⟨fun _ _=>cy⟩
instance {k:AV→aa→Prop}:Uw (∃v τ,af P f args σ (bw (fun r s'=>r=v∧s'=τ) .mk)∧k v τ) P f args σ k:=⟨fun _ _=>cz⟩
theorem us {p:Prop} {q:AV→Prop} [i:Us p P f args q] (h:Pure P f args v) (k:q v):p:=i.h v h k
theorem uw {p:Prop} {q:AV→aa→Prop} [i:Uw p P f args σ q] (h:af P f args σ (fun r s'=>r=v∧s'=τ)) (k:q v τ):p:=i.h v τ h k
end
attribute [go_sem] Nat.reduceLT Nat.reduceLeDiff Nat.reduceEqDiff Nat.reduceAdd Nat.reduceMul Int.reduceNeg Nat.reduceBEq reduceCtorEq
attribute [go_sem ↓] reduceIte
end Go.Kern

namespace Go.Kern
open Go.RowKit Go.MapKept
theorem ay.yf {g:Gh} {w w':World} {s:aa} (h:ay g w s) (hb:Below w.heap.size w w') {b:Nat} (hge:w.heap.size≤b) (cs:Array Value) (m:Nat)
  (hc:∀o v,o<m→cs[o]? =some v→w'.cell? ⟨b,o,none⟩=some v):g.Le (g.bp b cs m)∧ay (g.bp b cs m) w' s:=by
 have h':=h.grow hb
 have hle:g.Le (g.bp b cs m):=⟨rfl,fun b' o v hi=>by
  have:=h.nh hi
  simp only[Gh.bp]
  rw[if_neg (by omega)];exact hi,fun _ _ h=>h,fun _ _ _ h=>h,rfl⟩
 refine⟨hle,h'.below,fun b' o v hi=>?_,h'.loc,h'.fresh,h'.res,?_⟩
 ·simp only[Gh.bp] at hi
  split at hi
  ·rename_i e
   subst e
   split at hi
   ·exact hc o v (by assumption) hi
   ·cases hi
  ·exact h'.bf b' o v hi
 ·obtain⟨blk0,h10,h20⟩:=h.obj
  refine⟨blk0,fun o x hx=>⟨(h10 o x hx).1,?_⟩,h20⟩
  have hlt:=(h10 o x hx).2.lt
  exact(h10 o x hx).2.iy hle (hb.block _ hlt) (fun off=>by simp only[Gh.bp];rw[if_neg (by omega)]) (fun _=>rfl)
theorem Cf {g:Gh} {a:AV} {vs:Array Value} (hl:[a].length=vs.size) (hr:∀ (i:Nat) (c:AV) (v:Value),[a][i]? =some c→vs[i]? =some v→R g c v):∃u,vs= #[u]∧R g a u:=by
 obtain⟨l⟩:=vs
 match l,hl with
 | [u],_=>exact⟨u,rfl,hr 0 _ _ rfl rfl⟩
theorem AO {g:Gh} {w:World} {σ:aa} (hc:ay g w σ) {r:Nat} {T:TypeId} {x:AV} (hr:σ r=some (.arr T [x])) (h1:x.cells=[x]) {b sz n:Nat} (hb:g.loc r=some (b,sz,n)):∃v,w.cell? ⟨b,0,none⟩=some v∧R g x v∧b<w.heap.size:=by
 obtain⟨blk,h2,_⟩:=hc.obj
 obtain⟨sz',cells,⟨n',hl,hcs⟩,hh,hrow,hle,hcell,_⟩:=(h2 r _ hr).2
 rw[hb] at hl
 injection hl with hl
 injection hl with e1 e2
 injection e2 with e2 e3
 subst e1;subst e2;subst e3
 have hsz:sz=1:=by have:=hrow x (by simp);rw[h1] at this;simpa using this.symm
 subst hsz
 have hlt:0<cells.size:=by simp at hle;omega
 refine⟨cells[0],by simp[World.cell?,hh,hlt],hcell 0 x _ (by simp[ar,h1]) (Array.getElem?_eq_getElem hlt),(Array.getElem?_eq_some_iff.1 hh).1⟩
end Go.Kern

namespace Go.Kern
open Go.RowKit Go.MapKept
def tu (x y:Int):Bool:=decide (x≤y)
def eE (l:List Int):List Int:=l.mergeSort tu
def nd (x:MapEntry):Int:=
 match x.key with
 | .int _ n=>n
 |_=>0
theorem jD (l:List Int):(eE l).Perm l:=List.mergeSort_perm l tu
theorem nV {l m:List Int} (h:l.Perm m):eE l=eE m:=by
 have tr:∀a b c:Int,tu a b=true→tu b c=true→tu a c=true:=fun a b c h1 h2=>by simp only[tu,decide_eq_true_eq] at*;omega
 have tt:∀a b:Int,(tu a b||tu b a)=true:=fun a b=>by simp only[tu,Bool.or_eq_true,decide_eq_true_eq];omega
 refine List.Perm.eq_of_pairwise (le:=fun a b=>tu a b=true) (fun a b _ _ h1 h2=>?_) (List.pairwise_mergeSort tr tt l) (List.pairwise_mergeSort tr tt m) (((List.mergeSort_perm l tu).trans h).trans (List.mergeSort_perm m tu).symm)
 simp only[tu,decide_eq_true_eq] at h1 h2
 omega
structure po (P:Program) (f g:FuncId) (T:TypeId):Prop where
 fn:∃fn,P.funcs[f]? =some fn∧(fn.name== "runtime.NumGoroutine")=false∧fn.body.isNone=false
 sm:∀ (Bm b:Nat) (es:Array MapEntry) (clock:Nat) (w:World),Bm<w.heap.size→w.cell? ⟨Bm,0,none⟩=some (.map (some b))→w.heap[b]? =some (.map es clock)→Stamped es clock→(∀x,x∈es.toList→∃n:Int,x.key= .int .i64 n∧(Lit.int .i64 n).wf=true)→es.size≤maxLen→es.size*8≤140737488355328→
  Calls P f #[.func (.func g) #[] #[.pointer (some ⟨Bm,0,none⟩)]] w fun e w'=>∃ (v:Value) (ss:List Int),e= .returned v∧ss.Perm (es.toList.map nd)∧w'.ownsRow w.heap.size T 1 v ss.length ((ss.mergeSort tu).map (Value.int .i64))∧(v= .slice none 0 0↔ss=[])∧Below w.heap.size w w'
 nl:∀ (Bm:Nat) (w:World),Bm<w.heap.size→w.cell? ⟨Bm,0,none⟩=some (.map none)→
  Calls P f #[.func (.func g) #[] #[.pointer (some ⟨Bm,0,none⟩)]] w fun e w'=>e= .returned (.slice none 0 0)∧Below w.heap.size w w'
def B3 (l:List Int):SK:=if l=[] then .nil else .bf
theorem jP:∀l:List Int,ar (l.map (AV.int .i64))=l.map (AV.int .i64)
  | []=>rfl
  | x::l=>by
    have ih:=jP l
    simp only[List.map_cons,ar,List.flatMap_cons,AV.cells] at ih ⊢
    rw[ih];rfl
theorem pF {P:Program} {f g0:FuncId} {T TB:TypeId} (J:po P f g0 T) {σ:aa} {r o:Nat} {l:List (Int×AV)} (hr:σ r=some (.arr TB [.map o])) (ho:σ o=some (.map (l.map fun p=>(.int .i64 p.1,p.2)))) (hlen:l.length≤1000000) (hsz:∀p,p∈l→ -1000000≤p.1∧p.1≤1000000):
    af P f [.fn g0 [.ptr r 0 0]] σ (fun v s=>v= .sl (B3 (l.map (·.1))) ((eE (l.map (·.1))).map (AV.int .i64))∧s=σ):=by
  refine⟨J.fn,fun g w vs hl hrr hc=>?_⟩
  obtain⟨u,rfl,hu⟩:=Cf hl hrr
  cases hu with
  | fn hl2 h2=>
    rename_i us
    obtain⟨ul⟩:=us
    match ul,hl2 with
    | [p],_=>
      have hp:=h2 0 _ p rfl rfl
      cases hp with
      | ptr hb=>
        rename_i br sz n hl3
        rw[show 0*sz+0=0 by omega]
        obtain⟨v,hv,hvr,hlt⟩:=AO hc hr rfl hb
        cases hvr with
        | map hob=>
          rename_i b
          obtain⟨en,ck,hh,hre,bg⟩:=pW hc ho hob
          have hlen2:l.length=en.size:=by have:=hre.1;simpa using this
          have hkeys:∀ (i:Nat) (x:MapEntry),en.toList[i]? =some x→∃p,l[i]? =some p∧x.key= .int .i64 p.1:=fun i x hx=>by
            have hi:i<l.length:=by rw[hlen2];have:=(List.getElem?_eq_some_iff.1 hx).1;simpa using this
            have h3:=(hre.2 i (.int .i64 l[i].1,l[i].2) x (by rw[List.getElem?_map,List.getElem?_eq_getElem hi];rfl) hx).1
            refine⟨l[i],List.getElem?_eq_getElem hi,?_⟩
            generalize x.key=kk at h3
            cases h3;rfl
          have hmem:∀x,x∈en.toList→∃p,p∈l∧x.key= .int .i64 p.1:=fun x hx=>by
            obtain⟨i,hi,he⟩:=List.getElem_of_mem hx
            obtain⟨p,h3,h4⟩:=hkeys i x (by rw[List.getElem?_eq_getElem hi,he])
            exact⟨p,List.mem_of_getElem? h3,h4⟩
          have hkb:en.toList.map nd=l.map (·.1):=by
            apply List.ext_getElem?
            intro i
            simp only[List.getElem?_map]
            cases hx:en.toList[i]? with
            | none=>
              have:l[i]? =none:=by rw[List.getElem?_eq_none_iff] at hx ⊢;simp at hx;omega
              simp[this]
            | some x=>
              obtain⟨p,h3,h4⟩:=hkeys i x hx
              simp[h3,nd,h4]
          have hcall:=J.sm br b en ck w hlt hv hh bg (fun x hx=>by
            obtain⟨p,hp,h4⟩:=hmem x hx
            exact⟨p.1,h4,by have:=hsz p hp;simp[Lit.wf,IntKind.min,IntKind.max,IntKind.signed,IntKind.bits];omega⟩) (by unfold maxLen;omega) (by omega)
          refine hcall.mono ?_
          rintro e w' ⟨v,ss,rfl,hp,⟨hrl,hrow⟩,hnil,hbel⟩
          rw[hkb] at hp
          have hso:ss.mergeSort tu=eE (l.map (·.1)):=nV hp
          rw[hso] at hrl hrow
          have hls:ss.length=(eE (l.map (·.1))).length:=by have:=congrArg List.length hso;simpa using this
          rcases hrow with ⟨rfl,h0⟩|⟨gb,cap,cur,rfl,hge,hgb,hn,hcap,hcs,htk⟩
          · have hss:ss=[]:=hnil.1 rfl
            have:eE (l.map (·.1))=[]:=List.eq_nil_of_length_eq_zero (by rw[←hls,hss];rfl)
            have h9:l.map (·.1)=[]:=by have h8:=(jD (l.map (·.1))).length_eq;rw[this] at h8;exact List.eq_nil_of_length_eq_zero h8.symm
            exact⟨_,rfl,g,_,σ,.refl g,hc.grow hbel,.slnil,by rw[h9];simp[eE,B3],rfl⟩
          · obtain⟨hle,hc2⟩:=hc.yf hbel hge cur ss.length (fun o v ho hv=>by simp[World.cell?,hgb,hv])
            have h9:¬l.map (·.1)=[]:=fun e=>by
              rw[e] at hls
              have h8:ss=[]:=List.eq_nil_of_length_eq_zero (by rw[hls];simp[eE])
              have:=hnil.2 h8
              cases this
            refine⟨_,rfl,_,_,σ,hle,hc2,?_,by rw[B3,if_neg h9],rfl⟩
            rw[hls]
            have hcell:∀i,i<(eE (l.map (·.1))).length→cur[i]? =some (Value.int .i64 ((eE (l.map (·.1))).getD i 0)):=fun i hi=>by
              have e1:(cur.toList.take (ss.length*1))[i]? =cur[i]? :=by
                rw[List.getElem?_take,if_pos (by omega),Array.getElem?_toList]
              rw[←e1,htk,List.getElem?_map,List.getElem?_eq_getElem hi]
              simp[List.getD_eq_getElem?_getD,hi]
            have:=R.sl (g:=g.bp gb cur ss.length) (k:= .bf) (xs:=(eE (l.map (·.1))).map (AV.int .i64)) (a:=⟨gb,0,none⟩) (cap:=cap) (sz:=1) (vs:=fun i=>Value.int .i64 ((eE (l.map (·.1))).getD i 0)) (by simp only[su,List.length_map];omega) (fun _=>rfl) (fun x hx=>by obtain⟨s,_,rfl⟩:=List.mem_map.1 hx;rfl) (fun i hi=>by
                rw[jP,List.length_map] at hi
                simp only[Gh.bp,if_pos,Nat.zero_add]
                rw[if_pos (by omega)]
                exact hcell i hi) (fun i c hc=>by
                rw[jP,List.getElem?_map] at hc
                obtain⟨s,hs,rfl⟩:=Option.map_eq_some_iff.1 hc
                rw[List.getD_eq_getElem?_getD,hs]
                exact .int .i64 s)
            simp only[List.length_map,hls] at this
            exact this
end Go.Kern

namespace Go.Proofs.YtgfjihpbphplhaaGreat
open Go.Kern
structure Rk where
 c:Nat
 kd:SK
 l:List Nat
 hl:l.length<1000000
def A1:Rk:=⟨0,.nil,[],by decide⟩
def pM (r:Rk):Wk:=(r.c,r.l)
structure Th where
 k:Int
 r:Rk
 w:Int
def av:Th:=⟨0,A1,0⟩
abbrev EM:=List (Int×Nat)
def cm (k:Int) (i:Nat):EM→EM
 | []=>[(k,i)]
 |e::r=>if k=e.1 then(k,i)::r else e::cm k i r
def fJ (k:Int):EM→EM
 | []=>[]
 |e::r=>if k=e.1 then r else e::fJ k r
def bP (k:Int):EM→Option Nat
 | []=>none
 |e::r=>if k=e.1 then some e.2 else bP k r
def ahead (lt:Rk→Rk→Bool) (x y:Th):Bool:=lt x.r y.r||(!lt y.r x.r&&decide (x.w<y.w))
def child (lt:Rk→Rk→Bool) (n:Nat) (ls:List Th) (i:Nat):Nat:=if 2*i+2<n∧ahead lt (ls.getD (2*i+2) av) (ls.getD (2*i+1) av)=true then 2*i+2 else 2*i+1
def ey (ρ:Rk→Wk) (lt:Rk→Rk→Bool):Prop:=∀a b,lt a b=true↔cF (ρ a) (ρ b)
def lex (ρ:Rk→Wk) (x y:Th):Prop:=cF (ρ x.r) (ρ y.r)∨(ρ x.r=ρ y.r∧x.w<y.w)
theorem mn {ρ:Rk→Wk} (x:Th):¬lex ρ x x:=by
 rintro(h|⟨_,h⟩)
 ·exact cF.irrefl _ h
 ·omega
section
variable {ρ:Rk→Wk} {lt:Rk→Rk→Bool} (hr:ey ρ lt)
include hr
theorem gP {x y:Th}:ahead lt x y=true↔lex ρ x y:=by
 have h1:=hr x.r y.r
 have h2:=hr y.r x.r
 simp only[ahead,Bool.or_eq_true,Bool.and_eq_true,Bool.not_eq_true',decide_eq_true_eq,lex,h1]
 constructor
 ·rintro(h|⟨h3,h4⟩)
  ·exact .inl h
  ·rcases cF.Aa (ρ x.r) (ρ y.r) with g|g|g
   ·exact .inl g
   ·exact .inr ⟨g,h4⟩
   ·rw[h2.2 g] at h3;cases h3
 ·rintro(h|⟨h3,h4⟩)
  ·exact .inl h
  ·refine .inr ⟨?_,h4⟩
   cases h5:lt y.r x.r with
   |false=>rfl
   |true=>rw[h2,h3] at h5;exact absurd h5 (cF.irrefl _)
theorem uR {x y:Th}:ahead lt x y=false↔¬lex ρ x y:=by
 rw[←gP hr]
 cases ahead lt x y<;>simp
end
theorem tl {ρ:Rk→Wk} {x y z:Th} (h1:lex ρ x y) (h2:lex ρ y z):lex ρ x z:=by
 rcases h1 with h1|⟨e1,h1⟩<;>rcases h2 with h2|⟨e2,h2⟩
 ·exact .inl (h1.trans h2)
 ·exact .inl (e2▸h1)
 ·exact .inl (e1▸h2)
 ·exact .inr ⟨e1.trans e2,by omega⟩
theorem tm {ρ:Rk→Wk} {x y:Th} (h:lex ρ x y):¬lex ρ y x:=fun h2=>mn x (tl h h2)
theorem eZ {ρ:Rk→Wk} {x y z:Th} (h1:¬lex ρ y x) (h2:¬lex ρ z y):¬lex ρ z x:=by
 intro h3
 rcases cF.Aa (ρ x.r) (ρ y.r) with g|g|g
 ·exact h2 (tl h3 (.inl g))
 ·by_cases hw:x.w<y.w
  ·exact h2 (tl h3 (.inr ⟨g,hw⟩))
  ·by_cases hw2:y.w<x.w
   ·exact h1 (.inr ⟨g.symm,hw2⟩)
   ·rcases h3 with h3|⟨e3,h3⟩
    ·exact h2 (.inl (g▸h3))
    ·exact h2 (.inr ⟨e3.trans g,by omega⟩)
 ·exact h1 (.inl g)
end Go.Proofs.YtgfjihpbphplhaaGreat

namespace Go.Proofs.YtgfjihpbphplhaaGreat
theorem hO {ls:List Th} {i:Nat} (h:i<ls.length) (x:Th) (j:Nat):(ls.set i x).getD j av=if j=i then x else ls.getD j av:=by
 simp only[List.getD_eq_getElem?_getD,List.getElem?_set]
 by_cases e:i=j
 ·subst e;simp[h]
 ·rw[if_neg e,if_neg (fun q=>e q.symm)]
def UK (em:EM):Prop:=em.Pairwise fun a b=>a.1≠b.1
theorem bH (k k':Int) (i:Nat):∀em:EM,bP k (cm k' i em)=if k=k' then some i else bP k em
  | []=>by simp only[cm,bP]
  | e::r=>by
    have ih:=bH k k' i r
    simp only[cm]
    split
    · rename_i q
      subst q
      simp only[bP]
      split<;>rfl
    · rename_i q
      simp only[bP,ih]
      by_cases h1:k=e.1
      · have:¬k=k':=fun h=>q (h▸h1▸rfl)
        rw[if_pos h1,if_neg this,if_pos h1]
      · rw[if_neg h1,if_neg h1]
theorem rv {k:Int} {i:Nat}:∀{em:EM} {p:Int×Nat},p∈cm k i em→p.1=k∨p∈em
  | [],p,h=>by simp[cm] at h;exact .inl (by rw[h])
  | e::r,p,h=>by
    simp only[cm] at h
    split at h
    · rcases List.mem_cons.1 h with h|h
      · exact .inl (by rw[h])
      · exact .inr (List.mem_cons_of_mem _ h)
    · rcases List.mem_cons.1 h with h|h
      · exact .inr (by rw[h];exact List.mem_cons_self)
      · rcases rv h with h|h
        · exact .inl h
        · exact .inr (List.mem_cons_of_mem _ h)
theorem gQ (k:Int) (i:Nat):∀{em:EM},UK em→UK (cm k i em)
  | [],_=>by simp[cm,UK]
  | e::r,h=>by
    have h':=List.pairwise_cons.1 h
    have ih:=gQ k i h'.2
    simp only[cm]
    split
    · rename_i q
      refine List.pairwise_cons.2 ⟨fun b hb=>?_,h'.2⟩
      rw[q];exact h'.1 b hb
    · rename_i q
      refine List.pairwise_cons.2 ⟨fun b hb=>?_,ih⟩
      rcases rv hb with h1|h1
      · rw[h1];exact fun e=>q e.symm
      · exact h'.1 b h1
theorem ny {k:Int}:∀{em:EM},(∀p,p∈em→p.1≠k)→bP k em=none
  | [],_=>rfl
  | e::r,h=>by
    rw[bP,if_neg (fun q=>h e List.mem_cons_self q.symm)]
    exact ny fun p hp=>h p (List.mem_cons_of_mem _ hp)
theorem pk {k:Int}:∀{em:EM} {p:Int×Nat},p∈fJ k em→p∈em
  | [],p,h=>by simp[fJ] at h
  | e::r,p,h=>by
    simp only[fJ] at h
    split at h
    · exact List.mem_cons_of_mem _ h
    · rcases List.mem_cons.1 h with h|h
      · rw[h];exact List.mem_cons_self
      · exact List.mem_cons_of_mem _ (pk h)
theorem qw (k:Int):∀{em:EM},UK em→UK (fJ k em)
  | [],_=>by simp[fJ,UK]
  | e::r,h=>by
    have h':=List.pairwise_cons.1 h
    simp only[fJ]
    split
    · exact h'.2
    · exact List.pairwise_cons.2 ⟨fun b hb=>h'.1 b (pk hb),qw k h'.2⟩
theorem fE (k k':Int):∀{em:EM},UK em→bP k (fJ k' em)=if k=k' then none else bP k em
  | [],_=>by simp[fJ,bP]
  | e::r,h=>by
    have h':=List.pairwise_cons.1 h
    have ih:=fE k k' h'.2
    simp only[fJ]
    split
    · rename_i q
      by_cases h1:k=k'
      · rw[if_pos h1]
        exact ny fun p hp e=>h'.1 p hp (by rw[e,h1,q])
      · rw[if_neg h1,bP,if_neg (fun e=>h1 (by rw[e,q]))]
    · rename_i q
      simp only[bP,ih]
      by_cases h1:k=e.1
      · rw[if_pos h1,if_pos h1,if_neg (fun e=>q (by rw[←e,h1]))]
      · rw[if_neg h1,if_neg h1]
structure yx (c:List Th) (n:Nat) (ls:List Th) (em:EM) (i:Nat) (x:Th):Prop where
 bi:i<n
 len:n≤ls.length
 big:ls.length<1000000
 cnt:n=c.length
 mem:∀j,j<n→(ls.set i x).getD j av∈c
 sur:∀t,t∈c→∃j,j<n∧(ls.set i x).getD j av=t
 at_:∀j,j<n→j≠i→bP (ls.getD j av).k em=some j
 no:∀k,(∀t,t∈c→t.k≠k)→bP k em=none
 one:∀j,j<n→j≠i→(ls.getD j av).k≠x.k
 uk:UK em
theorem yx.move {c:List Th} {n:Nat} {ls:List Th} {em:EM} {i:Nat} {x:Th} (h:yx c n ls em i x) {p:Nat} (hp:p<n) (hne:p≠i):yx c n (ls.set i (ls.getD p av)) (cm (ls.getD p av).k i em) p x:=by
 obtain⟨bi,len,big,cnt,mem,sur,at_,no,one,uk⟩:=h
 have hi:i<ls.length:=by omega
 have hpl:p<ls.length:=by omega
 have g1:=fun j=>hO hi x j
 have g2:=fun j=>hO hi (ls.getD p av) j
 have g3:∀j,((ls.set i (ls.getD p av)).set p x).getD j av=if j=p then x else if j=i then ls.getD p av else ls.getD j av:=fun j=>by
  rw[hO (by rw[List.length_set];exact hpl),g2]
 have hy:ls.getD p av∈c:=by have:=mem p hp;rwa [g1,if_neg hne] at this
 refine⟨hp,by rw[List.length_set];exact len,by rw[List.length_set];exact big,cnt,fun j hj=>?_,fun t ht=>?_,fun j hj hjp=>?_,fun k hk=>?_,fun j hj hjp=>?_,gQ _ _ uk⟩
 ·rw[g3]
  by_cases e1:j=p
  ·rw[if_pos e1];have:=mem i bi;rwa [g1,if_pos rfl] at this
  ·rw[if_neg e1]
   by_cases e2:j=i
   ·rw[if_pos e2];exact hy
   ·rw[if_neg e2];have:=mem j hj;rwa [g1,if_neg e2] at this
 ·obtain⟨j,hj,e⟩:=sur t ht
  rw[g1] at e
  by_cases e1:j=i
  ·rw[if_pos e1] at e;exact⟨p,hp,by rw[g3,if_pos rfl];exact e⟩
  ·rw[if_neg e1] at e
   by_cases e2:j=p
   ·subst e2;exact⟨i,bi,by rw[g3,if_neg (fun q=>hne q.symm),if_pos rfl];exact e⟩
   ·exact⟨j,hj,by rw[g3,if_neg e2,if_neg e1];exact e⟩
 ·rw[g2,bH]
  by_cases e1:j=i
  ·rw[if_pos e1,if_pos rfl,e1]
  ·rw[if_neg e1]
   have:=at_ j hj e1
   rw[if_neg (fun q=>?_)]
   ·exact this
   ·rw[q,at_ p hp hne] at this
    injection this with this
    exact hjp this.symm
 ·rw[bH,if_neg (fun q=>hk _ hy q.symm)]
  exact no k hk
 ·rw[g2]
  by_cases e1:j=i
  ·rw[if_pos e1];exact one p hp hne
  ·rw[if_neg e1];exact one j hj e1
structure v7 (ρ:Rk→Wk) (c:List Th) (n:Nat) (x:Th) (ls:List Th) (em:EM) (i:Nat):Prop where
 hole:yx c n ls em i x
 A:∀j,0<j→j<n→j≠i→(j-1)/2≠i→¬lex ρ (ls.getD j av) (ls.getD ((j-1)/2) av)
 B:∀j,0<j→j<n→(j-1)/2=i→0<i→¬lex ρ (ls.getD j av) (ls.getD ((i-1)/2) av)
theorem v7.step {ρ:Rk→Wk} {c:List Th} {n:Nat} {x:Th} {ls:List Th} {em:EM} {i:Nat} (h:v7 ρ c n x ls em i) (hi:0<i) (hx:lex ρ x (ls.getD ((i-1)/2) av)):
  v7 ρ c n x (ls.set i (ls.getD ((i-1)/2) av)) (cm (ls.getD ((i-1)/2) av).k i em) ((i-1)/2):=by
 obtain⟨ho,A,B⟩:=h
 have bi:=ho.bi
 have hl:=ho.len
 have g2:=fun j=>hO (show i<ls.length by omega) (ls.getD ((i-1)/2) av) j
 refine⟨ho.move (by omega) (by omega),fun j hj hjn hjp hpp=>?_,fun j hj hjn hjp hp0=>?_⟩
 ·rw[g2,g2]
  by_cases e1:j=i
  ·exact absurd (by rw[e1]) hpp
  ·rw[if_neg e1]
   by_cases e2:(j-1)/2=i
   ·rw[if_pos e2];exact B j hj hjn e2 hi
   ·rw[if_neg e2];exact A j hj hjn e1 e2
 ·have hA:¬lex ρ (ls.getD ((i-1)/2) av) (ls.getD (((i-1)/2-1)/2) av):=A ((i-1)/2) hp0 (by omega) (by omega) (by omega)
  rw[g2,g2,if_neg (show ¬ ((i-1)/2-1)/2=i by omega)]
  by_cases e1:j=i
  ·rw[if_pos e1];exact hA
  ·rw[if_neg e1]
   have:=A j hj hjn e1 (by omega)
   rw[hjp] at this
   exact eZ hA this
structure hC (ρ:Rk→Wk) (c:List Th) (n:Nat) (x:Th) (ls:List Th) (em:EM) (i:Nat):Prop where
 hole:yx c n ls em i x
 C:∀j,0<j→j<n→(j-1)/2≠i→¬lex ρ ((ls.set i x).getD j av) ((ls.set i x).getD ((j-1)/2) av)
 B:∀j,0<j→j<n→(j-1)/2=i→0<i→¬lex ρ (ls.getD j av) (ls.getD ((i-1)/2) av)
theorem v7.CO {ρ:Rk→Wk} {c:List Th} {n:Nat} {x:Th} {ls:List Th} {em:EM} {i:Nat} (h:v7 ρ c n x ls em i) (hx:i=0∨¬lex ρ x (ls.getD ((i-1)/2) av)):
  hC ρ c n x (ls.set i x) (cm x.k i em) i:=by
 obtain⟨ho,A,B⟩:=h
 have bi:=ho.bi
 have hl:=ho.len
 have g1:=fun j=>hO (show i<ls.length by omega) x j
 have hss:(ls.set i x).set i x=ls.set i x:=by rw[List.set_set]
 have hxc:x∈c:=by have:=ho.mem i bi;rwa [g1,if_pos rfl] at this
 refine⟨⟨bi,by rw[List.length_set];exact hl,by rw[List.length_set];exact ho.big,ho.cnt,fun j hj=>by rw[hss];exact ho.mem j hj,fun t ht=>by rw[hss];exact ho.sur t ht,fun j hj hji=>?_,fun k hk=>?_,fun j hj hji=>by rw[g1,if_neg hji];exact ho.one j hj hji,gQ _ _ ho.uk⟩,fun j hj hjn hjp=>?_,fun j hj hjn hjp hi=>?_⟩
 ·rw[g1,if_neg hji,bH]
  split
  ·rename_i q;exact absurd q (ho.one j hj hji)
  ·exact ho.at_ j hj hji
 ·rw[bH,if_neg (fun q=>hk _ hxc q.symm)];exact ho.no k hk
 ·rw[hss,g1,g1,if_neg hjp]
  by_cases e1:j=i
  ·rw[if_pos e1,e1]
   rcases hx with h0|h0
   ·omega
   ·exact h0
  ·rw[if_neg e1];exact A j hj hjn e1 hjp
 ·rw[g1,g1,if_neg (by omega),if_neg (by omega)]
  exact B j hj hjn hjp hi
theorem hC.step {ρ:Rk→Wk} {lt:Rk→Rk→Bool} (hr:ey ρ lt) {c:List Th} {n:Nat} {x:Th} {ls:List Th} {em:EM} {i:Nat} (h:hC ρ c n x ls em i) (hi:2*i+1<n) (hx:ahead lt (ls.getD (child lt n ls i) av) x=true):
  hC ρ c n x (ls.set i (ls.getD (child lt n ls i) av)) (cm (ls.getD (child lt n ls i) av).k i em) (child lt n ls i):=by
 obtain⟨ho,C,B⟩:=h
 have bi:=ho.bi
 have hl:=ho.len
 obtain⟨k,hk⟩:∃k,k=child lt n ls i:=⟨_,rfl⟩
 have hch:k<n∧(k-1)/2=i∧i<k∧∀j,0<j→j<n→(j-1)/2=i→¬lex ρ (ls.getD j av) (ls.getD k av):=by
  rw[hk,child]
  split
  ·rename_i q
   refine⟨q.1,by omega,by omega,fun j hj hjn hjp=>?_⟩
   have:j=2*i+1∨j=2*i+2:=by omega
   rcases this with rfl|rfl
   ·exact tm ((gP hr).1 q.2)
   ·exact mn _
  ·rename_i q
   refine⟨hi,by omega,by omega,fun j hj hjn hjp=>?_⟩
   have:j=2*i+1∨j=2*i+2:=by omega
   rcases this with rfl|rfl
   ·exact mn _
   ·exact fun h=>q ⟨hjn,(gP hr).2 h⟩
 rw[←hk] at hx ⊢
 obtain⟨kn,kp,ik,kmin⟩:=hch
 have hxl:=(gP hr).1 hx
 have hil:i<ls.length:=by omega
 have hkl:k<ls.length:=by omega
 have g1:=fun j=>hO hil x j
 have g2:=fun j=>hO hil (ls.getD k av) j
 have g3:∀j,((ls.set i (ls.getD k av)).set k x).getD j av=if j=k then x else if j=i then ls.getD k av else ls.getD j av:=fun j=>by
  rw[hO (by rw[List.length_set];exact hkl),g2]
 have C':∀j,0<j→j<n→(j-1)/2≠i→j≠i→¬lex ρ (ls.getD j av) (ls.getD ((j-1)/2) av):=fun j hj hjn h1 h2=>by
  have:=C j hj hjn h1
  rwa [g1,g1,if_neg h2,if_neg h1] at this
 refine⟨ho.move kn (by omega),fun j hj hjn hjp=>?_,fun j hj hjn hjp hk0=>?_⟩
 ·rw[g3,g3,if_neg hjp]
  by_cases e1:j=k
  ·subst e1
   rw[if_pos rfl,if_pos kp]
   exact tm hxl
  ·rw[if_neg e1]
   by_cases e2:j=i
   ·subst e2
    rw[if_pos rfl,if_neg (by omega)]
    exact B k (by omega) kn kp hj
   ·rw[if_neg e2]
    by_cases e3:(j-1)/2=i
    ·rw[if_pos e3];exact kmin j hj hjn e3
    ·rw[if_neg e3];exact C' j hj hjn e3 e2
 ·rw[g2,g2,if_neg (show ¬j=i by omega),kp,if_pos rfl]
  have:=C' j hj hjn (by omega) (by omega)
  rwa [hjp] at this
structure eV (ρ:Rk→Wk) (c:List Th) (n:Nat) (ls:List Th) (em:EM):Prop where
 len:n≤ls.length
 big:ls.length<1000000
 cnt:n=c.length
 mem:∀j,j<n→ls.getD j av∈c
 sur:∀t,t∈c→∃j,j<n∧ls.getD j av=t
 at_:∀j,j<n→bP (ls.getD j av).k em=some j
 no:∀k,(∀t,t∈c→t.k≠k)→bP k em=none
 uk:UK em
 ord:∀j,0<j→j<n→¬lex ρ (ls.getD j av) (ls.getD ((j-1)/2) av)
theorem hC.rest {ρ:Rk→Wk} {lt:Rk→Rk→Bool} (hr:ey ρ lt) {c:List Th} {n:Nat} {x:Th} {ls:List Th} {em:EM} {i:Nat} (h:hC ρ c n x ls em i) (hx:n≤2*i+1∨ahead lt (ls.getD (child lt n ls i) av) x=false):
  eV ρ c n (ls.set i x) (cm x.k i em):=by
 obtain⟨ho,C,B⟩:=h
 have bi:=ho.bi
 have hl:=ho.len
 have g1:=fun j=>hO (show i<ls.length by omega) x j
 have hxc:x∈c:=by have:=ho.mem i bi;rwa [g1,if_pos rfl] at this
 refine⟨by rw[List.length_set];exact hl,by rw[List.length_set];exact ho.big,ho.cnt,ho.mem,ho.sur,fun j hj=>?_,fun k hk=>?_,gQ _ _ ho.uk,fun j hj hjn=>?_⟩
 ·rw[g1,bH]
  by_cases e1:j=i
  ·rw[if_pos e1,if_pos rfl,e1]
  ·rw[if_neg e1,if_neg (ho.one j hj e1)];exact ho.at_ j hj e1
 ·rw[bH,if_neg (fun q=>hk _ hxc q.symm)];exact ho.no k hk
 ·by_cases e1:(j-1)/2=i
  ·rw[g1,g1,if_pos e1,if_neg (by omega)]
   rcases hx with h0|h0
   ·omega
   ·have h1:=(uR hr).1 h0
    have:j=2*i+1∨j=2*i+2:=by omega
    unfold child at h1
    split at h1
    ·rename_i q
     rcases this with rfl|rfl
     ·exact eZ h1 (tm ((gP hr).1 q.2))
     ·exact h1
    ·rename_i q
     rcases this with rfl|rfl
     ·exact h1
     ·exact eZ h1 (fun h=>q ⟨hjn,(gP hr).2 h⟩)
  ·exact C j hj hjn e1
theorem eV.least {ρ:Rk→Wk} {c:List Th} {n:Nat} {ls:List Th} {em:EM} (h:eV ρ c n ls em):∀j,j<n→¬lex ρ (ls.getD j av) (ls.getD 0 av):=by
  intro j
  induction j using Nat.strongRecOn with
  | _ j ih=>
    intro hj
    rcases Nat.eq_zero_or_pos j with e|e
    · subst e;exact mn _
    · exact eZ (ih ((j-1)/2) (by omega) (by omega)) (h.ord j e hj)
end Go.Proofs.YtgfjihpbphplhaaGreat

namespace Go.Proofs.YtgfjihpbphplhaaGreat
def aQ (c:List Th) (k:Int):List Th:=c.filter fun t=> !decide (t.k=k)
theorem bn {c:List Th} {k:Int} {t:Th}:t∈aQ c k↔t∈c∧t.k≠k:=by
 simp[aQ]
theorem jV {c:List Th} {k:Int} (h:∀t,t∈c→t.k≠k):aQ c k=c:=by
 unfold aQ
 rw[List.filter_eq_self]
 intro t ht
 simp[h t ht]
theorem fO {k:Int}:∀{c:List Th},c.Pairwise (fun a b=>a.w<b.w∧a.k≠b.k)→(∃t,t∈c∧t.k=k)→(aQ c k).length+1=c.length
  | [],_,⟨t,ht,_⟩=>by cases ht
  | a::c,hp,⟨t,ht,hk⟩=>by
    have hp':=List.pairwise_cons.1 hp
    by_cases h:a.k=k
    · have:aQ (a::c) k=aQ c k:=by simp[aQ,h]
      rw[this,jV fun u hu e=>(hp'.1 u hu).2 (by rw[h,e])]
      rfl
    · have h1:aQ (a::c) k=a::aQ c k:=by simp[aQ,h]
      have ht':t∈c:=by
        rcases List.mem_cons.1 ht with e|e
        · rw[e] at hk;exact absurd hk h
        · exact e
      have ih:=fO hp'.2 ⟨t,ht',hk⟩
      rw[h1,List.length_cons,List.length_cons,ih]
theorem hY {c:List Th} (h:c.Pairwise fun a b=>a.w<b.w∧a.k≠b.k) (k:Int):(aQ c k).Pairwise fun a b=>a.w<b.w∧a.k≠b.k:=h.filter _
theorem mF {c:List Th} {w:Int} (h:c.Pairwise fun a b=>a.w<b.w∧a.k≠b.k) (ht:∀t,t∈c→t.w≤w) (k:Int) (r:Rk):(aQ c k++[(⟨k,r,w+1⟩:Th)]).Pairwise fun a b=>a.w<b.w∧a.k≠b.k:=by
 rw[List.pairwise_append]
 refine⟨hY h k,List.pairwise_singleton _ _,fun a ha b hb=>?_⟩
 rw[List.mem_singleton] at hb
 subst hb
 have:=bn.1 ha
 exact⟨by have:=ht a this.1;simp only;omega,this.2⟩
theorem eV.kZ {ρ:Rk→Wk} {c:List Th} {n:Nat} {ls:List Th} {em:EM} (h:eV ρ c n ls em) {k:Int} {i:Nat} (hf:bP k em=some i):i<n∧(ls.getD i av).k=k:=by
 by_cases hk:∃t,t∈c∧t.k=k
 ·obtain⟨t,ht,rfl⟩:=hk
  obtain⟨j,hj,rfl⟩:=h.sur t ht
  have:=h.at_ j hj
  rw[hf] at this
  injection this with this
  subst this
  exact⟨hj,rfl⟩
 ·have:=h.no k (fun t ht e=>hk ⟨t,ht,e⟩)
  rw[hf] at this;cases this
theorem eV.uQ {ρ:Rk→Wk} {c:List Th} {n:Nat} {ls:List Th} {em:EM} (h:eV ρ c n ls em) {k:Int} (hf:bP k em=none):∀t,t∈c→t.k≠k:=by
 intro t ht e
 obtain⟨j,hj,rfl⟩:=h.sur t ht
 have:=h.at_ j hj
 rw[e,hf] at this;cases this
theorem eV.other {ρ:Rk→Wk} {c:List Th} {n:Nat} {ls:List Th} {em:EM} (h:eV ρ c n ls em) {i j:Nat} (hi:i<n) (hj:j<n) (hne:j≠i):(ls.getD j av).k≠(ls.getD i av).k:=by
 intro e
 have h1:=h.at_ j hj
 rw[e,h.at_ i hi] at h1
 injection h1 with h1
 exact hne h1.symm
theorem eV.zero (ρ:Rk→Wk):eV ρ [] 0 [] []:=⟨Nat.le_refl _,by simp,rfl,nofun,nofun,nofun,fun _ _=>rfl,.nil,nofun⟩
theorem eV.Am {ρ:Rk→Wk} {c:List Th} {n:Nat} {ls:List Th} {em:EM} (h:eV ρ c n ls em) (hs:c.Pairwise fun a b=>a.w<b.w∧a.k≠b.k) {i:Nat} (x:Th) (hf:bP x.k em=some i):
  v7 ρ (aQ c x.k++[x]) n x (ls.set i x) (cm x.k i em) i:=by
 obtain⟨hi,hk⟩:=h.kZ hf
 have hl:=h.len
 have g1:=fun j=>hO (show i<ls.length by omega) x j
 have hss:(ls.set i x).set i x=ls.set i x:=by rw[List.set_set]
 have hoth:∀j,j<n→j≠i→(ls.getD j av).k≠x.k:=fun j hj hji=>by rw[←hk];exact h.other hi hj hji
 refine⟨⟨hi,by rw[List.length_set];exact hl,by rw[List.length_set];exact h.big,?_,fun j hj=>?_,fun t ht=>?_,fun j hj hji=>?_,fun k hk'=>?_,fun j hj hji=>?_,gQ _ _ h.uk⟩,fun j hj hjn hji hpi=>?_,fun j hj hjn hji hi0=>?_⟩
 ·rw[List.length_append,List.length_singleton,fO hs ⟨ls.getD i av,h.mem i hi,hk⟩]
  exact h.cnt
 ·rw[hss,g1]
  split
  ·exact List.mem_append_right _ (List.mem_singleton_self _)
  ·rename_i q;exact List.mem_append_left _ (bn.2 ⟨h.mem j hj,hoth j hj q⟩)
 ·rcases List.mem_append.1 ht with ht|ht
  ·obtain⟨h1,h2⟩:=bn.1 ht
   obtain⟨j,hj,e⟩:=h.sur t h1
   refine⟨j,hj,?_⟩
   rw[hss,g1,if_neg (fun q=>?_)]
   ·exact e
   ·rw[q] at e;rw[←e,hk] at h2;exact h2 rfl
  ·rw[List.mem_singleton] at ht
   exact⟨i,hi,by rw[hss,g1,if_pos rfl,ht]⟩
 ·rw[g1,if_neg hji,bH,if_neg (hoth j hj hji)]
  exact h.at_ j hj
 ·have hx:=hk' x (List.mem_append_right _ (List.mem_singleton_self _))
  rw[bH,if_neg (fun q=>hx q.symm)]
  exact h.no k fun t ht e=>hk' t (List.mem_append_left _ (bn.2 ⟨ht,fun q=>hx (by rw[←q,e])⟩)) e
 ·rw[g1,if_neg hji];exact hoth j hj hji
 ·rw[g1,g1,if_neg hji,if_neg hpi];exact h.ord j hj hjn
 ·rw[g1,g1,if_neg (by omega),if_neg (by omega)]
  have h1:=h.ord j hj hjn
  rw[hji] at h1
  exact eZ (h.ord i hi0 hi) h1
theorem eV.wD {ρ:Rk→Wk} {c:List Th} {n:Nat} {ls:List Th} {em:EM} (h:eV ρ c n ls em) (hn:n+1<1000000) (x:Th) (hf:bP x.k em=none):
  v7 ρ (aQ c x.k++[x]) (n+1) x ((ls.take n++[av]).set n x) (cm x.k n em) n:=by
 have hno:=h.uQ hf
 have hl:=h.len
 rw[jV hno]
 have htl:(ls.take n).length=n:=by rw[List.length_take];omega
 have hlen:(ls.take n++[av]).length=n+1:=by rw[List.length_append,htl];rfl
 have g0:∀j,j<n→(ls.take n++[av]).getD j av=ls.getD j av:=fun j hj=>by
  simp only[List.getD_eq_getElem?_getD]
  rw[List.getElem?_append_left (by omega),List.getElem?_take,if_pos hj]
 have g1:=fun j=>hO (show n<(ls.take n++[av]).length by omega) x j
 have hss:((ls.take n++[av]).set n x).set n x=(ls.take n++[av]).set n x:=by rw[List.set_set]
 refine⟨⟨by omega,by rw[List.length_set,hlen];exact Nat.le_refl _,by rw[List.length_set,hlen];exact hn,by rw[List.length_append,List.length_singleton,h.cnt],fun j hj=>?_,fun t ht=>?_,fun j hj hji=>?_,fun k hk'=>?_,fun j hj hji=>?_,gQ _ _ h.uk⟩,fun j hj hjn hji hpi=>?_,fun j hj hjn hji hi0=>by omega⟩
 ·rw[hss,g1]
  split
  ·exact List.mem_append_right _ (List.mem_singleton_self _)
  ·rename_i q;rw[g0 j (by omega)];exact List.mem_append_left _ (h.mem j (by omega))
 ·rcases List.mem_append.1 ht with ht|ht
  ·obtain⟨j,hj,e⟩:=h.sur t ht
   exact⟨j,by omega,by rw[hss,g1,if_neg (by omega),g0 j hj];exact e⟩
  ·rw[List.mem_singleton] at ht
   exact⟨n,by omega,by rw[hss,g1,if_pos rfl,ht]⟩
 ·rw[g1,if_neg hji,g0 j (by omega),bH,if_neg (hno _ (h.mem j (by omega)))]
  exact h.at_ j (by omega)
 ·have hx:=hk' x (List.mem_append_right _ (List.mem_singleton_self _))
  rw[bH,if_neg (fun q=>hx q.symm)]
  exact h.no k fun t ht e=>hk' t (List.mem_append_left _ ht) e
 ·rw[g1,if_neg hji,g0 j (by omega)];exact hno _ (h.mem j (by omega))
 ·rw[g1,g1,if_neg hji,if_neg (by omega),g0 j (by omega),g0 _ (by omega)];exact h.ord j hj (by omega)
theorem eV.dropLast {ρ:Rk→Wk} {c:List Th} {n:Nat} {ls:List Th} {em:EM} (h:eV ρ c n ls em) (hs:c.Pairwise fun a b=>a.w<b.w∧a.k≠b.k) {k:Int} (hf:bP k em=some (n-1)):
  eV ρ (aQ c k) (n-1) (ls.set (n-1) av) (fJ k em):=by
 obtain⟨hi,hk⟩:=h.kZ hf
 have hl:=h.len
 have g1:=fun j=>hO (show n-1<ls.length by omega) av j
 have hoth:∀j,j<n→j≠n-1→(ls.getD j av).k≠k:=fun j hj hji=>by rw[←hk];exact h.other hi hj hji
 have hwl:=fO hs ⟨ls.getD (n-1) av,h.mem _ hi,hk⟩
 have hcnt:=h.cnt
 refine⟨by rw[List.length_set];omega,by rw[List.length_set];exact h.big,by omega,fun j hj=>?_,fun t ht=>?_,fun j hj=>?_,fun k' hk'=>?_,qw _ h.uk,fun j hj hjn=>?_⟩
 ·rw[g1,if_neg (by omega)];exact bn.2 ⟨h.mem j (by omega),hoth j (by omega) (by omega)⟩
 ·obtain⟨h1,h2⟩:=bn.1 ht
  obtain⟨j,hj,e⟩:=h.sur t h1
  have hne:j≠n-1:=fun q=>by rw[q] at e;rw[←e,hk] at h2;exact h2 rfl
  exact⟨j,by omega,by rw[g1,if_neg hne];exact e⟩
 ·rw[g1,if_neg (by omega),fE _ _ h.uk,if_neg (hoth j (by omega) (by omega))]
  exact h.at_ j (by omega)
 ·rw[fE _ _ h.uk]
  split
  ·rfl
  ·rename_i q
   exact h.no k' fun t ht e=>hk' t (bn.2 ⟨ht,fun e2=>q (by rw[←e,e2])⟩) e
 ·rw[g1,g1,if_neg (by omega),if_neg (by omega)];exact h.ord j hj (by omega)
theorem eV.zD {ρ:Rk→Wk} {c:List Th} {n:Nat} {ls:List Th} {em:EM} (h:eV ρ c n ls em) (hs:c.Pairwise fun a b=>a.w<b.w∧a.k≠b.k) {k:Int} {i:Nat} (hf:bP k em=some i) (hin:i<n-1):
  v7 ρ (aQ c k) (n-1) (ls.getD (n-1) av) ((ls.set (n-1) av).set i (ls.getD (n-1) av)) (cm (ls.getD (n-1) av).k i (fJ k em)) i:=by
 obtain⟨hi,hk⟩:=h.kZ hf
 have hl:=h.len
 obtain⟨x,hx⟩:∃x,x=ls.getD (n-1) av:=⟨_,rfl⟩
 have hxk:x.k≠k:=by rw[←hk,hx];exact h.other hi (by omega) (by omega)
 have hxc:x∈c:=by rw[hx];exact h.mem _ (by omega)
 rw[←hx]
 have g2:∀j,((ls.set (n-1) av).set i x).getD j av=if j=i then x else if j=n-1 then av else ls.getD j av:=fun j=>by
  rw[hO (by rw[List.length_set];omega),hO (by omega)]
 have hss:(((ls.set (n-1) av).set i x).set i x)=((ls.set (n-1) av).set i x):=by rw[List.set_set]
 have hoth:∀j,j<n→j≠i→(ls.getD j av).k≠k:=fun j hj hji=>by rw[←hk];exact h.other hi hj hji
 have hwl:=fO hs ⟨ls.getD i av,h.mem _ hi,hk⟩
 have hcnt:=h.cnt
 have hone:∀j,j<n-1→(ls.getD j av).k≠x.k:=fun j hj=>by rw[hx];exact h.other (by omega) (by omega) (by omega)
 refine⟨⟨hin,by rw[List.length_set,List.length_set];omega,by rw[List.length_set,List.length_set];exact h.big,by omega,fun j hj=>?_,fun t ht=>?_,fun j hj hji=>?_,fun k' hk'=>?_,fun j hj hji=>?_,gQ _ _ (qw _ h.uk)⟩,fun j hj hjn hji hpi=>?_,fun j hj hjn hji hi0=>?_⟩
 ·rw[hss,g2]
  split
  ·exact bn.2 ⟨hxc,hxk⟩
  ·rename_i q
   rw[if_neg (by omega)]
   exact bn.2 ⟨h.mem j (by omega),hoth j (by omega) q⟩
 ·obtain⟨h1,h2⟩:=bn.1 ht
  obtain⟨j,hj,e⟩:=h.sur t h1
  have hne:j≠i:=fun q=>by rw[q] at e;rw[←e,hk] at h2;exact h2 rfl
  by_cases q:j=n-1
  ·exact⟨i,hin,by rw[hss,g2,if_pos rfl,hx,←q];exact e⟩
  ·exact⟨j,by omega,by rw[hss,g2,if_neg hne,if_neg q];exact e⟩
 ·rw[g2,if_neg hji,if_neg (by omega),bH,if_neg (hone j hj),fE _ _ h.uk,if_neg (hoth j (by omega) hji)]
  exact h.at_ j (by omega)
 ·have hx':=hk' x (bn.2 ⟨hxc,hxk⟩)
  rw[bH,if_neg (fun q=>hx' q.symm),fE _ _ h.uk]
  split
  ·rfl
  ·rename_i q
   exact h.no k' fun t ht e=>hk' t (bn.2 ⟨ht,fun e2=>q (by rw[←e,e2])⟩) e
 ·rw[g2,if_neg hji,if_neg (by omega)];exact hone j hj
 ·rw[g2,g2,if_neg hji,if_neg (by omega),if_neg hpi,if_neg (by omega)];exact h.ord j hj (by omega)
 ·rw[g2,g2,if_neg (by omega),if_neg (by omega),if_neg (by omega),if_neg (by omega)]
  have h1:=h.ord j hj (by omega)
  rw[hji] at h1
  exact eZ (h.ord i hi0 hi) h1
end Go.Proofs.YtgfjihpbphplhaaGreat

namespace Go.Kern
open Go.RowKit
def cH (x y:AV):Prop:=∀ (g:Gh) (v:Value),R g x v→R g y v
theorem cH.refl (x:AV):cH x x:=fun _ _ h=>h
theorem cH.any (x:AV):cH x .any:=fun _ v _=> .any v
theorem cH.bf {k:SK} {xs:List AV} (h:k.isNil=false):cH (.sl k xs) (.sl .bf xs):=fun _ _ hr=>hr.pz h
def bV:List AV→List AV→Prop
 | [],[]=>True
 |x::xs,y::ys=>cH x y∧bV xs ys
 |_,_=>False
theorem bV.len:∀{xs ys:List AV},bV xs ys→xs.length=ys.length
 | [],[],_=>rfl
 |x::xs,y::ys,h=>by simp[bV.len h.2]
 | [],_::_,h=>h.elim
 |_::_,[],h=>h.elim
theorem bV.get:∀{xs ys:List AV},bV xs ys→∀ (i:Nat) (y:AV),ys[i]? =some y→∃x,xs[i]? =some x∧cH x y
  | [],[],_,i,y,h=>by simp at h
  |x::xs,y::ys,h,0,z,hz=>by simp at hz;subst hz;exact⟨x,rfl,h.1⟩
  | x::xs,y::ys,h,i+1,z,hz=>by
    obtain⟨x',h1,h2⟩:=bV.get h.2 i z (by simpa using hz)
    exact⟨x',by simpa using h1,h2⟩
  | [],_::_,h,_,_,_=>h.elim
  |_::_,[],h,_,_,_=>h.elim
theorem bV.refl:∀xs:List AV,bV xs xs
 | []=>trivial
 |x::xs=>⟨cH.refl x,bV.refl xs⟩
theorem bV.map {α:Type} {f h:α→AV}:∀{l:List α},(∀x,x∈l→cH (f x) (h x))→bV (l.map f) (l.map h)
 | [],_=>trivial
 |x::l,hw=>⟨hw x List.mem_cons_self,bV.map fun y hy=>hw y (List.mem_cons_of_mem _ hy)⟩
theorem cH.agg {xs ys:List AV} (h:bV xs ys):cH (.agg xs) (.agg ys):=fun g v hr=>by
  cases hr with
  | agg hl h2=>
    refine .agg (by rw[←h.len];exact hl) fun i c u hc hu=>?_
    obtain⟨x,h3,h4⟩:=h.get i c hc
    exact h4 g u (h2 i x u h3 hu)
theorem cH.bK {xs ys:List AV} (h:bV xs ys):cH (.bK xs) (.bK ys):=fun g v hr=>by
  cases hr with
  | bK hl h2=>
    refine .bK (by rw[←h.len];exact hl) fun i c u hc hu=>?_
    obtain⟨x,h3,h4⟩:=h.get i c hc
    exact h4 g u (h2 i x u h3 hu)
theorem cH.ip {xs ys:List AV} (h:bV xs ys) (off:Nat):cH (.ip (.agg xs) off) (.ip (.agg ys) off):=fun g v hr=>by
  cases hr with
  | ip hs ho hi h2=>
    refine .ip hs ho (fun i hlt=>hi i (by simpa [AV.cells,h.len] using hlt)) fun i c hc=>?_
    obtain⟨x,h3,h4⟩:=h.get i c (by simpa [AV.cells] using hc)
    exact h4 g _ (h2 i x (by simpa [AV.cells] using h3))
theorem cH.sl {k:SK} {xs ys:List AV} (hk:k.isNil=false) (h:bV (ar xs) (ar ys)) (hl:xs.length=ys.length) (hc:∀ (i:Nat) (x y:AV),xs[i]? =some x→ys[i]? =some y→x.cells.length=y.cells.length):cH (.sl k xs) (.sl .bf ys):=fun g v hr=>by
  have hr2:=hr.pz hk
  cases hr2 with
  | sl hk' hs hu hi h2=>
    rename_i a cap sz vs
    have:=R.sl (g:=g) (k:= .bf) (xs:=ys) (a:=a) (cap:=cap) (sz:=sz) (vs:=vs) (by rw[←hl];exact hk') (fun hne=>hs (fun e=>hne (by
        subst e;exact List.eq_nil_of_length_eq_zero hl.symm)))
      (fun y hy=>by
        obtain⟨i,hi,rfl⟩:=List.getElem_of_mem hy
        have hi':i<xs.length:=by omega
        rw[←hc i xs[i] ys[i] (List.getElem?_eq_getElem hi') (List.getElem?_eq_getElem hi)]
        exact hu _ (List.getElem_mem hi'))
      (fun i hlt=>hi i (by rw[h.len];exact hlt))
      (fun i c hcc=>by
        obtain⟨x,h3,h4⟩:=h.get i c hcc
        exact h4 g _ (h2 i x h3))
    rw[←hl] at this
    exact this
theorem jS {P:Program} {f:FuncId} {args:List AV} {σ:aa} {K0 K:KK} (h:af P f args σ K0) (hk:∀r s,K0 r s→∃r',cH r r'∧∃s0:aa,s0.Sub s∧K r' s0):af P f args σ K:=
 ⟨h.1,fun g w vs hl hr hc=>(h.2 g w vs hl hr hc).mono fun _ _ ⟨v,he,g',r,σ',h1,h2,h3,h4⟩=>by
  obtain⟨r',h5,s0,h6,h7⟩:=hk r σ' h4
  exact⟨v,he,g',r',s0,h1,h2.sub h6,h5 _ _ h3,h7⟩⟩
class C5 (b:Nat) (x v:AV) (v':outParam AV):Prop where
 h:v'=v∨∃off,v= .ptr b 0 off∧v'= .ip x off
instance (priority:=high) {b off:Nat} {x:AV}:C5 b x (.ptr b 0 off) (.ip x off):=⟨.inr ⟨off,rfl,rfl⟩⟩
instance (priority:=low) {b:Nat} {x v:AV}:C5 b x v v:=⟨.inl rfl⟩
class Cj (b:Nat) (x:AV) (ρ:Env) (ρ':outParam Env):Prop where
 h:∀i,ρ'.get i=ρ.get i∨∃off,ρ.get i= .ptr b 0 off∧ρ'.get i= .ip x off
instance {b:Nat} {x:AV}:Cj b x [] []:=⟨fun i=> .inl rfl⟩
instance {b j:Nat} {x v v':AV} {ρ ρ':Env} [h1:C5 b x v v'] [h2:Cj b x ρ ρ']:Cj b x ((j,v)::ρ) ((j,v')::ρ'):=⟨fun i=>by
 simp only[Env.get]
 by_cases e:i=j
 ·rw[if_pos e,if_pos e];exact h1.h
 ·rw[if_neg e,if_neg e];exact h2.h i⟩
theorem nD {σ:aa} {o:Nat} (h:σ o=none) (x:Ob):(σ.put o x).drop o=σ:=by
 funext c
 simp only[aa.drop,aa.put]
 split
 ·rename_i e;rw[e,h]
 ·rfl
theorem yj {P:Program} {n:Nat} {c:Code} {Q:bk} {ρ ρ':Env} {σ:aa} {b:Nat} {e:TypeId} {x:AV} [i:Cj b x ρ ρ'] (hb:σ b=none) (h:W P n c Q ρ' σ):W P n c Q ρ (σ.put b (.arr e [x])):=by
 intro g a w hd he hc
 obtain⟨g2,q1,q2,q3,q4⟩:=hc.freeze (ao σ b (.arr e [x]))
 rw[nD hb] at q2
 refine wp_mono (h g2 a w hd ⟨he.size,fun j=>?_⟩ q2) fun _ _ _ hl=>hl.mono q1 (fun _ _ _ h=>h)
 have hi:=he.get j
 rcases i.h j with h1|⟨off,h1,h2⟩
 ·rw[h1];exact hi.le q1
 ·rw[h2]
  rw[h1] at hi
  exact q4 0 off x _ rfl hi
theorem yk {P:Program} {n:Nat} {c:Code} {Q:bk} {ρ ρ':Env} {σ:aa} {b:Nat} {e:TypeId} {x:AV} (hb:σ b=some (.arr e [x])) (h:W P n c Q ρ' (σ.drop b)) [i:Cj b x ρ ρ']:W P n c Q ρ σ:=by
 intro g a w hd he hc
 obtain⟨g2,q1,q2,q3,q4⟩:=hc.freeze hb
 refine wp_mono (h g2 a w hd ⟨he.size,fun j=>?_⟩ q2) fun _ _ _ hl=>hl.mono q1 (fun _ _ _ h=>h)
 have hi:=he.get j
 rcases i.h j with h1|⟨off,h1,h2⟩
 ·rw[h1];exact hi.le q1
 ·rw[h2]
  rw[h1] at hi
  exact q4 0 off x _ rfl hi
class Cv (b sz:Nat) (xs:List AV) (v:AV) (v':outParam AV):Prop where
 h:v'=v∨∃n,n=xs.length∧v= .ms b sz 0 n∧v'= .sl .bf xs
class Cw (b sz:Nat) (xs:List AV) (ρ:Env) (ρ':outParam Env):Prop where
 h:∀i,ρ'.get i=ρ.get i∨∃n,n=xs.length∧ρ.get i= .ms b sz 0 n∧ρ'.get i= .sl .bf xs
instance (priority:=low) {b sz:Nat} {xs:List AV} {v:AV}:Cv b sz xs v v:=⟨.inl rfl⟩
instance {b sz:Nat} {xs:List AV}:Cw b sz xs [] []:=⟨fun i=> .inl rfl⟩
instance {b sz j:Nat} {xs:List AV} {v v':AV} {ρ ρ':Env} [h1:Cv b sz xs v v'] [h2:Cw b sz xs ρ ρ']:Cw b sz xs ((j,v)::ρ) ((j,v')::ρ'):=⟨fun i=>by
 simp only[Env.get]
 by_cases e:i=j
 ·rw[if_pos e,if_pos e];exact h1.h
 ·rw[if_neg e,if_neg e];exact h2.h i⟩
theorem yi {P:Program} {n:Nat} {c:Code} {Q:bk} {ρ ρ':Env} {σ:aa} {b sz:Nat} {e:TypeId} {xs:List AV} (hb:σ b=some (.arr e xs)) (i:Cw b sz xs ρ ρ') (h:W P n c Q ρ' (σ.drop b)):W P n c Q ρ σ:=by
 intro g a w hd he hc
 obtain⟨g2,q1,q2,q3,q4⟩:=hc.freeze hb
 refine wp_mono (h g2 a w hd ⟨he.size,fun j=>?_⟩ q2) fun _ _ _ hl=>hl.mono q1 (fun _ _ _ h=>h)
 have hi:=he.get j
 rcases i.h j with h1|⟨n,hn,h1,h2⟩
 ·rw[h1];exact hi.le q1
 ·rw[h2]
  rw[h1] at hi
  subst hn
  have:=q3 sz 0 xs.length _ (by omega) hi
  simpa using this
structure eU (σ:aa) (o:Nat):Prop where
 h:σ o=none
theorem bh {s:aa} {p b:Nat} {x:Ob} (h1:s p=some x) (h2:s b=none):p≠b:=fun e=>by rw[e,h2] at h1;cases h1
theorem aD {s:aa} {p b:Nat} {x:Ob} (h1:s p=some x) (h2:s b=none):∀y,(s.put b y) p=some x:=fun y=>by rw[au (bh h1 h2)];exact h1
theorem dS {P:Program} {f:FuncId} {args0 rest:List AV} {σ τ:aa} {K K0:KK} {l:List AV} (h:af P f args0 τ K0) (hl:l≠[]):af P f (.sl .nil l::rest) σ K:=
  ⟨h.1,fun g w vs h1 hr hc=>by
    obtain⟨vl⟩:=vs
    cases vl with
    |nil=>simp at h1
    | cons v r=>
      have:=hr 0 (.sl .nil l) v rfl rfl
      cases this with
      |slnil=>exact absurd rfl hl
      |sl hk=>exact hk.elim⟩
class Al (p:Prop) (σ:outParam aa) (k:outParam (Nat→Prop)):Prop where
 h:(∀o,σ o=none→k o)→p
instance {σ:aa} {k:Nat→Prop}:Al (∀o,σ o=none→k o) σ k:=⟨id⟩
theorem al {p:Prop} {σ:aa} {k:Nat→Prop} [i:Al p σ k] (h:∀o,σ o=none→k o):p:=i.h h
end Go.Kern

namespace Go.Kern
open Go.RowKit
structure Cp where
 tq:List Nat
 nw:List Nat
 cn:List Nat
 ow:List (Nat×Nat)
def mV:List (Nat×Nat)→Nat→Option Nat
 | [],_=>none
 |(a,k)::r,i=>if a=i then some k else mV r i
def Cp.iO (c:Cp) (i:Nat):Option Nat:=if c.cn.contains i=true then some i else if c.nw.contains i=true then some i else mV c.ow i
def Cp.new (c:Cp) (i:Nat):Bool:=c.cn.contains i||c.nw.contains i
def Cp.cY (c:Cp) (i j:Nat):Bool:=match c.iO i,c.iO j with
 |some a,some b=>decide (a=b)
 |_,_=>false
def mg (c:Cp) (ops:Array Oper) (A:List (List Nat)):Bool:=
 (List.range ops.size).all fun j=>(List.range j).all fun i=>(A.getD j []).contains i||(match ops[i]?,ops[j]? with
  |some a,some b=>a.apart ops b&& !c.cY i j
  |_,_=>true)
def sR (c:Cp) (ops:Array Oper):Bool:=
 la ops (gX ops)&&mg c ops (gX ops)&&((List.range ops.size).all fun i=>(c.iO i).isNone||(match ops[i]? with|some o=>o.guard.isNone|none=>false))&&((c.cn++c.nw).all fun i=>decide (i<ops.size))
theorem eo {c:Cp} {ops:Array Oper} {A:List (List Nat)} (h:mg c ops A=true) {i j:Nat} (hij:i<j) {a b:Oper} (ha:ops[i]? =some a) (hb:ops[j]? =some b):
  i∈A.getD j []∨(a.apart ops b=true∧c.cY i j=false):=by
 have hj:j<ops.size:=(Array.getElem?_eq_some_iff.1 hb).1
 have h1:=List.all_eq_true.1 h j (List.mem_range.2 hj)
 have h2:=List.all_eq_true.1 h1 i (List.mem_range.2 hij)
 rw[ha,hb] at h2
 rcases Bool.or_eq_true_iff.1 h2 with h2|h2
 ·exact .inl (List.contains_iff_mem.1 h2)
 ·have:=Bool.and_eq_true_iff.1 h2
  exact .inr ⟨this.1,by simpa using this.2⟩
def qz (P:Program) (mu:List Nat) (o:Oper) (ρ:Env) (xs:List AV) (m:Nat) (e:TypeId) (sz:Nat):Prop:=
 ∀s:aa,bu P mu o ρ s (fun v' s'=>∃t,s t=none∧v'= .sl (.tip t) xs∧s'=s.put t (.tip m e sz))
def fK (P:Program) (n:Nat) (mu:List Nat) (c:Cp) (nu:Nat→Nat) (σ0:aa) (ops:Array Oper):List Oper→Nat→Env→aa→(Env→aa→Prop)→Prop
  | [],_,ρ,σ,K=>K ρ σ
  | o::r,i,ρ,σ,K=>gA n o.dst=true∧
    (if c.cn.contains i=true then ∃xs m e sz,qz P mu o ρ xs m e sz∧bw (fK P n mu c nu σ0 ops r (i+1) (ρ.aG o.dst (.sl (.tip (nu i)) xs)) (σ.put (nu i) (.tip m e sz)) K) .mk
    else if c.nw.contains i=true then ew P o (nu i) fun v z=>bw (fK P n mu c nu σ0 ops r (i+1) (ρ.aG o.dst v) (σ.put (nu i) z) K) .mk
    else match mV c.ow i with
    |some k=>∃x v z,σ (nu k)=some x∧(∀s:aa,s (nu k)=some x→bu P mu o ρ s (fun v' s'=>v'=v∧s'=s.put (nu k) z))∧bw (fK P n mu c nu σ0 ops r (i+1) (ρ.aG o.dst v) (σ.put (nu k) z) K) .mk
    | none=>bM ops ρ o fun b=>if b=true then
        (if c.tq.contains i=true then ∃v,bu P mu o ρ σ0 (fun v' s'=>v'=v∧s'=σ0)∧iA o=true∧bw (fK P n mu c nu σ0 ops r (i+1) (ρ.aG o.dst v) σ K) .mk
        else ∃v,(∀s:aa,bu P mu o ρ s (fun v' s'=>v'=v∧s'=s))∧bw (fK P n mu c nu σ0 ops r (i+1) (ρ.aG o.dst v) σ K) .mk)
      else bw (fK P n mu c nu σ0 ops r (i+1) (ρ.aG o.dst (.bK [])) σ K) .mk)
section
variable {P:Program} {n:Nat} {mu:List Nat} {c:Cp} {nu:Nat→Nat} {σ0:aa} {ops:Array Oper} {o:Oper} {r:List Oper} {i:Nat} {ρ:Env} {σ:aa} {K:Env→aa→Prop}
theorem wk:fK P n mu c nu σ0 ops [] i ρ σ K=K ρ σ:=propext Iff.rfl
theorem uW:fK P n mu c nu σ0 ops (o::r) i ρ σ K=(gA n o.dst=true∧
    (if c.cn.contains i=true then ∃xs m e sz,qz P mu o ρ xs m e sz∧bw (fK P n mu c nu σ0 ops r (i+1) (ρ.aG o.dst (.sl (.tip (nu i)) xs)) (σ.put (nu i) (.tip m e sz)) K) .mk
    else if c.nw.contains i=true then ew P o (nu i) fun v z=>bw (fK P n mu c nu σ0 ops r (i+1) (ρ.aG o.dst v) (σ.put (nu i) z) K) .mk
    else match mV c.ow i with
    |some k=>∃x v z,σ (nu k)=some x∧(∀s:aa,s (nu k)=some x→bu P mu o ρ s (fun v' s'=>v'=v∧s'=s.put (nu k) z))∧bw (fK P n mu c nu σ0 ops r (i+1) (ρ.aG o.dst v) (σ.put (nu k) z) K) .mk
    | none=>bM ops ρ o fun b=>if b=true then
        (if c.tq.contains i=true then ∃v,bu P mu o ρ σ0 (fun v' s'=>v'=v∧s'=σ0)∧iA o=true∧bw (fK P n mu c nu σ0 ops r (i+1) (ρ.aG o.dst v) σ K) .mk
        else ∃v,(∀s:aa,bu P mu o ρ s (fun v' s'=>v'=v∧s'=s))∧bw (fK P n mu c nu σ0 ops r (i+1) (ρ.aG o.dst v) σ K) .mk)
      else bw (fK P n mu c nu σ0 ops r (i+1) (ρ.aG o.dst (.bK [])) σ K) .mk)):=propext Iff.rfl
end
structure TE (n:Nat) (c:Cp) (nu:Nat→Nat) (i:Nat) (o:Oper) (ρ ρ':Env) (σ σ':aa) (v:AV) (z:Ob):Prop where
 env:ρ'=ρ.aG o.dst v
 dst:gA n o.dst=true
 tg:∀k,c.iO i=some k→σ'=σ.put (nu k) z
 no:c.iO i=none→σ'=σ
structure AX (P:Program) (mu:List Nat) (c:Cp) (nu:Nat→Nat) (σ0:aa) (ops:Array Oper) (i:Nat) (o:Oper) (ρ:Env) (σ:aa) (v:AV) (z:Ob):Prop where
 cn:c.cn.contains i=true→∃xs m e sz,v= .sl (.tip (nu i)) xs∧z= .tip m e sz∧qz P mu o ρ xs m e sz
 nw:c.cn.contains i=false→c.nw.contains i=true→ew P o (nu i) (fun v' z'=>v'=v∧z'=z)∧v= .ptr (nu i) 0 0
 ow:∀k,c.new i=false→c.iO i=some k→∃x,σ (nu k)=some x∧∀s:aa,s (nu k)=some x→bu P mu o ρ s (fun v' s'=>v'=v∧s'=s.put (nu k) z)
 run:c.iO i=none→∃b,bM ops ρ o (fun c=>c=b)∧(b=false→v= .bK [])∧
  (b=true→(iA o=true∧bu P mu o ρ σ0 (fun v' s'=>v'=v∧s'=σ0))∨∀s:aa,bu P mu o ρ s (fun v' s'=>v'=v∧s'=s))
structure yl (P:Program) (n:Nat) (mu:List Nat) (c:Cp) (nu:Nat→Nat) (σ0:aa) (ops:Array Oper) (i:Nat) (o:Oper) (ρ ρ':Env) (σ σ':aa) (v:AV) (z:Ob):Prop where
 te:TE n c nu i o ρ ρ' σ σ' v z
 ps:AX P mu c nu σ0 ops i o ρ σ v z
theorem mG {P:Program} {n:Nat} {mu:List Nat} {c:Cp} {nu:Nat→Nat} {σ0:aa} {ops:Array Oper} {K:Env→aa→Prop}:∀ (l:List Oper) (i:Nat) (ρ:Env) (σ:aa),fK P n mu c nu σ0 ops l i ρ σ K→
    ∃ (ρs:Nat→Env) (sts:Nat→aa) (vals:Nat→AV) (zs:Nat→Ob),ρs 0=ρ∧sts 0=σ∧(∀j o,l[j]? =some o→yl P n mu c nu σ0 ops (i+j) o (ρs j) (ρs (j+1)) (sts j) (sts (j+1)) (vals j) (zs j))∧K (ρs l.length) (sts l.length)
  | [],i,ρ,σ,h=>⟨fun _=>ρ,fun _=>σ,fun _=> .any,fun _=> .map [],rfl,rfl,fun j o ho=>by simp at ho,h⟩
  | o::r,i,ρ,σ,h=>by
    obtain⟨hd,h⟩:=h
    obtain⟨v,z,σ',bg,hr⟩:∃v z σ',yl P n mu c nu σ0 ops i o ρ (ρ.aG o.dst v) σ σ' v z∧fK P n mu c nu σ0 ops r (i+1) (ρ.aG o.dst v) σ' K:=by
      cases hcn:c.cn.contains i with
      | true=>
        rw[if_pos hcn] at h
        obtain⟨xs,m,e,sz,h1,h2⟩:=h
        have ht:c.iO i=some i:=by rw[Cp.iO,if_pos hcn]
        refine⟨_,.tip m e sz,_,⟨⟨rfl,hd,fun k hk=>?_,fun hk=>?_⟩,⟨fun _=>⟨xs,m,e,sz,rfl,rfl,h1⟩,fun e=>?_,fun k e=>?_,fun hk=>?_⟩⟩,h2⟩
        · rw[ht] at hk;injection hk with hk;rw[hk]
        · rw[ht] at hk;cases hk
        · rw[hcn] at e;cases e
        · rw[Cp.new,hcn] at e;cases e
        · rw[ht] at hk;cases hk
      | false=>
        rw[if_neg (by rw[hcn];simp)] at h
        cases hnw:c.nw.contains i with
        | true=>
          rw[if_pos hnw] at h
          obtain⟨z,h1,h2⟩:=ph h
          have ht:c.iO i=some i:=by rw[Cp.iO,if_neg (by rw[hcn];simp),if_pos hnw]
          refine⟨_,z,_,⟨⟨rfl,hd,fun k hk=>?_,fun hk=>?_⟩,⟨fun e=>?_,fun _ _=>⟨h1,rfl⟩,fun k e=>?_,fun hk=>?_⟩⟩,h2⟩
          · rw[ht] at hk;injection hk with hk;rw[hk]
          · rw[ht] at hk;cases hk
          · rw[hcn] at e;cases e
          · rw[Cp.new,hnw,Bool.or_true] at e;cases e
          · rw[ht] at hk;cases hk
        | false=>
          rw[if_neg (by rw[hnw];simp)] at h
          have ht:c.iO i=mV c.ow i:=by rw[Cp.iO,if_neg (by rw[hcn];simp),if_neg (by rw[hnw];simp)]
          have nc:∀{A:Prop},c.cn.contains i=true→A:=fun e=>by rw[hcn] at e;cases e
          have nn:∀{A:Prop},c.nw.contains i=true→A:=fun e=>by rw[hnw] at e;cases e
          cases how:mV c.ow i with
          | some k=>
            rw[how] at h ht
            obtain⟨x,v,z,h1,h2,h3⟩:=h
            refine⟨v,z,_,⟨⟨rfl,hd,fun k' hk=>?_,fun hk=>?_⟩,⟨fun e=>nc e,fun _ e=>nn e,fun k' e hk=>?_,fun hk=>?_⟩⟩,h3⟩
            · rw[ht] at hk;injection hk with hk;rw[hk]
            · rw[ht] at hk;cases hk
            · rw[ht] at hk;injection hk with hk;subst hk;exact⟨x,h1,h2⟩
            · rw[ht] at hk;cases hk
          | none=>
            rw[how] at h ht
            have ns:∀{A:Prop} {k:Nat},c.iO i=some k→A:=fun e=>by rw[ht] at e;cases e
            obtain⟨b,hb,h⟩:=lF h
            cases b with
            | true=>
              rw[if_pos rfl] at h
              split at h
              · obtain⟨v,h1,h0,h2⟩:=h
                exact⟨v,.map [],σ,⟨⟨rfl,hd,fun _ e=>ns e,fun _=>rfl⟩,⟨fun e=>nc e,fun _ e=>nn e,fun _ _ e=>ns e,fun _=>⟨true,hb,nofun,fun _=> .inl ⟨h0,h1⟩⟩⟩⟩,h2⟩
              · obtain⟨v,h1,h2⟩:=h
                exact⟨v,.map [],σ,⟨⟨rfl,hd,fun _ e=>ns e,fun _=>rfl⟩,⟨fun e=>nc e,fun _ e=>nn e,fun _ _ e=>ns e,fun _=>⟨true,hb,nofun,fun _=> .inr h1⟩⟩⟩,h2⟩
            | false=>
              rw[if_neg (by simp)] at h
              exact⟨.bK [],.map [],σ,⟨⟨rfl,hd,fun _ e=>ns e,fun _=>rfl⟩,⟨fun e=>nc e,fun _ e=>nn e,fun _ _ e=>ns e,fun _=>⟨false,hb,fun _=>rfl,nofun⟩⟩⟩,h⟩
    obtain⟨ρs,sts,vals,zs,e1,e2,h1,h2⟩:=mG r (i+1) _ _ hr
    refine⟨fun j=>match j with|0=>ρ|j+1=>ρs j,fun j=>match j with|0=>σ|j+1=>sts j,fun j=>match j with|0=>v|j+1=>vals j,fun j=>match j with|0=>z|j+1=>zs j,rfl,rfl,fun j o' ho=>?_,h2⟩
    cases j with
    | zero=>
      simp at ho
      subst ho
      simp only[e1,e2,Nat.add_zero]
      exact bg
    | succ j=>
      have:=h1 j o' (by simpa using ho)
      rw[show i+1+j=i+(j+1) by omega] at this
      exact this
def cN (c:Cp) (nu:Nat→Nat) (zs:Nat→Ob) (σ0:aa) (L:Array Bool):Nat→aa
  |0=>σ0
  | m+1=>match c.iO m with
    |some k=>if L.getD m false=true then(cN c nu zs σ0 L m).put (nu k) (zs m) else cN c nu zs σ0 L m
    |none=>cN c nu zs σ0 L m
section
variable {P:Program} {n:Nat} {mu:List Nat} {c:Cp} {nu:Nat→Nat} {σ0:aa} {ops:Array Oper} {ρs:Nat→Env} {sts:Nat→aa} {vals:Nat→AV} {zs:Nat→Ob}
theorem oG (ht:∀j o,ops[j]? =some o→TE n c nu j o (ρs j) (ρs (j+1)) (sts j) (sts (j+1)) (vals j) (zs j)) (m s:Nat) (hm:m<ops.size):
    (ρs (m+1)).get s=if (ops[m]?).bind (·.dst)=some s then vals m else(ρs m).get s:=by
  have ho:ops[m]? =some ops[m]:=by simp[hm]
  have:=(ht m _ ho).env
  rw[this,ho,Option.bind_some]
  cases hd:ops[m].dst with
  |none=>simp[Env.aG]
  | some d=>
    simp only[Env.aG,Env.get,Option.some.injEq]
    by_cases h:s=d
    · subst h;simp
    · rw[if_neg h,if_neg (fun e=>h e.symm)]
variable (hA:la ops (gX ops)=true) (hp:mg c ops (gX ops)=true)
 (ht:∀j o,ops[j]? =some o→TE n c nu j o (ρs j) (ρs (j+1)) (sts j) (sts (j+1)) (vals j) (zs j))
include hA hp ht
theorem mS {L:Array Bool} (hL:L.size=ops.size) (hd:Down ops L) {i:Nat} {o:Oper} (ho:ops[i]? =some o) (hni:L.getD i false=false) (hr:∀e∈cg ops i,L.getD e false=true) {s:Nat} (hs:s∈o.looksAt ops):
    ∀m,m≤ops.size→bQ ops vals (ρs 0) L m s=if m≤i then(ρs m).get s else(ρs i).get s
  |0,_=>by simp[bQ]
  | m+1,hm=>by
    have ih:=mS hL hd ho hni hr hs m (by omega)
    have hm':m<ops.size:=by omega
    have hom:ops[m]? =some ops[m]:=by simp[hm']
    simp only[bQ,ih]
    rcases Nat.lt_trichotomy m i with h|h|h
    · rw[if_pos (by omega:m≤i),if_pos (by omega:m+1≤i),oG ht m s hm']
      by_cases hw:(ops[m]?).bind (·.dst)=some s
      · have hlm:L.getD m false=true:=by
          rcases eo hp h hom ho with h1|⟨h1,_⟩
          · exact ek hA hL hd (Array.getElem?_eq_some_iff.1 ho).1 hr h1
          · have hdm:ops[m].dst=some s:=by rw[hom] at hw;simpa using hw
            exact absurd hs ((Oper.apart_spec h1).1 s hdm)
        rw[if_pos ⟨hlm,hw⟩,if_pos hw]
      · rw[if_neg (fun h=>hw h.2),if_neg hw]
    · subst h
      rw[if_neg (fun h=>by rw[hni] at h;exact absurd h.1 (by simp)),if_pos (Nat.le_refl _),if_neg (by omega)]
    · rw[if_neg (by omega:¬m≤i),if_neg (by omega:¬m+1≤i)]
      by_cases hw:(ops[m]?).bind (·.dst)=some s
      · have hlm:L.getD m false=false:=by
          cases hlm:L.getD m false with
          |false=>rfl
          | true=>
            exfalso
            rcases eo hp h ho hom with h1|⟨h1,_⟩
            · have:=cQ hA hL hd m i hlm h1
              rw[hni] at this;cases this
            · have hdm:ops[m].dst=some s:=by rw[hom] at hw;simpa using hw
              exact(Oper.apart_spec h1).2.2 s hdm hs
        rw[if_neg (fun h=>by rw[hlm] at h;exact absurd h.1 (by simp))]
      · rw[if_neg (fun h=>hw h.2)]
theorem rT {L:Array Bool} (hL:L.size=ops.size) (hd:Down ops L) {i:Nat} {o:Oper} (ho:ops[i]? =some o) (hni:L.getD i false=false) (s:Nat):
    ∀m,m≤ops.size→bQ ops vals (ρs 0) (L.setIfInBounds i true) m s=if i<m∧o.dst=some s then vals i else bQ ops vals (ρs 0) L m s
  |0,_=>by simp[bQ]
  | m+1,hm=>by
    have ih:=rT hL hd ho hni s m (by omega)
    have hm':m<ops.size:=by omega
    have hi:i<ops.size:=(Array.getElem?_eq_some_iff.1 ho).1
    have hom:ops[m]? =some ops[m]:=by simp[hm']
    simp only[bQ,ih,cd (show i<L.size by omega)]
    rcases Nat.lt_trichotomy m i with h|h|h
    · simp only[show ¬m=i by omega,show ¬i<m by omega,show ¬i<m+1 by omega,false_and,if_false]
    · subst h
      rw[if_pos rfl,ho,Option.bind_some]
      by_cases hs:o.dst=some s
      · rw[if_pos ⟨rfl,hs⟩,if_pos ⟨by omega,hs⟩]
      · rw[if_neg (fun h=>hs h.2),if_neg (fun h=>hs h.2),if_neg (fun h=>hs h.2),if_neg (fun h=>hs h.2)]
    · rw[if_neg (by omega:¬m=i)]
      by_cases hs:o.dst=some s
      · by_cases hw:L.getD m false=true∧(ops[m]?).bind (·.dst)=some s
        · exfalso
          obtain⟨hlm,hw⟩:=hw
          have hdm:ops[m].dst=some s:=by rw[hom] at hw;simpa using hw
          rcases eo hp h ho hom with h1|⟨h1,_⟩
          · have:=cQ hA hL hd m i hlm h1
            rw[hni] at this;cases this
          · exact(Oper.apart_spec h1).2.1 s hs hdm
        · rw[if_neg hw,if_pos ⟨h,hs⟩,if_pos ⟨by omega,hs⟩]
      · simp only[hs,Bool.false_eq_true,and_false,if_false]
theorem rf (h0:sts 0=σ0) (hnu:∀i j,nu i=nu j→i=j) {L:Array Bool} (hL:L.size=ops.size) (hd:Down ops L) {i:Nat} {o:Oper} (ho:ops[i]? =some o) (hni:L.getD i false=false) (hr:∀e∈cg ops i,L.getD e false=true) {k:Nat} (htg:c.iO i=some k):
    ∀m,m≤ops.size→(cN c nu zs σ0 L m) (nu k)=(if m≤i then sts m else sts i) (nu k)
  |0,_=>by simp[cN,h0]
  | m+1,hm=>by
    have ih:=rf h0 hnu hL hd ho hni hr htg m (by omega)
    have hm':m<ops.size:=by omega
    have hom:ops[m]? =some ops[m]:=by simp[hm']
    have bg:=ht m _ hom
    have hcl:c.iO m=some k→c.cY m i=true∧c.cY i m=true:=by
      intro h
      simp only[Cp.cY,h,htg,decide_true,and_self]
    have hput:∀ (s:aa) (x:Ob) (q:Nat),q≠k→(s.put (nu q) x) (nu k)=s (nu k):=fun s x q hq=>by simp only[aa.put,if_neg (fun e:nu k=nu q=>hq (hnu _ _ e).symm)]
    simp only[cN]
    rcases Nat.lt_trichotomy m i with h|h|h
    · rw[if_pos (by omega:m≤i)] at ih
      rw[if_pos (by omega:m+1≤i)]
      cases htm:c.iO m with
      |none=>rw[bg.no htm];exact ih
      | some q=>
        simp only
        by_cases hq:q=k
        · subst hq
          have hlm:L.getD m false=true:=by
            rcases eo hp h hom ho with h1|⟨_,h1⟩
            · exact ek hA hL hd (Array.getElem?_eq_some_iff.1 ho).1 hr h1
            · rw[(hcl htm).1] at h1;cases h1
          rw[if_pos hlm,bg.tg q htm]
          simp[aa.put]
        · rw[bg.tg q htm,hput _ _ _ hq]
          split
          · rw[hput _ _ _ hq];exact ih
          · exact ih
    · subst h
      rw[if_pos (Nat.le_refl _)] at ih
      rw[if_neg (by omega)]
      cases htm:c.iO m with
      |none=>exact ih
      |some q=>simp only[hni];exact ih
    · rw[if_neg (by omega:¬m≤i)] at ih
      rw[if_neg (by omega:¬m+1≤i)]
      cases htm:c.iO m with
      |none=>exact ih
      | some q=>
        simp only
        by_cases hq:q=k
        · subst hq
          have hlm:L.getD m false=false:=by
            cases hlm:L.getD m false with
            |false=>rfl
            | true=>
              exfalso
              rcases eo hp h ho hom with h1|⟨_,h1⟩
              · have:=cQ hA hL hd m i hlm h1
                rw[hni] at this;cases this
              · rw[(hcl htm).2] at h1;cases h1
          rw[hlm];exact ih
        · split
          · rw[hput _ _ _ hq];exact ih
          · exact ih
def dC (c:Cp) (nu:Nat→Nat) (zs:Nat→Ob) (i:Nat) (s:aa):aa:=
 match c.iO i with
 |some k=>s.put (nu k) (zs i)
 |none=>s
theorem uh (hnu:∀i j,nu i=nu j→i=j) {L:Array Bool} (hL:L.size=ops.size) (hd:Down ops L) {i:Nat} {o:Oper} (ho:ops[i]? =some o) (hni:L.getD i false=false):
    ∀m,m≤ops.size→cN c nu zs σ0 (L.setIfInBounds i true) m=if i<m then dC c nu zs i (cN c nu zs σ0 L m) else cN c nu zs σ0 L m
  |0,_=>by simp[cN]
  | m+1,hm=>by
    have ih:=uh hnu hL hd ho hni m (by omega)
    have hm':m<ops.size:=by omega
    have hi:i<ops.size:=(Array.getElem?_eq_some_iff.1 ho).1
    have hom:ops[m]? =some ops[m]:=by simp[hm']
    simp only[cN,ih,cd (show i<L.size by omega)]
    rcases Nat.lt_trichotomy m i with h|h|h
    · simp only[show ¬m=i by omega,show ¬i<m by omega,show ¬i<m+1 by omega,if_false]
    · subst h
      simp only[if_pos (show m<m+1 by omega),Nat.lt_irrefl,if_false,if_true,hni,dC]
      cases c.iO m<;>simp
    · rw[if_neg (by omega:¬m=i),if_pos (by omega:i<m+1),if_pos h]
      cases hti:c.iO i with
      |none=>simp only[dC,hti]
      | some k=>
        simp only[dC,hti]
        cases htm:c.iO m with
        |none=>rfl
        | some q=>
          simp only
          by_cases hq:q=k
          · subst hq
            have hcl:c.cY i m=true:=by simp only[Cp.cY,hti,htm,decide_true]
            have hlm:L.getD m false=false:=by
              cases hlm:L.getD m false with
              |false=>rfl
              | true=>
                exfalso
                rcases eo hp h ho hom with h1|⟨_,h1⟩
                · have:=cQ hA hL hd m i hlm h1
                  rw[hni] at this;cases this
                · rw[hcl] at h1;cases h1
            rw[hlm];simp
          · split
            · exact put_comm (fun e=>hq (hnu _ _ e).symm) _ _
            · rfl
end
theorem ug {c:Cp} {i:Nat} (h:c.new i=true):c.iO i=some i:=by
 rw[Cp.new,Bool.or_eq_true] at h
 rw[Cp.iO]
 split
 ·rfl
 ·rename_i hn
  rcases h with h|h
  ·exact absurd h hn
  ·rw[if_pos h]
theorem ay.Ap {g:Gh} {w:World} {s:aa} {t nu m:Nat} {e:TypeId} {sz:Nat} (h:ay g w (s.put t (.tip m e sz))) (bg:s t=none) (hr:g.res nu):
  ay (({g with tipv:=fun p q=>if p=nu then g.tipv t q else g.tipv p q}:Gh).aA fun p=>g.res p∧p≠nu) w (s.put nu (.tip m e sz)):=by
 have hrn:=h.res nu hr
 have hle:g.Le {g with tipv:=fun p q=>if p=nu then g.tipv t q else g.tipv p q}:=⟨rfl,fun _ _ _ h=>h,fun _ _ h=>h,fun p q v hv=>by
  simp only
  rw[if_neg (fun e=>by rw[e,hrn.2.1] at hv;cases hv)];exact hv,rfl⟩
 have hold:∀p,(s.put t (.tip m e sz)) p=none→s p=none:=fun p hp=>by
  simp only[aa.put] at hp
  split at hp
  ·cases hp
  ·exact hp
 have hnt:nu≠t:=fun e=>by have:=hrn.2.2;rw[e] at this;simp[aa.put] at this
 obtain⟨blk,h1,h2⟩:=h.obj
 refine⟨h.below,h.bf,h.loc,?_,fun p hp=>?_,fun p=>if p=nu then blk t else blk p,fun p x hx=>?_,fun p q x y hx hy he=>?_⟩
 ·obtain⟨N,hN⟩:=h.fresh
  refine⟨max N (nu+1),fun p hp=>⟨(hN p (by omega)).1,fun q=>?_,?_,fun hh=>(hN p (by omega)).2.2.2 hh.1⟩⟩
  ·change (if p=nu then _ else _)=_
   rw[if_neg (by omega)];exact(hN p (by omega)).2.1 q
  ·simp only[aa.put]
   rw[if_neg (by omega)];exact hold p (hN p (by omega)).2.2.1
 ·have:=h.res p hp.1
  refine⟨this.1,fun q=>?_,?_⟩
  ·change (if p=nu then _ else _)=_
   rw[if_neg hp.2];exact this.2.1 q
  ·simp only[aa.put]
   rw[if_neg hp.2];exact hold p this.2.2
 ·simp only[aa.put] at hx
  by_cases hpn:p=nu
  ·subst hpn
   rw[if_pos rfl] at hx
   injection hx with hx
   subst hx
   simp only[if_pos]
   obtain⟨hb,cap,cur,q1,q2,q3,q4,q5,q6,q7⟩:=h1 t _ (ao s t _)
   exact⟨hb,cap,cur,by change (if p=p then _ else _)=_;rw[if_pos rfl];exact q1,fun m' hm=>by change (if p=p then _ else _)=_;rw[if_pos rfl];exact q2 m' hm,q3,q4,q5,q6,q7⟩
  ·rw[if_neg hpn] at hx
   simp only[if_neg hpn]
   have hpt:p≠t:=fun e=>by rw[e,bg] at hx;cases hx
   have hx':(s.put t (.tip m e sz)) p=some x:=by simp only[aa.put,if_neg hpt];exact hx
   exact⟨(h1 p x hx').1,((h1 p x hx').2.iy hle rfl (fun _=>rfl) (fun q=>by simp only[if_neg hpn])).aA _⟩
 ·have old:∀{p:Nat} {x:Ob},p≠nu→(s.put nu (.tip m e sz)) p=some x→p≠t∧(s.put t (.tip m e sz)) p=some x:=fun {p x} hpn hx=>by
   simp only[aa.put,if_neg hpn] at hx
   have hpt:p≠t:=fun e=>by rw[e,bg] at hx;cases hx
   exact⟨hpt,by simp only[aa.put,if_neg hpt];exact hx⟩
  by_cases hpn:p=nu<;>by_cases hqn:q=nu
  ·rw[hpn,hqn]
  ·simp only[if_pos hpn,if_neg hqn] at he
   obtain⟨k1,k2⟩:=old hqn hy
   exact absurd (h2 q t y _ k2 (ao s t _) he.symm) k1
  ·simp only[if_neg hpn,if_pos hqn] at he
   obtain⟨k1,k2⟩:=old hpn hx
   exact absurd (h2 p t x _ k2 (ao s t _) he) k1
  ·simp only[if_neg hpn,if_neg hqn] at he
   exact h2 p q x y (old hpn hx).2 (old hqn hy).2 he
theorem R.Ap {g:Gh} {t nu:Nat} {xs:List AV} {v:Value} (h:R g (.sl (.tip t) xs) v) (hle:g.Le {g with tipv:=fun p q=>if p=nu then g.tipv t q else g.tipv p q}):
    R {g with tipv:=fun p q=>if p=nu then g.tipv t q else g.tipv p q} (.sl (.tip nu) xs) v:=by
  cases h with
  | sl hk hs hu hi h=>
    refine .sl ⟨hk.1,?_⟩ hs hu hi fun i c hc=>(h i c hc).le hle
    change (if nu=nu then _ else _)=_
    rw[if_pos rfl];exact hk.2
theorem xJ {ops:Array Oper} {L:Array Bool} (hL:L.size=ops.size) (hdn:Down ops L) {i:Nat} (hlt:i<ops.size) (hre:∀e∈cg ops i,L.getD e false=true):Down ops (L.setIfInBounds i true):=by
 intro q hq e he
 rw[cd (by omega)] at hq ⊢
 by_cases hei:e=i
 ·rw[if_pos hei]
 ·rw[if_neg hei]
  by_cases hqi:q=i
  ·subst hqi;exact hre e he
  ·rw[if_neg hqi] at hq;exact hdn q hq e he
def v8 (c:Cp) (nu:Nat→Nat) (zs:Nat→Ob) (ops:Array Oper) (vals:Nat→AV) (ρ0:Env) (σ0:aa) (n:Nat) (g:Gh) (L:Array Bool) (a:Act) (w:World):Prop:=
 a.defers=[]∧a.tmps.size=n∧∃g',zV g g'∧ay g' w (cN c nu zs σ0 L ops.size)∧(∀s,R g' (bQ ops vals ρ0 L ops.size s) (a.tmps.getD s undef))∧
   ∀p,g'.res p↔(g.res p∨∃m,c.new m=true∧L.getD m false=false∧p=nu m)
section
variable {P:Program} {n:Nat} {mu:List Nat} {c:Cp} {nu:Nat→Nat} {σ:aa} {ops:Array Oper} {ρs:Nat→Env} {sts:Nat→aa} {vals:Nat→AV} {zs:Nat→Ob} {g:Gh}
variable (hA:la ops (gX ops)=true) (hp:mg c ops (gX ops)=true) (hguard:∀i o k,ops[i]? =some o→c.iO i=some k→o.guard=none)
 (ht:∀j o,ops[j]? =some o→TE n c nu j o (ρs j) (ρs (j+1)) (sts j) (sts (j+1)) (vals j) (zs j)) (e2:sts 0=σ) (hnui:∀i j,nu i=nu j→i=j) (hσ:∀i q,c.iO i=some q→σ (nu q)=none) (hgr:∀i,¬g.res (nu i))
include hA hp hguard ht e2 hnui hσ hgr
theorem yO {L:Array Bool} (hL:L.size=ops.size) (hdn:Down ops L) {i:Nat} {o:Oper} (ho:ops[i]? =some o) (hni:L.getD i false=false) {a:Act} (hd:a.defers=[]) (hs:a.tmps.size=n) {g':Gh} (hr':∀s,R g' (bQ ops vals (ρs 0) L ops.size s) (a.tmps.getD s undef))
  (hres:∀p,g'.res p↔(g.res p∨∃m,c.new m=true∧L.getD m false=false∧p=nu m)) (v:Value) (w':World) (g2:Gh) (hle2:zV g g2) (hc2:ay g2 w' (dC c nu zs i (cN c nu zs σ L ops.size))) (hv:R g2 (vals i) v) (hRR:∀x u,R g' x u→R g2 x u)
  (hres2:∀p,g2.res p↔(g'.res p∧¬ (c.new i=true∧p=nu i))):v8 c nu zs ops vals (ρs 0) σ n g (L.setIfInBounds i true) (a.put o.dst v) w':=by
   have hlt:i<ops.size:=(Array.getElem?_eq_some_iff.1 ho).1
   have bg:=ht i o ho
   refine⟨by rw[ic];exact hd,by rw[q9];exact hs,g2,hle2,?_,fun s=>?_,fun p=>?_⟩
   ·rw[uh hA hp ht hnui hL hdn ho hni ops.size (Nat.le_refl _),if_pos hlt];exact hc2
   ·rw[rT hA hp ht hL hdn ho hni s ops.size (Nat.le_refl _),rb hs bg.dst]
    by_cases hds:o.dst=some s
    ·rw[if_pos ⟨hlt,hds⟩,if_pos hds];exact hv
    ·rw[if_neg (fun h=>hds h.2),if_neg hds];exact hRR _ _ (hr' s)
   ·rw[hres2 p,hres p]
    constructor
    ·rintro⟨h1|⟨m,h1,h2,rfl⟩,h3⟩
     ·exact .inl h1
     ·refine .inr ⟨m,h1,?_,rfl⟩
      rw[cd (by omega),if_neg (fun e=>h3 ⟨by rw[←e];exact h1,by rw[e]⟩)];exact h2
    ·rintro(h1|⟨m,h1,h2,rfl⟩)
     ·refine⟨.inl h1,fun hh=>?_⟩
      have:=hgr i
      rw[hh.2] at h1;exact this h1
     ·rw[cd (by omega)] at h2
      split at h2
      ·cases h2
      ·rename_i hmi
       exact⟨.inr ⟨m,h1,h2,rfl⟩,fun hh=>hmi (hnui _ _ hh.2)⟩
theorem yN {L:Array Bool} (hL:L.size=ops.size) (hdn:Down ops L) {i:Nat} {o:Oper} (ho:ops[i]? =some o) (hni:L.getD i false=false) (hre:∀e∈cg ops i,L.getD e false=true) (bg:AX P mu c nu σ ops i o (ρs i) (sts i) (vals i) (zs i)) {a:Act} {w:World} (hinv:v8 c nu zs ops vals (ρs 0) σ n g L a w)
    {K:Act→World→Prop} {Q':Exit→Act→World→Prop} (hK:∀a' w',v8 c nu zs ops vals (ρs 0) σ n g (L.setIfInBounds i true) a' w'→K a' w'):wpOp P ops Q' i K a w:=by
  have hlt:i<ops.size:=(Array.getElem?_eq_some_iff.1 ho).1
  obtain⟨hd,hs,g',hle,hc',hr',hres⟩:=hinv
  have next:∀ (v:Value) (w':World) (g2:Gh),zV g g2→ay g2 w' (dC c nu zs i (cN c nu zs σ L ops.size))→R g2 (vals i) v→(∀x u,R g' x u→R g2 x u)→
      (∀p,g2.res p↔(g'.res p∧¬ (c.new i=true∧p=nu i)))→K (a.put o.dst v) w':=
    fun v w' g2 q1 q2 q3 q4 q5=>hK _ _ (yO hA hp hguard ht e2 hnui hσ hgr hL hdn ho hni hd hs hr' hres v w' g2 q1 q2 q3 q4 q5)
  have hread:∀s∈o.looksAt ops,bQ ops vals (ρs 0) L ops.size s=(ρs i).get s:=fun s hsm=>by
    have:=mS hA hp ht hL hdn ho hni hre hsm ops.size (Nat.le_refl _)
    rw[this]
    split
    · rename_i q;exact absurd q (by omega)
    · rfl
  have hRE:RE g' n (gY (ρs i) (o.looksAt ops)) a.tmps:=⟨hs,fun s=>by
    rw[er]
    split
    · rename_i hsm;rw[←hread s hsm];exact hr' s
    · exact .any _⟩
  have hop:∀x∈o.op.operands,ev (ρs i) x=ev (gY (ρs i) (o.looksAt ops)) x:=ju (ops:=ops) fun s hsm=>by rw[er,if_pos hsm]
  have leN:∀{g2:Gh},g'.Le g2→zV g g2:=fun h1=>hle.then h1
  unfold wpOp
  rw[ho]
  simp only
  cases hcn:c.cn.contains i with
  | true=>
    have hnw:c.new i=true:=by rw[Cp.new,hcn];rfl
    have htg:=ug hnw
    have hwant:Region.wanted o (yielded ops a.tmps)=true:=by simp[Region.wanted,hguard i o i ho htg]
    rw[hwant,if_pos rfl]
    refine .inl ?_
    have hri:g'.res (nu i):=(hres _).2 (.inr ⟨i,hnw,hni,rfl⟩)
    obtain⟨xs,m,e,sz,hv,hz,hsem⟩:=bg.cn hcn
    refine(dU (dV hop (hsem (cN c nu zs σ L ops.size))) hRE hc').wp ?_
    rintro v w' ⟨g2,x,σ',h1,h2,h3,t,h4,h5,h6⟩
    subst h5;subst h6
    have hri2:g2.res (nu i):=by rw[h1.res];exact hri
    have hrn:=h2.res (nu i) hri2
    have hle2:g2.Le {g2 with tipv:=fun p q=>if p=nu i then g2.tipv t q else g2.tipv p q}:=⟨rfl,fun _ _ _ h=>h,fun _ _ h=>h,fun p q v hv=>by
      simp only
      rw[if_neg (fun e=>by rw[e,hrn.2.1] at hv;cases hv)];exact hv,rfl⟩
    have hle3:=h1.trans hle2
    refine next v w' (({g2 with tipv:=fun p q=>if p=nu i then g2.tipv t q else g2.tipv p q}:Gh).aA fun p=>g2.res p∧p≠nu i) ⟨hle3.w0.trans hle.w0,fun b o v hx=>hle3.bf _ _ _ (hle.bf _ _ _ hx),fun o x hx=>hle3.loc _ _ (hle.loc _ _ hx),fun o n v hx=>hle3.tipv _ _ _ (hle.tipv _ _ _ hx)⟩ ?_ ?_ (fun x u hx=>(hx.le hle3).aA (fun p=>g2.res p∧p≠nu i)) (fun p=>?_)
    · simp only[dC,htg]
      rw[hz]
      exact h2.Ap h4 hri2
    · rw[hv];exact(h3.Ap hle2).aA _
    · change (g2.res p∧p≠nu i)↔_
      rw[h1.res]
      exact⟨fun q=>⟨q.1,fun hh=>q.2 hh.2⟩,fun q=>⟨q.1,fun e=>q.2 ⟨hnw,e⟩⟩⟩
  |false=>
  cases hnwi:c.nw.contains i with
  | true=>
    have hnw:c.new i=true:=by rw[Cp.new,hnwi,Bool.or_true]
    have htg:=ug hnw
    have hwant:Region.wanted o (yielded ops a.tmps)=true:=by simp[Region.wanted,hguard i o i ho htg]
    rw[hwant,if_pos rfl]
    refine .inl ?_
    have hri:g'.res (nu i):=(hres _).2 (.inr ⟨i,hnw,hni,rfl⟩)
    have hf:=hc'.res _ hri
    obtain⟨h1,h3⟩:=bg.nw hcn hnwi
    unfold ew at h1
    split at h1
    · rename_i t hop
      obtain⟨hok,h1⟩:=h1
      split at h1
      · rename_i z hz
        obtain⟨hkn,_,h1⟩:=h1
        obtain⟨zv,hzv,hzr,_⟩:=gm hok hz w
        have hrun:(execOp a.eval o).run P w= .ok (.value (.pointer (some ⟨w.heap.size,0,none⟩))) (w.alloc (.cells zv.cells t)):=by
          have:o=⟨o.dst,.alloc t,o.type,o.pos,o.after,o.guard⟩:=by cases o;simp only at hop;rw[hop]
          rw[this]
          simp[execOp,Instr.alloc,hzv,newVar,newRow]
        have hcf:=hc'.aA (fun p=>g'.res p∧p≠nu i) (by
          obtain⟨M,hM⟩:=hc'.fresh
          exact⟨M,fun o ho h=>(hM o ho).2.2.2 h.1⟩) (fun o ho=>hc'.res o ho.1)
        obtain⟨c1,c2⟩:=(hzr (g'.aA fun p=>g'.res p∧p≠nu i)).cells hkn
        have hcc:=hcf.gh (w':=w.alloc (.cells zv.cells t)) (Below.alloc (Below.refl _ _) (Nat.le_refl _) _) (by simp) (nu i) hf.1 hf.2.2 hf.2.1 (fun h=>h.2 rfl) (.arr t [z]) z.cells.length 1 (fun g3 hle3 hl3 him3=>
          ⟨z.cells.length,zv.cells,⟨1,hl3,by simp[c1]⟩,heap_alloc_new w _,fun r hr=>by rw[List.mem_singleton.1 hr],by simp[c1],fun q cc u hci hui=>by
            rw[jO] at hci
            exact(c2 q cc u hci hui).le hle3,him3⟩)
        have hle2:=Gh.bx (g:=g'.aA fun p=>g'.res p∧p≠nu i) (w.heap.size,z.cells.length,1) (o:=nu i) hf.1
        unfold Oper.wp
        rw[hrun]
        refine next _ _ _ ⟨hle2.w0.trans hle.w0,fun b o v hx=>hle2.bf _ _ _ (hle.bf _ _ _ hx),fun o x hx=>hle2.loc _ _ (hle.loc _ _ hx),fun o n v hx=>hle2.tipv _ _ _ (hle.tipv _ _ _ hx)⟩ ?_ ?_ (fun x u hx=>(hx.aA _).le hle2) (fun p=>?_)
        · simp only[dC,htg]
          rw[←h1]
          exact hcc
        · rw[h3]
          have:=R.ptr (g:=(g'.aA fun p=>g'.res p∧p≠nu i).bj (nu i) (w.heap.size,z.cells.length,1)) (o:=nu i) (i:=0) (off:=0) (b:=w.heap.size) (sz:=z.cells.length) (n:=1) (by simp[Gh.bj])
          simpa using this
        · constructor
          · rintro⟨q1,q2⟩;exact⟨q1,fun hh=>q2 hh.2⟩
          · rintro⟨q1,q2⟩;exact⟨q1,fun e=>q2 ⟨hnw,e⟩⟩
      · exact h1.elim
    · exact h1.elim
  | false=>
    have hnew:c.new i=false:=by rw[Cp.new,hcn,hnwi];rfl
    have hnext:∀ (v:Value) (w':World) (g2:Gh),g'.Le g2→ay g2 w' (dC c nu zs i (cN c nu zs σ L ops.size))→R g2 (vals i) v→K (a.put o.dst v) w':=by
      intro v w' g2 h1 h2 h3
      refine next v w' g2 (hle.then h1) h2 h3 (fun x u hx=>hx.le h1) (fun p=>?_)
      rw[h1.res]
      exact⟨fun q=>⟨q,fun hh=>by have:=hh.1;rw[hnew] at this;cases this⟩,fun q=>q.1⟩
    cases htg:c.iO i with
    | some k=>
      have hwant:Region.wanted o (yielded ops a.tmps)=true:=by simp[Region.wanted,hguard i o k ho htg]
      rw[hwant,if_pos rfl]
      refine .inl ?_
      obtain⟨x,hx,hsem⟩:=bg.ow k hnew htg
      have hsame:=rf hA hp ht (zs:=zs) e2 hnui hL hdn ho hni hre htg ops.size (Nat.le_refl _)
      rw[if_neg (by omega)] at hsame
      refine(dU (dV hop (hsem _ (hsame.trans hx))) hRE hc').wp ?_
      rintro v w' ⟨g2,y,σ',h1,h2,h3,h4,h5⟩
      subst h4;subst h5
      refine hnext v w' g2 h1 ?_ h3
      simp only[dC,htg]
      exact h2
    | none=>
      obtain⟨b,hgd,hskip,hrun⟩:=bg.run htg
      have hnx:dC c nu zs i (cN c nu zs σ L ops.size)=cN c nu zs σ L ops.size:=by simp only[dC,htg]
      rw[hnx] at hnext
      have hgs:=iC (k:=fun c=>c=b) (ops:=ops) (ρ:=gY (ρs i) (o.looksAt ops)) (o:=o) (g:=g') (n:=n) (t:=a.tmps) (by
        unfold bM at hgd ⊢
        cases hg:o.guard with
        |none=>rw[hg] at hgd;exact hgd
        | some jw=>
          obtain⟨j,want⟩:=jw
          rw[hg] at hgd
          simp only at hgd ⊢
          cases hdd:(ops[j]?).bind (·.dst) with
          |none=>rw[hdd] at hgd;exact hgd
          | some s=>
            rw[hdd] at hgd
            simp only at hgd ⊢
            rw[er,if_pos (lU hg hdd)]
            exact hgd) (fun _ _ _ s _=>hRE.get s)
      cases b with
      | true=>
        rw[hgs,if_pos rfl]
        refine .inl ?_
        rcases hrun rfl with ⟨hro,hrd⟩|hfree
        · have hsub:∀m,σ.Sub (cN c nu zs σ L m):=by
            intro m
            induction m with
            |zero=>exact aa.Sub.refl _
            | succ m ihm=>
              simp only[cN]
              cases htm:c.iO m with
              |none=>exact ihm
              | some q'=>
                simp only
                split
                · exact aw ihm (hσ _ _ htm) _
                · exact ihm
          obtain⟨v,r,q1,q2,q3,_⟩:=mR hro (dV hop hrd) hRE (hc'.sub (hsub ops.size))
          unfold Oper.wp
          rw[q1]
          subst q3
          exact hnext v w g' (.refl g') hc' q2
        · refine(dU (dV hop (hfree (cN c nu zs σ L ops.size))) hRE hc').wp ?_
          rintro v w' ⟨g2,x,σ',h1,h2,h3,h4,h5⟩
          subst h4;subst h5
          exact hnext v w' g2 h1 h2 h3
      | false=>
        rw[hgs,if_neg (by simp)]
        exact hnext undef w g' (.refl g') hc' (by rw[hskip rfl];exact gR g')
theorem wM {Q:bk} (hK:Q .normal (ρs ops.size) (sts ops.size)) (hf:∃N,∀o,N≤o→¬g.res o) {L:Array Bool} {a:Act} {w:World} (hL:L.size=ops.size) (hall:∀i,i<ops.size→L.getD i false=true) (hi:v8 c nu zs ops vals (ρs 0) σ n g L a w):mb g n Q .normal a w:=by
  obtain⟨hd,hs,g',hle,hc,hr,hres⟩:=hi
  have he:∀m,m≤ops.size→∀s,bQ ops vals (ρs 0) L m s=(ρs m).get s:=by
    intro m
    induction m with
    |zero=>intro _ s;rfl
    | succ m ih=>
      intro hm s
      rw[oG ht m s (by omega),bQ,ih (by omega) s,hall m (by omega)]
      simp
  have bg:∀m,m≤ops.size→cN c nu zs σ L m=sts m:=by
    intro m
    induction m with
    |zero=>intro _;exact e2.symm
    | succ m ih=>
      intro hm
      have hom:ops[m]? =some (ops[m]'(by omega)):=by simp[show m<ops.size by omega]
      rw[cN,ih (by omega),hall m (by omega)]
      cases htm:c.iO m with
      |some k=>simp only[if_true];exact((ht m _ hom).tg k htm).symm
      |none=>exact((ht m _ hom).no htm).symm
  rw[bg _ (Nat.le_refl _)] at hc
  refine⟨hd,g'.aA g.res,ρs ops.size,sts ops.size,⟨hle.w0,hle.bf,hle.loc,hle.tipv,rfl⟩,⟨hs,fun s=>?_⟩,hc.aA g.res hf (fun o ho=>hc.res o ((hres o).2 (.inl ho))),hK⟩
  rw[←he _ (Nat.le_refl _)];exact(hr s).aA _
theorem yP {Q:bk} (hK:Q .normal (ρs ops.size) (sts ops.size)) (hf:∃N,∀o,N≤o→¬g.res o):∀ (fuel:Nat) (L:Array Bool) (a:Act) (w:World),left ops L≤fuel→L.size=ops.size→Down ops L→(∀j o,ops[j]? =some o→L.getD j false=false→AX P mu c nu σ ops j o (ρs j) (sts j) (vals j) (zs j))→
    v8 c nu zs ops vals (ρs 0) σ n g L a w→wpAny P .any ops (mb g n Q) fuel L a w:=by
  intro fuel
  induction fuel with
  | zero=>
    intro L a w hlf hL hdn hps hinv
    have hall:=oW (Nat.le_zero.1 hlf)
    refine⟨?_,wM hA hp hguard ht e2 hnui hσ hgr hK hf hL hall hinv⟩
    cases hr:Region.ready .any ops L with
    |nil=>rfl
    | cons i r=>
      have hi:=gv hL (i:=i) (by rw[hr];exact List.mem_cons_self)
      rw[hall i hi.1] at hi
      exact absurd hi.2.1 (by simp)
  | succ fuel ih=>
    intro L a w hlf hL hdn hps hinv
    refine⟨fun hr=>wM hA hp hguard ht e2 hnui hσ hgr hK hf hL (lr hA hL hr) hinv,fun i hi=>?_⟩
    obtain⟨hlt,hni,hre⟩:=gv hL hi
    obtain⟨o,ho⟩:∃o,ops[i]? =some o:=⟨ops[i],by simp[hlt]⟩
    refine yN hA hp hguard ht e2 hnui hσ hgr hL hdn ho hni hre (hps i o ho hni) hinv fun a' w' hi'=>?_
    refine ih _ _ _ (by have:=rG hL hlt hni;omega) (by simp[hL]) ?_ ?_ hi'
    · exact xJ hL hdn hlt hre
    · intro j o' ho' hj
      rw[cd (by omega)] at hj
      split at hj
      · cases hj
      · exact hps j o' ho' hj
end
theorem wL {c:Cp} {nu:Nat→Nat} {zs:Nat→Ob} {ops:Array Oper} {vals:Nat→AV} {ρ:Env} {σ:aa} {n:Nat} {g:Gh} {a:Act} {w:World} (hd:a.defers=[]) (he:RE g n ρ a.tmps) (hc:ay g w σ) {N:Nat} (hN:∀o,N≤o→g.loc o=none∧(∀m,g.tipv o m=none)∧σ o=none∧¬g.res o)
    (hnu:nu=fun i=>N+i) (hnewlt:∀i,c.new i=true→i<ops.size):v8 c nu zs ops vals ρ σ n g (Array.replicate ops.size false) a w.drew:=by
  have hnuN:∀i,N≤nu i:=fun i=>by rw[hnu];exact Nat.le_add_right _ _
  have hst0:∀m,cN c nu zs σ (Array.replicate ops.size false) m=σ:=by
    intro m
    induction m with
    |zero=>rfl
    | succ m ih=>
      rw[cN,ih]
      cases c.iO m with
      |none=>rfl
      |some k=>simp only;rw[if_neg (by simp[Array.getD])]
  have hen0:∀m s,bQ ops vals ρ (Array.replicate ops.size false) m s=ρ.get s:=by
    intro m s
    induction m with
    |zero=>rfl
    |succ m ih=>rw[bQ,ih,if_neg];simp[Array.getD]
  refine⟨hd,he.size,g.aA (fun p=>g.res p∨∃m,c.new m=true∧p=nu m),⟨rfl,fun _ _ _ h=>h,fun _ _ h=>h,fun _ _ _ h=>h⟩,?_,fun s=>?_,fun p=>?_⟩
  · rw[hst0]
    refine hc.drew.aA _ ⟨N+ops.size,fun o ho=>?_⟩ (fun o ho=>?_)
    · rintro(h1|⟨m,h1,h2⟩)
      · exact(hN o (by omega)).2.2.2 h1
      · have hm:=hnewlt m h1
        rw[hnu] at h2;simp only at h2;omega
    · rcases ho with h1|⟨m,h1,rfl⟩
      · exact hc.res o h1
      · exact⟨(hN _ (hnuN m)).1,(hN _ (hnuN m)).2.1,(hN _ (hnuN m)).2.2.1⟩
  · rw[hen0]
    exact(he.get s).aA _
  · constructor
    · rintro(h1|⟨m,h1,h2⟩)
      · exact .inl h1
      · exact .inr ⟨m,h1,by simp[Array.getD],h2⟩
    · rintro(h1|⟨m,h1,_,h2⟩)
      · exact .inl h1
      · exact .inr ⟨m,h1,h2⟩
theorem pN {c:Cp} {ops:Array Oper} (hgu:((List.range ops.size).all fun i=>(c.iO i).isNone||(match ops[i]? with|some o=>o.guard.isNone|none=>false))=true):∀i o k,ops[i]? =some o→c.iO i=some k→o.guard=none:=fun i o k ho hk=>by
 have:=List.all_eq_true.1 hgu i (List.mem_range.2 (Array.getElem?_eq_some_iff.1 ho).1)
 rw[ho,hk] at this
 simpa using this
theorem sQ {c:Cp} {ops:Array Oper} (hlt0:((c.cn++c.nw).all fun i=>decide (i<ops.size))=true):∀i,c.new i=true→i<ops.size:=fun i hi=>by
 rw[Cp.new,Bool.or_eq_true] at hi
 have:=List.all_eq_true.1 hlt0 i (by rw[List.mem_append];rcases hi with h|h;exact .inl (List.contains_iff_mem.1 h);exact .inr (List.contains_iff_mem.1 h))
 simpa using this
theorem vu {ops:Array Oper}:left ops (Array.replicate ops.size false)≤ops.size:=by
 unfold left
 exact Nat.le_trans (List.length_filter_le _ _) (by simp)
theorem sr {P:Program} {n:Nat} (mu:List Nat) (c:Cp) {id:Nat} {ops:Array Oper} {Q:bk} {ρ:Env} {σ:aa} (hm:P.follows .mixedOrders=true) (hok:sR c ops=true)
  (h:∀nu:Nat→Nat,(∀i,σ (nu i)=none)→(∀i j,nu i=nu j→i=j)→fK P n mu c nu σ ops ops.toList 0 ρ σ (bw (fun ρ' σ'=>Q .normal ρ' σ') .mk)):W P n (.region id ops true) Q ρ σ:=by
 simp only[sR,Bool.and_eq_true] at hok
 obtain⟨⟨⟨hA,hp⟩,hgu⟩,hlt0⟩:=hok
 intro g a w hd he hc
 obtain⟨N,hN⟩:=hc.fresh
 obtain⟨nu,hnu⟩:∃nu:Nat→Nat,nu=fun i=>N+i:=⟨_,rfl⟩
 have hnuN:∀i,N≤nu i:=fun i=>by rw[hnu];exact Nat.le_add_right _ _
 have hnui:∀i j,nu i=nu j→i=j:=fun i j e=>by rw[hnu] at e;simp only at e;omega
 have hdr:=h nu (fun i=>(hN _ (hnuN i)).2.2.1) hnui
 obtain⟨ρs,sts,vals,zs,e1,e2,ht',hK⟩:=mG _ _ _ _ hdr
 rw[Array.length_toList] at hK
 have ht:∀j o,ops[j]? =some o→yl P n mu c nu σ ops j o (ρs j) (ρs (j+1)) (sts j) (sts (j+1)) (vals j) (zs j):=fun j o ho=>by
  have:=ht' j o (by simpa using ho)
  rwa [Nat.zero_add] at this
 subst e1
 refine wp_region_any hm ?_
 refine yP hA hp (pN hgu) (fun j o ho=>(ht j o ho).te) e2 hnui (fun _ i _=>(hN _ (hnuN i)).2.2.1) (fun i=>(hN _ (hnuN i)).2.2.2) hK ⟨N,fun o ho=>(hN o ho).2.2.2⟩ ops.size _ a _ vu (by simp) (fun i hi=>?_) (fun j o ho _=>(ht j o ho).ps) (wL hd he hc hN hnu (sQ hlt0))
 simp[Array.getD] at hi
section
variable {P:Program} {n:Nat} {Q:bk} {ρ:Env} {σ:aa} {K:Env→aa→Prop} {id:Nat}
theorem yE {mu:List Nat} {c:Cp} {nu:Nat→Nat} {σ0:aa} {ops:Array Oper} {l:List Oper} {i:Nat} (h:fK P n mu c nu σ0 ops l i ρ σ K):fK P n mu c nu σ0 ops l i ρ σ K:=h
instance {mu:List Nat} {c:Cp} {nu:Nat→Nat} {σ0:aa} {ops:Array Oper} {l:List Oper} {i:Nat}:Rd (fK P n mu c nu σ0 ops l i ρ σ K) (fK P n mu c nu σ0 ops l i ρ σ K):=⟨yE⟩
theorem rp [i:Mx P] (mu:List Nat) (cl:Cp) {ops:Array Oper} (h:∀nu:Nat→Nat,(∀i,σ (nu i)=none)→(∀i j,nu i=nu j→i=j)→fK P n mu cl nu σ ops ops.toList 0 ρ σ (bw (fun ρ' σ'=>Q .normal ρ' σ') .mk)) (hok:sR cl ops=true:=by kernel_rfl):W P n (.region id ops true) Q ρ σ:=sr mu cl i.h hok h
end
attribute [go_sem] wk uW mV
end Go.Kern

namespace Go.Kern
open Go.RowKit
structure Wr (p:Prop):Prop where
 o:p
structure Sa (N:Nat):Prop where
structure Mu (l:List Nat):Prop where
class Cs (N:Nat) (p:Prop):Prop where
section
variable {P:Program} {n N:Nat} {Q:bk} {ρ:Env} {σ:aa} {K:Env→aa→Prop} {id:Nat} {c d:Code} {ops:Array Oper} {b:Bool}
instance :Cs N (W P n (.region N ops b) Q ρ σ):=⟨⟩
instance :Cs N (W P n (.seq (.region N ops b) c) Q ρ σ):=⟨⟩
instance :Cs N (W P n (.seq (.seq (.region N ops b) d) c) Q ρ σ):=⟨⟩
instance {x y:Code}:St (W P n (.seq x y) Q ρ σ) (W P n x (bk.then (W P n y Q) Q) ρ σ):=⟨s1⟩
theorem ss {p:Prop} (kS:Sa N) [Cs N p] (h:p):p:=h
theorem zm {mu:List Nat} {r:Prop} (kM:Mu mu) (k:r) (e:prun P n mu ops ops.toList ρ σ (bw (fun ρ' σ'=>Q .normal ρ' σ') .mk)=r:=by
 (first|simp -dsimp (disch:=omega) only[go_sem,kX]|simp -dsimp (disch:=omega) only[go_sem])<;>exact Eq.refl _):W P n (.region id ops false) Q ρ σ:=s3 (e▸k)
theorem zc {o:Operand} {x y:Code} {c d A B:Prop} [i:Bc b c d] (hb:ev ρ o= .bool b) (h:c→A) (k:d→B)
 (e:c→Wr A→W P n x Q ρ σ:=by
  intro kh ka
  first|(have kt:True:=ka.o;contradiction)|exact ka.o)
 (f:d→Wr B→W P n y Q ρ σ:=by
  intro kh ka
  first|(have kt:True:=ka.o;contradiction)|exact ka.o):W P n (.cond o x y) Q ρ σ:=jR hb (fun q=>e (i.t q) ⟨h (i.t q)⟩) (fun q=>f (i.f q) ⟨k (i.f q)⟩)
theorem zy [i:Mx P] {ops:Array Oper} (h:∀nu:Nat→Nat,(∀i,i∈(c0).al++(c0).ap→σ (nu i)=none)→(∀i j,i∈(c0).al++(c0).ap→j∈(c0).al++(c0).ap→nu i=nu j→i=j)→dK P n [] c0 nu ops ops.toList 0 ρ σ (bw (fun ρ' σ'=>Q .normal ρ' σ') .mk)) (hok:uo c0 ops=true:=by kernel_rfl):W P n (.region id ops true) Q ρ σ:=ry [] c0 h hok
end
theorem zr {p q r:Prop} [i:Rd p q] (k:r) (e:q=r:=by
 (first|simp -dsimp (disch:=omega) only[go_sem,kX]|simp -dsimp (disch:=omega) only[go_sem])<;>exact Eq.refl _):p:=i.h (e▸k)
theorem zq {A A':Prop} (ka:Wr A') (e:A=A':=by
 (first|simp -dsimp (disch:=omega) only[go_sem,kh,kX]|simp -dsimp (disch:=omega) only[go_sem,kh])<;>exact Eq.refl _):A:=e▸ka.o
theorem zi {p c A d B A' B':Prop} [i:Sp p c A d B] (h:c→A') (k:d→B')
 (e:c→Wr A'→A:=by
  intro kh ka
  first|(have kt:True:=ka.o;contradiction)|skip
  try refine Go.Kern.rd ?_
  first|exact Go.Kern.zq ka|exact ka.o)
 (f:d→Wr B'→B:=by
  intro kh ka
  first|(have kt:True:=ka.o;contradiction)|skip
  try refine Go.Kern.rd ?_
  first|exact Go.Kern.zq ka|exact ka.o):p:=i.h (fun q=>e q ⟨h q⟩) (fun q=>f q ⟨k q⟩)
theorem g9 {p0 p1:Prop} (a0:p0) (a1:p1):p0∧p1:=⟨a0,a1⟩
theorem g8 {p0 p1 p2:Prop} (a0:p0) (a1:p1) (a2:p2):p0∧p1∧p2:=⟨a0,a1,a2⟩
theorem nO {p0 p1 p2 p3:Prop} (a0:p0) (a1:p1) (a2:p2) (a3:p3):p0∧p1∧p2∧p3:=⟨a0,a1,a2,a3⟩
theorem uS {p0 p1 p2 p3 p4:Prop} (a0:p0) (a1:p1) (a2:p2) (a3:p3) (a4:p4):p0∧p1∧p2∧p3∧p4:=⟨a0,a1,a2,a3,a4⟩
theorem Dc {p0 p1 p2 p3 p4 p5:Prop} (a0:p0) (a1:p1) (a2:p2) (a3:p3) (a4:p4) (a5:p5):p0∧p1∧p2∧p3∧p4∧p5:=⟨a0,a1,a2,a3,a4,a5⟩
theorem qC {p0 p1 p2 p3 p4 p5 p6:Prop} (a0:p0) (a1:p1) (a2:p2) (a3:p3) (a4:p4) (a5:p5) (a6:p6):p0∧p1∧p2∧p3∧p4∧p5∧p6:=⟨a0,a1,a2,a3,a4,a5,a6⟩
theorem Cu {p0 p1 p2 p3 p4 p5 p6 p7:Prop} (a0:p0) (a1:p1) (a2:p2) (a3:p3) (a4:p4) (a5:p5) (a6:p6) (a7:p7):p0∧p1∧p2∧p3∧p4∧p5∧p6∧p7:=⟨a0,a1,a2,a3,a4,a5,a6,a7⟩
theorem A3 {p0 p1 p2 p3 p4 p5 p6 p7 p8:Prop} (a0:p0) (a1:p1) (a2:p2) (a3:p3) (a4:p4) (a5:p5) (a6:p6) (a7:p7) (a8:p8):p0∧p1∧p2∧p3∧p4∧p5∧p6∧p7∧p8:=⟨a0,a1,a2,a3,a4,a5,a6,a7,a8⟩
theorem sx {p0 p1 p2 p3 p4 p5 p6 p7 p8 p9:Prop} (a0:p0) (a1:p1) (a2:p2) (a3:p3) (a4:p4) (a5:p5) (a6:p6) (a7:p7) (a8:p8) (a9:p9):p0∧p1∧p2∧p3∧p4∧p5∧p6∧p7∧p8∧p9:=⟨a0,a1,a2,a3,a4,a5,a6,a7,a8,a9⟩
theorem sv {p0 p1 p2 p3 p4 p5 p6 p7 p8 p9 p10:Prop} (a0:p0) (a1:p1) (a2:p2) (a3:p3) (a4:p4) (a5:p5) (a6:p6) (a7:p7) (a8:p8) (a9:p9) (a10:p10):p0∧p1∧p2∧p3∧p4∧p5∧p6∧p7∧p8∧p9∧p10:=⟨a0,a1,a2,a3,a4,a5,a6,a7,a8,a9,a10⟩
theorem C4 {p0 p1 p2 p3 p4 p5 p6 p7 p8 p9 p10 p11:Prop} (a0:p0) (a1:p1) (a2:p2) (a3:p3) (a4:p4) (a5:p5) (a6:p6) (a7:p7) (a8:p8) (a9:p9) (a10:p10) (a11:p11):p0∧p1∧p2∧p3∧p4∧p5∧p6∧p7∧p8∧p9∧p10∧p11:=⟨a0,a1,a2,a3,a4,a5,a6,a7,a8,a9,a10,a11⟩
theorem zX {p0 p1 p2 p3 p4 p5 p6 p7 p8 p9 p10 p11 p12 p13 p14:Prop} (a0:p0) (a1:p1) (a2:p2) (a3:p3) (a4:p4) (a5:p5) (a6:p6) (a7:p7) (a8:p8) (a9:p9) (a10:p10) (a11:p11) (a12:p12) (a13:p13) (a14:p14):p0∧p1∧p2∧p3∧p4∧p5∧p6∧p7∧p8∧p9∧p10∧p11∧p12∧p13∧p14:=⟨a0,a1,a2,a3,a4,a5,a6,a7,a8,a9,a10,a11,a12,a13,a14⟩
theorem Ci {p0 p1 p2 p3 p4 p5 p6 p7 p8 p9 p10 p11 p12 p13 p14 p15 p16 p17:Prop} (a0:p0) (a1:p1) (a2:p2) (a3:p3) (a4:p4) (a5:p5) (a6:p6) (a7:p7) (a8:p8) (a9:p9) (a10:p10) (a11:p11) (a12:p12) (a13:p13) (a14:p14) (a15:p15) (a16:p16) (a17:p17):p0∧p1∧p2∧p3∧p4∧p5∧p6∧p7∧p8∧p9∧p10∧p11∧p12∧p13∧p14∧p15∧p16∧p17:=⟨a0,a1,a2,a3,a4,a5,a6,a7,a8,a9,a10,a11,a12,a13,a14,a15,a16,a17⟩
theorem zw {p q:Prop} (k:q) (h:Wr q→p:=by
 intro kk
 iterate 1
  fail_if_success (refine Go.Kern.ss kS ?_)
  first|refine Go.Kern.gS ?_|refine Go.Kern.wT rfl ?_|refine Go.Kern.wF rfl ?_|refine Go.Kern.wt rfl ?_|refine Go.Kern.wf rfl ?_|refine Go.Kern.zm kM ?_|refine Go.Kern.zr ?_|refine Go.Kern.e0 (by decide) ?_|(refine And.intro ?_ ?_;omega)|refine And.intro (of_eq_true Go.Kern.fp) ?_|refine Go.Kern.gT ?_|refine Go.Kern.gF ?_|refine Exists.intro _ (Exists.intro _ (And.intro (And.intro rfl rfl) ?_))|refine Go.Kern.s1 ?_|fail
 repeat
  fail_if_success (refine Go.Kern.ss kS ?_)
  first|refine Go.Kern.gS ?_|refine Go.Kern.wT rfl ?_|refine Go.Kern.wF rfl ?_|refine Go.Kern.wt rfl ?_|refine Go.Kern.wf rfl ?_|refine Go.Kern.zm kM ?_|refine Go.Kern.zr ?_|refine Go.Kern.e0 (by decide) ?_|(refine And.intro ?_ ?_;omega)|refine And.intro (of_eq_true Go.Kern.fp) ?_|refine Go.Kern.gT ?_|refine Go.Kern.gF ?_|refine Exists.intro _ (Exists.intro _ (And.intro (And.intro rfl rfl) ?_))|refine Go.Kern.s1 ?_|fail
 exact kk.o):p:=h ⟨k⟩
theorem zh {p q:Prop} (k:q) (h:Wr q→p:=by
 intro kk
 iterate 1
  fail_if_success (refine Go.Kern.ss kS ?_)
  first|refine Go.Kern.yj (by assumption) ?_|refine Go.Kern.gS ?_|refine Go.Kern.wT rfl ?_|refine Go.Kern.wF rfl ?_|refine Go.Kern.wt rfl ?_|refine Go.Kern.wf rfl ?_|refine Go.Kern.zm kM ?_|refine Go.Kern.zr ?_|refine Go.Kern.e0 (by decide) ?_|(refine And.intro ?_ ?_;omega)|refine And.intro (of_eq_true Go.Kern.fp) ?_|refine Go.Kern.gT ?_|refine Go.Kern.gF ?_|refine Exists.intro _ (Exists.intro _ (And.intro (And.intro rfl rfl) ?_))|refine Go.Kern.s1 ?_|fail
 repeat
  fail_if_success (refine Go.Kern.ss kS ?_)
  first|refine Go.Kern.yj (by assumption) ?_|refine Go.Kern.gS ?_|refine Go.Kern.wT rfl ?_|refine Go.Kern.wF rfl ?_|refine Go.Kern.wt rfl ?_|refine Go.Kern.wf rfl ?_|refine Go.Kern.zm kM ?_|refine Go.Kern.zr ?_|refine Go.Kern.e0 (by decide) ?_|(refine And.intro ?_ ?_;omega)|refine And.intro (of_eq_true Go.Kern.fp) ?_|refine Go.Kern.gT ?_|refine Go.Kern.gF ?_|refine Exists.intro _ (Exists.intro _ (And.intro (And.intro rfl rfl) ?_))|refine Go.Kern.s1 ?_|fail
 exact kk.o):p:=h ⟨k⟩
def ef (σ τ:aa) (k:SK) (n:Nat) (e sz:Nat):Prop:=(k= .nil∧n=0)∨∃t,k= .tip t∧τ t=some (.tip n e sz)∧σ t=none∧0<n
theorem ef.new {σ τ:aa} {k:SK} {n:Nat} {e sz c:Nat} (h:ef σ τ k n e sz) (hc:τ c=none) (X:Ob):ef σ (τ.put c X) k n e sz:=by
 rcases h with h|⟨t,h1,h2,h3⟩
 ·exact .inl h
 ·exact .inr ⟨t,h1,aD h2 hc X,h3⟩
theorem ef.drop {σ τ:aa} {k:SK} {n:Nat} {e sz c:Nat} {e':TypeId} {rows:List AV} (h:ef σ τ k n e sz) (hc:τ c=some (.arr e' rows)):ef σ (τ.drop c) k n e sz:=by
 rcases h with h|⟨t,h1,h2,h3⟩
 ·exact .inl h
 ·exact .inr ⟨t,h1,by rw[eT (fun q=>by rw[q,hc] at h2;cases h2)];exact h2,h3⟩
theorem ef.arr {σ τ:aa} {k:SK} {n:Nat} {e sz c:Nat} {e':TypeId} {rows:List AV} (h:ef σ τ k n e sz) (hc:τ c=some (.arr e' rows)) (rows':List AV):ef σ (τ.put c (.arr e' rows')) k n e sz:=by
 rcases h with h|⟨t,h1,h2,h3⟩
 ·exact .inl h
 ·exact .inr ⟨t,h1,by rw[au (fun q=>by rw[q,hc] at h2;cases h2)];exact h2,h3⟩
theorem ap {σ0 σ:aa} {kd:SK} {xs ys:List AV} {e:TypeId} {sz:Nat} {k:KK} (hs:σ0.Sub σ) (H:ef σ0 σ kd xs.length e sz) (hk:∀ (t:Nat) (τ:aa),σ0.Sub τ→ef σ0 τ (.tip t) (xs.length+ys.length) e sz→(∀o x,σ o=some x→(∀n e s,x≠ .tip n e s)→τ o=some x)→k (.sl (.tip t) (xs++ys)) τ) (hy:ys≠[]:=by simp):vV kd xs ys σ e sz k:=by
 have hp:0<ys.length:=List.length_pos_iff.2 hy
 rcases H with ⟨rfl,h0⟩|⟨t,rfl,h1,h2,h3⟩
 ·have hx:=List.eq_nil_of_length_eq_zero h0
  subst hx
  intro o ho
  have:=hk o (σ.put o (.tip ys.length e sz))
  rw[List.nil_append,List.length_nil,Nat.zero_add] at this
  exact this (aw hs (bo hs ho) _) (.inr ⟨o,rfl,ao _ _ _,bo hs ho,hp⟩) (fun p x hx _=>by rw[au (fun q=>by rw[q,ho] at hx;cases hx)];exact hx)
 ·refine⟨h1,?_⟩
  rw[List.length_append]
  refine hk t _ (aw hs h2 _) (.inr ⟨t,rfl,ao _ _ _,h2,by omega⟩) (fun p x hx hn=>?_)
  rw[au (fun q=>by rw[q,h1] at hx;injection hx with hx;exact hn _ _ _ hx.symm)];exact hx
def Ax {α:Type} (l:List α):SK:=if l=[] then .nil else .bf
def ee:List AV→List AV→Prop
 | [],[]=>True
 |x::xs,y::ys=>bV x.cells y.cells∧ee xs ys
 |_,_=>False
theorem ee.refl:∀l:List AV,ee l l
 | []=>trivial
 |x::l=>⟨bV.refl _,ee.refl l⟩
theorem ee.set {x y:AV} (h:bV x.cells y.cells):∀ (l:List AV) (i:Nat),ee (l.set i x) (l.set i y)
 | [],_=>trivial
 |z::l,0=>⟨h,ee.refl l⟩
 |z::l,i+1=>⟨bV.refl _,ee.set h l i⟩
theorem ee.len:∀{l m:List AV},ee l m→l.length=m.length
 | [],[],_=>rfl
 |x::l,y::m,h=>by simp[ee.len h.2]
 | [],_::_,h=>h.elim
 |_::_,[],h=>h.elim
theorem bV.app:∀{a b c d:List AV},bV a b→bV c d→bV (a++c) (b++d)
 | [],[],_,_,_,h=>h
 |x::a,y::b,_,_,h,h2=>⟨h.1,bV.app h.2 h2⟩
 | [],_::_,_,_,h,_=>h.elim
 |_::_,[],_,_,h,_=>h.elim
theorem ee.cells:∀{l m:List AV},ee l m→bV (ar l) (ar m)
  | [],[],_=>trivial
  | x::l,y::m,h=>by
    have:=bV.app h.1 (ee.cells h.2)
    simpa [ar] using this
  | [],_::_,h=>h.elim
  |_::_,[],h=>h.elim
end Go.Kern

namespace Go.Proofs.YtgfjihpbphplhaaGreat
open Go.Kern
theorem Di:ae Tryz.prog 3= {ok:=true,kind:=(.int .i64),size:=1,bytes:=8,elem:=0,key:=0,fields:=[],zero:=some (.int .i64 0),kk:=(.int .i64)}:=by kernel_rfl
theorem Dh:ae Tryz.prog 4= {ok:=true,kind:= .bool,size:=1,bytes:=1,elem:=0,key:=0,fields:=[],zero:=some (.bool false),kk:= .bool}:=by kernel_rfl
theorem Dg:ae Tryz.prog 5= {ok:=true,kind:=(.int .u8),size:=1,bytes:=1,elem:=0,key:=0,fields:=[],zero:=some (.int .u8 0),kk:=(.int .u8)}:=by kernel_rfl
theorem Df:ae Tryz.prog 9= {ok:=true,kind:= .str,size:=1,bytes:=16,elem:=0,key:=0,fields:=[],zero:=some (.str ⟨#[]⟩),kk:= .str}:=by kernel_rfl
theorem CM:ae Tryz.prog 22= {ok:=true,kind:= .slice,size:=1,bytes:=24,elem:=130,key:=0,fields:=[],zero:=some (.sl .nil []),kk:= .slice}:=by kernel_rfl
theorem CL:ae Tryz.prog 23= {ok:=true,kind:= .slice,size:=1,bytes:=24,elem:=139,key:=0,fields:=[],zero:=some (.sl .nil []),kk:= .slice}:=by kernel_rfl
theorem CK:ae Tryz.prog 24= {ok:=true,kind:= .slice,size:=1,bytes:=24,elem:=66,key:=0,fields:=[],zero:=some (.sl .nil []),kk:= .slice}:=by kernel_rfl
theorem CJ:ae Tryz.prog 26= {ok:=true,kind:= .struct,size:=3,bytes:=72,elem:=0,key:=0,fields:=[(0,1,false,22),(1,1,false,23),(2,1,false,24)],zero:=some (.agg [.sl .nil [],.sl .nil [],.sl .nil []]),kk:= .struct}:=by kernel_rfl
theorem CI:ae Tryz.prog 27= {ok:=true,kind:= .ptr,size:=1,bytes:=8,elem:=123,key:=0,fields:=[],zero:=some (.nilp),kk:= .ptr}:=by kernel_rfl
theorem CH:ae Tryz.prog 32= {ok:=true,kind:= .slice,size:=1,bytes:=24,elem:=3,key:=0,fields:=[],zero:=some (.sl .nil []),kk:= .slice}:=by kernel_rfl
theorem CG:ae Tryz.prog 48= {ok:=true,kind:= .ptr,size:=1,bytes:=8,elem:=127,key:=0,fields:=[],zero:=some (.nilp),kk:= .ptr}:=by kernel_rfl
theorem CF:ae Tryz.prog 49= {ok:=true,kind:=(.int .i64),size:=1,bytes:=8,elem:=0,key:=0,fields:=[],zero:=some (.int .i64 0),kk:=(.int .i64)}:=by kernel_rfl
theorem CE:ae Tryz.prog 51= {ok:=true,kind:= .struct,size:=3,bytes:=40,elem:=0,key:=0,fields:=[(0,1,false,9),(1,1,false,9),(2,1,false,49)],zero:=some (.agg [.str ⟨#[]⟩,.str ⟨#[]⟩,.int .i64 0]),kk:= .wide [.str,.str,.int .i64]}:=by kernel_rfl
theorem CD:ae Tryz.prog 62= {ok:=true,kind:= .slice,size:=1,bytes:=24,elem:=134,key:=0,fields:=[],zero:=some (.sl .nil []),kk:= .slice}:=by kernel_rfl
theorem CC:ae Tryz.prog 63= {ok:=true,kind:= .slice,size:=1,bytes:=24,elem:=145,key:=0,fields:=[],zero:=some (.sl .nil []),kk:= .slice}:=by kernel_rfl
theorem CB:ae Tryz.prog 64= {ok:=true,kind:= .slice,size:=1,bytes:=24,elem:=68,key:=0,fields:=[],zero:=some (.sl .nil []),kk:= .slice}:=by kernel_rfl
theorem CA:ae Tryz.prog 66= {ok:=true,kind:= .struct,size:=6,bytes:=104,elem:=0,key:=0,fields:=[(0,1,false,9),(1,1,false,3),(2,1,false,3),(3,1,false,62),(4,1,false,63),(5,1,false,64)],zero:=some (.agg [.str ⟨#[]⟩,.int .i64 0,.int .i64 0,.sl .nil [],.sl .nil [],.sl .nil []]),kk:= .struct}:=by kernel_rfl
theorem Cz:ae Tryz.prog 68= {ok:=true,kind:= .struct,size:=2,bytes:=24,elem:=0,key:=0,fields:=[(0,1,false,9),(1,1,false,3)],zero:=some (.agg [.str ⟨#[]⟩,.int .i64 0]),kk:= .wide [.str,.int .i64]}:=by kernel_rfl
theorem Cy:ae Tryz.prog 69= {ok:=true,kind:= .slice,size:=1,bytes:=24,elem:=157,key:=0,fields:=[],zero:=some (.sl .nil []),kk:= .slice}:=by kernel_rfl
theorem Cx:ae Tryz.prog 88= {ok:=true,kind:= .slice,size:=1,bytes:=24,elem:=9,key:=0,fields:=[],zero:=some (.sl .nil []),kk:= .slice}:=by kernel_rfl
theorem BX:ae Tryz.prog 111= {ok:=true,kind:= .struct,size:=2,bytes:=32,elem:=0,key:=0,fields:=[(0,1,false,3),(1,1,false,32)],zero:=some (.agg [.int .i64 0,.sl .nil []]),kk:= .struct}:=by kernel_rfl
theorem BW:ae Tryz.prog 120= {ok:=true,kind:= .ptr,size:=1,bytes:=8,elem:=223,key:=0,fields:=[],zero:=some (.nilp),kk:= .ptr}:=by kernel_rfl
theorem BV:ae Tryz.prog 121= {ok:=true,kind:= .slice,size:=1,bytes:=24,elem:=182,key:=0,fields:=[],zero:=some (.sl .nil []),kk:= .slice}:=by kernel_rfl
theorem BU:ae Tryz.prog 123= {ok:=true,kind:= .struct,size:=3,bytes:=40,elem:=0,key:=0,fields:=[(0,1,false,3),(1,1,false,120),(2,1,false,121)],zero:=some (.agg [.int .i64 0,.nilp,.sl .nil []]),kk:= .struct}:=by kernel_rfl
theorem BT:ae Tryz.prog 124= {ok:=true,kind:= .map,size:=1,bytes:=8,elem:=3,key:=9,fields:=[],zero:=some (.nilmap),kk:= .map}:=by kernel_rfl
theorem BS:ae Tryz.prog 125= {ok:=true,kind:= .slice,size:=1,bytes:=24,elem:=143,key:=0,fields:=[],zero:=some (.sl .nil []),kk:= .slice}:=by kernel_rfl
theorem BR:ae Tryz.prog 127= {ok:=true,kind:= .struct,size:=5,bytes:=104,elem:=0,key:=0,fields:=[(0,3,true,26),(3,1,false,124),(4,1,false,125)],zero:=some (.agg [.sl .nil [],.sl .nil [],.sl .nil [],.nilmap,.sl .nil []]),kk:= .struct}:=by kernel_rfl
theorem BQ:ae Tryz.prog 128= {ok:=true,kind:= .slice,size:=1,bytes:=24,elem:=136,key:=0,fields:=[],zero:=some (.sl .nil []),kk:= .slice}:=by kernel_rfl
theorem BP:ae Tryz.prog 130= {ok:=true,kind:= .struct,size:=2,bytes:=40,elem:=0,key:=0,fields:=[(0,1,false,9),(1,1,false,128)],zero:=some (.agg [.str ⟨#[]⟩,.sl .nil []]),kk:= .struct}:=by kernel_rfl
theorem BO:ae Tryz.prog 132= {ok:=true,kind:=(.int .u32),size:=1,bytes:=4,elem:=0,key:=0,fields:=[],zero:=some (.int .u32 0),kk:=(.int .u32)}:=by kernel_rfl
theorem BN:ae Tryz.prog 134= {ok:=true,kind:= .struct,size:=2,bytes:=16,elem:=0,key:=0,fields:=[(0,1,false,132),(1,1,false,3)],zero:=some (.agg [.int .u32 0,.int .i64 0]),kk:= .wide [.int .u32,.int .i64]}:=by kernel_rfl
theorem BM:ae Tryz.prog 136= {ok:=true,kind:= .struct,size:=5,bytes:=40,elem:=0,key:=0,fields:=[(0,2,true,134),(2,1,false,3),(3,1,false,3),(4,1,false,4)],zero:=some (.agg [.int .u32 0,.int .i64 0,.int .i64 0,.int .i64 0,.bool false]),kk:= .wide [.int .u32,.int .i64,.int .i64,.int .i64,.bool]}:=by kernel_rfl
theorem BL:ae Tryz.prog 137= {ok:=true,kind:= .slice,size:=1,bytes:=24,elem:=163,key:=0,fields:=[],zero:=some (.sl .nil []),kk:= .slice}:=by kernel_rfl
theorem BK:ae Tryz.prog 139= {ok:=true,kind:= .struct,size:=2,bytes:=40,elem:=0,key:=0,fields:=[(0,1,false,9),(1,1,false,137)],zero:=some (.agg [.str ⟨#[]⟩,.sl .nil []]),kk:= .struct}:=by kernel_rfl
theorem BJ:ae Tryz.prog 143= {ok:=true,kind:= .slice,size:=1,bytes:=24,elem:=147,key:=0,fields:=[],zero:=some (.sl .nil []),kk:= .slice}:=by kernel_rfl
theorem BI:ae Tryz.prog 145= {ok:=true,kind:= .struct,size:=4,bytes:=56,elem:=0,key:=0,fields:=[(0,1,false,9),(1,1,false,9),(2,1,false,9),(3,1,false,4)],zero:=some (.agg [.str ⟨#[]⟩,.str ⟨#[]⟩,.str ⟨#[]⟩,.bool false]),kk:= .wide [.str,.str,.str,.bool]}:=by kernel_rfl
theorem BH:ae Tryz.prog 147= {ok:=true,kind:= .struct,size:=5,bytes:=48,elem:=0,key:=0,fields:=[(0,1,false,3),(1,1,false,4),(2,1,false,4),(3,1,false,9),(4,1,false,9)],zero:=some (.agg [.int .i64 0,.bool false,.bool false,.str ⟨#[]⟩,.str ⟨#[]⟩]),kk:= .wide [.int .i64,.bool,.bool,.str,.str]}:=by kernel_rfl
theorem BG:ae Tryz.prog 150= {ok:=true,kind:= .func,size:=1,bytes:=8,elem:=0,key:=0,fields:=[],zero:=some (.nilfn),kk:= .func}:=by kernel_rfl
theorem BF:ae Tryz.prog 157= {ok:=true,kind:= .struct,size:=2,bytes:=16,elem:=0,key:=0,fields:=[(0,1,false,3),(1,1,false,3)],zero:=some (.agg [.int .i64 0,.int .i64 0]),kk:= .wide [.int .i64,.int .i64]}:=by kernel_rfl
theorem BE:ae Tryz.prog 159= {ok:=true,kind:= .struct,size:=4,bytes:=48,elem:=0,key:=0,fields:=[(0,1,false,9),(1,1,false,9),(2,2,true,157)],zero:=some (.agg [.str ⟨#[]⟩,.str ⟨#[]⟩,.int .i64 0,.int .i64 0]),kk:= .wide [.str,.str,.int .i64,.int .i64]}:=by kernel_rfl
theorem BD:ae Tryz.prog 161= {ok:=true,kind:= .struct,size:=7,bytes:=104,elem:=0,key:=0,fields:=[(0,1,false,3),(1,1,false,3),(2,1,false,3),(3,1,false,69),(4,1,false,69),(5,1,false,4),(6,1,false,32)],zero:=some (.agg [.int .i64 0,.int .i64 0,.int .i64 0,.sl .nil [],.sl .nil [],.bool false,.sl .nil []]),kk:= .struct}:=by kernel_rfl
theorem BC:ae Tryz.prog 163= {ok:=true,kind:= .struct,size:=13,bytes:=168,elem:=0,key:=0,fields:=[(0,1,false,3),(1,1,false,4),(2,4,true,159),(6,7,true,161)],zero:=some (.agg [.int .i64 0,.bool false,.str ⟨#[]⟩,.str ⟨#[]⟩,.int .i64 0,.int .i64 0,.int .i64 0,.int .i64 0,.int .i64 0,.sl .nil [],.sl .nil [],.bool false,.sl .nil []]),kk:= .struct}:=by kernel_rfl
theorem BB:ae Tryz.prog 182= {ok:=true,kind:= .slice,size:=1,bytes:=24,elem:=111,key:=0,fields:=[],zero:=some (.sl .nil []),kk:= .slice}:=by kernel_rfl
theorem BA:ae Tryz.prog 189= {ok:=true,kind:= .func,size:=1,bytes:=8,elem:=0,key:=0,fields:=[],zero:=some (.nilfn),kk:= .func}:=by kernel_rfl
theorem Bz:ae Tryz.prog 191= {ok:=true,kind:= .func,size:=1,bytes:=8,elem:=0,key:=0,fields:=[],zero:=some (.nilfn),kk:= .func}:=by kernel_rfl
theorem By:ae Tryz.prog 193= {ok:=true,kind:= .func,size:=1,bytes:=8,elem:=0,key:=0,fields:=[],zero:=some (.nilfn),kk:= .func}:=by kernel_rfl
theorem Bx:ae Tryz.prog 209= {ok:=true,kind:=(.int .u64),size:=1,bytes:=8,elem:=0,key:=0,fields:=[],zero:=some (.int .u64 0),kk:=(.int .u64)}:=by kernel_rfl
theorem Bw:ae Tryz.prog 211= {ok:=true,kind:= .func,size:=1,bytes:=8,elem:=0,key:=0,fields:=[],zero:=some (.nilfn),kk:= .func}:=by kernel_rfl
theorem Bv:ae Tryz.prog 221= {ok:=true,kind:= .map,size:=1,bytes:=8,elem:=224,key:=3,fields:=[],zero:=some (.nilmap),kk:= .map}:=by kernel_rfl
theorem Bu:ae Tryz.prog 223= {ok:=true,kind:= .struct,size:=1,bytes:=8,elem:=0,key:=0,fields:=[(0,1,false,221)],zero:=some (.agg [.nilmap]),kk:= .struct}:=by kernel_rfl
theorem Bt:ae Tryz.prog 224= {ok:=true,kind:= .map,size:=1,bytes:=8,elem:=3,key:=3,fields:=[],zero:=some (.nilmap),kk:= .map}:=by kernel_rfl
theorem Bs:ae Tryz.prog 247= {ok:=true,kind:= .func,size:=1,bytes:=8,elem:=0,key:=0,fields:=[],zero:=some (.nilfn),kk:= .func}:=by kernel_rfl
theorem Br:ae Tryz.prog 250= {ok:=true,kind:= .func,size:=1,bytes:=8,elem:=0,key:=0,fields:=[],zero:=some (.nilfn),kk:= .func}:=by kernel_rfl
theorem Bq:ae Tryz.prog 254= {ok:=true,kind:= .func,size:=1,bytes:=8,elem:=0,key:=0,fields:=[],zero:=some (.nilfn),kk:= .func}:=by kernel_rfl
theorem Bp:ae Tryz.prog 260= {ok:=true,kind:= .map,size:=1,bytes:=8,elem:=4,key:=9,fields:=[],zero:=some (.nilmap),kk:= .map}:=by kernel_rfl
theorem Bo:ae Tryz.prog 272= {ok:=true,kind:=(.int .u64),size:=1,bytes:=8,elem:=0,key:=0,fields:=[],zero:=some (.int .u64 0),kk:=(.int .u64)}:=by kernel_rfl
theorem Bn:ae Tryz.prog 281= {ok:=true,kind:= .struct,size:=2,bytes:=32,elem:=0,key:=0,fields:=[(0,1,false,3),(1,1,false,32)],zero:=some (.agg [.int .i64 0,.sl .nil []]),kk:= .struct}:=by kernel_rfl
theorem Bl:ae Tryz.prog 283= {ok:=true,kind:= .map,size:=1,bytes:=8,elem:=281,key:=3,fields:=[],zero:=some (.nilmap),kk:= .map}:=by kernel_rfl
theorem Bk:ae Tryz.prog 286= {ok:=true,kind:= .func,size:=1,bytes:=8,elem:=0,key:=0,fields:=[],zero:=some (.nilfn),kk:= .func}:=by kernel_rfl
theorem Bj:ae Tryz.prog 325= {ok:=true,kind:= .ptr,size:=1,bytes:=8,elem:=368,key:=0,fields:=[],zero:=some (.nilp),kk:= .ptr}:=by kernel_rfl
theorem Bi:ae Tryz.prog 327= {ok:=true,kind:= .func,size:=1,bytes:=8,elem:=0,key:=0,fields:=[],zero:=some (.nilfn),kk:= .func}:=by kernel_rfl
theorem Bh:ae Tryz.prog 345= {ok:=true,kind:= .struct,size:=3,bytes:=32,elem:=0,key:=0,fields:=[(0,1,false,9),(1,1,false,3),(2,1,false,49)],zero:=some (.agg [.str ⟨#[]⟩,.int .i64 0,.int .i64 0]),kk:= .wide [.str,.int .i64,.int .i64]}:=by kernel_rfl
theorem Bg:ae Tryz.prog 347= {ok:=true,kind:= .ptr,size:=1,bytes:=8,elem:=380,key:=0,fields:=[],zero:=some (.nilp),kk:= .ptr}:=by kernel_rfl
theorem Bf:ae Tryz.prog 349= {ok:=true,kind:= .struct,size:=3,bytes:=16,elem:=0,key:=0,fields:=[(0,1,false,4),(1,1,false,4),(2,1,false,347)],zero:=some (.agg [.bool false,.bool false,.nilp]),kk:= .struct}:=by kernel_rfl
theorem Be:ae Tryz.prog 354= {ok:=true,kind:= .slice,size:=1,bytes:=24,elem:=5,key:=0,fields:=[],zero:=some (.sl .nil []),kk:= .slice}:=by kernel_rfl
theorem Bd:ae Tryz.prog 366= {ok:=true,kind:= .slice,size:=1,bytes:=24,elem:=370,key:=0,fields:=[],zero:=some (.sl .nil []),kk:= .slice}:=by kernel_rfl
theorem Bb:ae Tryz.prog 368= {ok:=true,kind:= .struct,size:=4,bytes:=48,elem:=0,key:=0,fields:=[(0,1,false,327),(1,1,false,366),(2,1,false,224),(3,1,false,3)],zero:=some (.agg [.nilfn,.sl .nil [],.nilmap,.int .i64 0]),kk:= .struct}:=by kernel_rfl
theorem Ba:ae Tryz.prog 370= {ok:=true,kind:= .struct,size:=4,bytes:=48,elem:=0,key:=0,fields:=[(0,1,false,3),(1,2,true,281),(3,1,false,3)],zero:=some (.agg [.int .i64 0,.int .i64 0,.sl .nil [],.int .i64 0]),kk:= .struct}:=by kernel_rfl
theorem A9:ae Tryz.prog 377= {ok:=true,kind:= .slice,size:=1,bytes:=24,elem:=391,key:=0,fields:=[],zero:=some (.sl .nil []),kk:= .slice}:=by kernel_rfl
theorem A8:ae Tryz.prog 378= {ok:=true,kind:= .slice,size:=1,bytes:=24,elem:=347,key:=0,fields:=[],zero:=some (.sl .nil []),kk:= .slice}:=by kernel_rfl
theorem A7:ae Tryz.prog 380= {ok:=true,kind:= .struct,size:=5,bytes:=64,elem:=0,key:=0,fields:=[(0,1,false,3),(1,1,false,4),(2,1,false,4),(3,1,false,377),(4,1,false,378)],zero:=some (.agg [.int .i64 0,.bool false,.bool false,.sl .nil [],.sl .nil []]),kk:= .struct}:=by kernel_rfl
theorem A6:ae Tryz.prog 391= {ok:=true,kind:= .struct,size:=2,bytes:=16,elem:=0,key:=0,fields:=[(0,1,false,3),(1,1,false,3)],zero:=some (.agg [.int .i64 0,.int .i64 0]),kk:= .wide [.int .i64,.int .i64]}:=by kernel_rfl
attribute [go_sem] Di Dh Dg Df CM CL CK CJ CI CH CG CF CE CD CC CB CA Cz Cy Cx BX BW BV BU BT BS BR BQ BP BO BN BM BL BK BJ BI BH BG BF BE BD BC BB BA Bz By Bx Bw Bv Bu Bt Bs Br Bq Bp Bo Bn Bl Bk Bj Bi Bh Bg Bf Be Bd Bb Ba A9 A8 A7 A6
theorem mZ:Tryz.prog.follows .mixedOrders=true:=by kernel_rfl
theorem mx:Tryz.prog.follows .mixedOrders=true:=mZ
instance :Mx Tryz.prog:=⟨mx⟩
end Go.Proofs.YtgfjihpbphplhaaGreat

namespace Go.Proofs.YtgfjihpbphplhaaGreat
open Go.Kern
def aj {α:Type} (E:α→AV) (l:List α):List AV:=l.map E
theorem cb {α:Type} (E:α→AV) (l:List α):(aj E l).length=l.length:=by simp[aj]
theorem vC {α:Type} [Inhabited α] (E:α→AV) {l:List α} {i:Nat} (h:i<l.length):(aj E l).getD i .any=E (l.getD i default):=getD_map E default h
theorem lk {α:Type} (E:α→AV) (l:List α) (i:Nat):(aj E l).take i=aj E (l.take i):=by simp[aj,List.map_take]
theorem cW {α:Type} (n:Nat) (E:α→AV) (h:∀x,oM n (E x)=true) (l:List α):aO n (aj E l)=true:=jG n E h l
theorem tE {l:List Int} {i:Nat} (h:i<l.length):(ints l).getD i .any= .int .i64 (l.getD i default):=gy h
structure gU where
 a:Int
 b:Int
instance :Inhabited gU:=⟨⟨0,0⟩⟩
structure yA where
 p:gU
 ge:Int
 le:Int
 permit:Bool
instance :Inhabited yA:=⟨⟨default,0,0,false⟩⟩
structure nP where
 asn:Int
 n:Int
instance :Inhabited nP:=⟨⟨0,0⟩⟩
structure Ch where
 list:ByteArray
 path:ByteArray
 c:nP
instance :Inhabited Ch:=⟨⟨.empty,.empty,default⟩⟩
structure A0 where
 pref:Int
 med:Int
 origin:Int
 kA:SK
 add:List nP
 kD:SK
 del:List nP
 clear:Bool
 kP:SK
 pre:List Int
instance :Inhabited A0:=⟨⟨0,0,0,.nil,[],.nil,[],false,.nil,[]⟩⟩
structure hJ where
 n:Int
 permit:Bool
 m:Ch
 s:A0
instance :Inhabited hJ:=⟨⟨0,false,default,default⟩⟩
structure bS where
 name:ByteArray
 k:SK
 l:List hJ
instance :Inhabited bS:=⟨⟨.empty,.nil,[]⟩⟩
structure cC where
 name:ByteArray
 k:SK
 l:List yA
instance :Inhabited cC:=⟨⟨.empty,.nil,[]⟩⟩
structure jm where
 name:ByteArray
 imp:ByteArray
 exp:ByteArray
 client:Bool
instance :Inhabited jm:=⟨⟨.empty,.empty,.empty,false⟩⟩
structure gB where
 name:ByteArray
 cost:Int
instance :Inhabited gB:=⟨⟨.empty,0⟩⟩
structure bX where
 name:ByteArray
 asn:Int
 id:Int
 kN:SK
 nets:List gU
 kB:SK
 nbrs:List jm
 kL:SK
 links:List gB
instance :Inhabited bX:=⟨⟨.empty,0,0,.nil,[],.nil,[],.nil,[]⟩⟩
structure fN where
 kL:SK
 lists:List cC
 kM:SK
 maps:List bS
 kR:SK
 routers:List bX
def aS (x:gU):AV:= .agg [.int .u32 x.a,.int .i64 x.b]
def bA (x:yA):AV:= .agg [.int .u32 x.p.a,.int .i64 x.p.b,.int .i64 x.ge,.int .i64 x.le,.bool x.permit]
def aY (x:nP):AV:= .agg [.int .i64 x.asn,.int .i64 x.n]
def vG (x:Ch):AV:= .agg [.str x.list,.str x.path,.int .i64 x.c.asn,.int .i64 x.c.n]
def AJ (x:A0):AV:= .agg [.int .i64 x.pref,.int .i64 x.med,.int .i64 x.origin,.sl x.kA (aj aY x.add),.sl x.kD (aj aY x.del),.bool x.clear,.sl x.kP (ints x.pre)]
def aM (x:hJ):AV:= .agg [.int .i64 x.n,.bool x.permit,.str x.m.list,.str x.m.path,.int .i64 x.m.c.asn,.int .i64 x.m.c.n,
 .int .i64 x.s.pref,.int .i64 x.s.med,.int .i64 x.s.origin,.sl x.s.kA (aj aY x.s.add),.sl x.s.kD (aj aY x.s.del),.bool x.s.clear,.sl x.s.kP (ints x.s.pre)]
def ba (x:bS):AV:= .agg [.str x.name,.sl x.k (aj aM x.l)]
def bd (x:cC):AV:= .agg [.str x.name,.sl x.k (aj bA x.l)]
def aT (x:jm):AV:= .agg [.str x.name,.str x.imp,.str x.exp,.bool x.client]
def aW (x:gB):AV:= .agg [.str x.name,.int .i64 x.cost]
def aC (x:bX):AV:= .agg [.str x.name,.int .i64 x.asn,.int .i64 x.id,.sl x.kN (aj aS x.nets),.sl x.kB (aj aT x.nbrs),.sl x.kL (aj aW x.links)]
def aX (x:fN):AV:= .agg [.sl x.kL (aj bd x.lists),.sl x.kM (aj ba x.maps),.sl x.kR (aj aC x.routers)]
def eI (n:Int):AV:= .int .i64 n
def eB (b:UInt8):AV:= .int .u8 b.toNat
def bE {α τ:Type} (step:τ→α→Bool×τ):τ→Int→List α→Int×τ
 |st,_,[]=>(-1,st)
 |st,i,x::l=>if (step st x).1=true then(i,(step st x).2) else bE step (step st x).2 (i+1) l
theorem cT {α τ:Type} [Inhabited α] (step:τ→α→Bool×τ) (st:τ) (l:List α) (i:Nat) (h:i<l.length) (k:Int):bE step st k (l.drop i)=if (step st (l.getD i default)).1=true then(k,(step st (l.getD i default)).2) else bE step (step st (l.getD i default)).2 (k+1) (l.drop (i+1)):=by
 rw[List.drop_eq_getElem_cons h,bE]
 simp[List.getD_eq_getElem?_getD,h]
def anyS {α τ:Type} (step:τ→α→Bool×τ):τ→List α→Bool×τ
 |st,[]=>(false,st)
 |st,x::l=>if (step st x).1=true then(true,(step st x).2) else anyS step (step st x).2 l
theorem c9 {α τ:Type} (step:τ→α→Bool×τ):∀ (l:List α) (st:τ) (k:Int),0≤k→(decide (0≤(bE step st k l).1),(bE step st k l).2)=anyS step st l
  | [],st,k,_=>rfl
  | x::l,st,k,h=>by
    have ih:=c9 step l (step st x).2 (k+1) (by omega)
    by_cases hx:(step st x).1=true
    · simp only[bE,anyS,hx,if_true,h,decide_true]
    · simp only[bE,anyS,hx,if_false];exact ih
theorem fj {α:Type} (q:α→Bool):∀l:List α,(anyS (fun(_:Unit) x=>(q x,())) () l).1=l.any q
  | []=>rfl
  | x::l=>by
    simp only[anyS,List.any_cons]
    by_cases hx:q x=true
    · rw[if_pos hx,hx];rfl
    · rw[if_neg hx,fj q l];simp[hx]
def bW {α τ:Type} (most:Int) (step:τ→α→Bool×τ) (st:τ) (l:List α):Bool×τ:=
 if (l.length:Int)≤most then(!(anyS (fun st x=>(!(step st x).1,(step st x).2)) st l).1,(anyS (fun st x=>(!(step st x).1,(step st x).2)) st l).2) else(false,st)
def cB {α:Type} (most:Int) (q:α→Bool) (l:List α):Bool:=decide ((l.length:Int)≤most)&&l.all q
theorem db {α:Type} (most:Int) (q:α→Bool) (l:List α):(bW most (fun(_:Unit) x=>(q x,())) () l).1=cB most q l:=by
 unfold bW cB
 split
 ·rename_i h
  simp only[fj (fun x=> !q x) l,decide_eq_true h,Bool.true_and]
  rw[List.all_eq_not_any_not]
 ·rename_i h
  simp[h]
def B (s:ByteArray):List UInt8:=s.data.toList
theorem tT (s:ByteArray):cr s=aj eB (B s):=rfl
theorem c8 (s:ByteArray):(B s).length=s.size:=by simp[B]
theorem C2 (s:ByteArray) (i:Nat):s.data.getD i 0=(B s).getD i default:=by
 simp[B,List.getD_eq_getElem?_getD,Array.getD_eq_getD_getElem?];rfl
theorem Ac {s t:ByteArray}:B s=B t↔s=t:=by
 constructor
 ·intro h
  cases s;cases t
  simp only[B] at h
  congr 1
  exact Array.toList_inj.1 h
 ·rintro rfl;rfl
theorem sq {α:Type} [Inhabited α] (q:α→Bool) {l:List α} {i:Nat} (h:i<l.length):(l.drop i).all q=(q (l.getD i default)&&(l.drop (i+1)).all q):=by
 rw[List.drop_eq_getElem_cons h,List.all_cons]
 simp[List.getD_eq_getElem?_getD,h]
attribute [go_sem] C2 tT aS bA aY vG AJ aM ba bd aT aW aC aX eI eB cb vC tE CY CZ C0 C1 CQ CR CU CV Dd Int.toNat_natCast
end Go.Proofs.YtgfjihpbphplhaaGreat

namespace Go.Proofs.YtgfjihpbphplhaaGreat
open Go.Kern
set_option maxRecDepth 100000
set_option maxHeartbeats 4000000
attribute [local irreducible] af W
theorem ze {τ:Type} (fi:Nat) (cs:List AV) (S:τ→aa) (step:τ→cC→Bool×τ) (k:SK) (l:List cC) (hl:l.length<4611686018427387904) (hf:∀ (st:τ) (x:cC),x∈l→af Tryz.prog fi (bd x::cs) (S st) (fun r s=>r= .bool (step st x).1∧s=S (step st x).2)) (st:τ):
  af Tryz.prog 221 [.sl k (aj bd l),.fn fi cs] (S st) (fun r s=>r= .int .i64 (bE step st 0 l).1∧s=S (bE step st 0 l).2):=by
 refine ai [.tmp 4] 19 Tryz.func221 (by rfl) rfl rfl rfl rfl ?_
 repeat' first|refine zw ?_|refine zy fun nu _ _=>?_|refine zc rfl (fun h=>?_) fun h=>?_|refine zi (fun h=>?_) fun h=>?_|exact .intro|fail
 refine ak (fun x:Nat×τ=>[(0,.sl k (aj bd l)),(1,.fn fi cs),(6,.sl k (aj bd l)),(7,.int .i64 l.length),(8,.int .i64 x.1)]) (fun x=>S x.2) (fun x=>x.1≤l.length∧bE step st 0 l=bE step x.2 x.1 (l.drop x.1)) (fun x=>l.length-x.1) (0,st) ⟨Nat.zero_le _,rfl⟩ (Env.ab (by simp[Env.Has,Env.get])) (aa.Sub.refl _) ?_
 rintro⟨i,u⟩ ⟨hi,hor⟩
 simp only at hi hor
 by_cases hlt:i<l.length
 ·have ho:=cT step u l i hlt i
  have hfx:=hf u (l.getD i default) (by rw[List.getD_eq_getElem?_getD,List.getElem?_eq_getElem hlt];exact List.getElem_mem hlt)
  repeat' first|refine zw ?_|refine zy fun nu _ _=>?_|refine zc rfl (fun h=>?_) fun h=>?_|refine zi (fun h=>?_) fun h=>?_|exact .intro|refine uw (hfx) ?_|fail
  ·rw[hor,ho,if_pos h];exact⟨_,aa.Sub.refl _,rfl,rfl⟩
  ·rw[if_neg (by rw[h];simp)] at ho
   exact⟨(i+1,_),by simp only;omega,⟨by simp only;omega,by rw[hor,ho];rfl⟩,Env.ab (by simp[Env.Has,Env.get]),aa.Sub.refl _⟩
 ·have hi':i=l.length:=by omega
  subst hi'
  repeat' first|refine zw ?_|refine zy fun nu _ _=>?_|refine zc rfl (fun h=>?_) fun h=>?_|refine zi (fun h=>?_) fun h=>?_|exact .intro|fail
  rw[hor,List.drop_length];exact⟨_,aa.Sub.refl _,rfl,rfl⟩
theorem uK {τ:Type} (fi:Nat) (cs:List AV) (S:τ→aa) (step:τ→cC→Bool×τ) (k:SK) (l:List cC) (hl:l.length<4611686018427387904) (hf:∀ (st:τ) (x:cC),x∈l→af Tryz.prog fi (bd x::cs) (S st) (fun r s=>r= .bool (step st x).1∧s=S (step st x).2)) (st:τ):
  af Tryz.prog 157 [.sl k (aj bd l),.fn fi cs] (S st) (fun r s=>r= .bool (anyS step st l).1∧s=S (anyS step st l).2):=by
 have e:=c9 step l st 0 (Int.le_refl _)
 refine ai [.tmp 4] 9 Tryz.func157 (by rfl) rfl rfl rfl rfl ?_
 repeat' first|refine zw ?_|refine zy fun nu _ _=>?_|refine zc rfl (fun h=>?_) fun h=>?_|refine zi (fun h=>?_) fun h=>?_|exact .intro|refine uw (ze fi cs S step k l hl hf st) ?_|fail
 rw[←e];exact⟨_,aa.Sub.refl _,rfl,rfl⟩
theorem xD (fi:Nat) (cs:List AV) (x:cC) (σ τ:aa) (b:Bool) (h:af Tryz.prog fi (bd x::cs) σ (fun r s=>r= .bool b∧s=τ)):
  af Tryz.prog 158 [bd x,.ip (.fn fi cs) 0] σ (fun r s=>r= .bool (!b)∧s=τ):=by
 refine ai [.tmp 3] 8 Tryz.func158 (by rfl) rfl rfl rfl rfl ?_
 repeat' first|refine zw ?_|refine zy fun nu _ _=>?_|refine zc rfl (fun h=>?_) fun h=>?_|refine zi (fun h=>?_) fun h=>?_|exact .intro|refine uw (h) ?_|fail
theorem zu {τ:Type} (fi:Nat) (cs:List AV) (S:τ→aa) (step:τ→cC→Bool×τ) (k:SK) (l:List cC) (most:Int) (hl:l.length<4611686018427387904) (hf:∀ (st:τ) (x:cC),x∈l→af Tryz.prog fi (bd x::cs) (S st) (fun r s=>r= .bool (step st x).1∧s=S (step st x).2)) (st:τ):
  af Tryz.prog 107 [.sl k (aj bd l),.int .i64 most,.fn fi cs] (S st) (fun r s=>r= .bool (bW most step st l).1∧s=S (bW most step st l).2):=by
 have hc:=uK 158 [.ip (.fn fi cs) 0] S (fun st x=>(!(step st x).1,(step st x).2)) k l hl (fun st x hx=>xD fi cs x _ _ _ (hf st x hx)) st
 unfold bW
 refine ai [.tmp 6] 17 Tryz.func107 (by rfl) rfl rfl rfl rfl ?_
 by_cases hm:(l.length:Int)≤most
 ·rw[if_pos hm]
  (have kX:=@hm;repeat' first|refine zw ?_|refine zy fun nu _ _=>?_|refine zc rfl (fun h=>?_) fun h=>?_|refine zi (fun h=>?_) fun h=>?_|exact .intro|refine uw (hc) ?_|fail);all_goals clear kX
 ·rw[if_neg hm]
  (have kX:=@hm;repeat' first|refine zw ?_|refine zy fun nu _ _=>?_|refine zc rfl (fun h=>?_) fun h=>?_|refine zi (fun h=>?_) fun h=>?_|exact .intro|fail);all_goals clear kX
theorem xx (fi:Nat) (cs:List AV) (q:cC→Bool) (k:SK) (l:List cC) (most:Int) (hl:l.length<4611686018427387904) (hf:∀x:cC,x∈l→Pure Tryz.prog fi (bd x::cs) (.bool (q x))):
  Pure Tryz.prog 107 [.sl k (aj bd l),.int .i64 most,.fn fi cs] (.bool (cB most q l)):=fun σ=>by
 rw[←db]
 exact zu fi cs (fun _:Unit=>σ) (fun _ x=>(q x,())) k l most hl (fun _ x hx=>hf x hx σ) ()
theorem zd {τ:Type} (fi:Nat) (cs:List AV) (S:τ→aa) (step:τ→bS→Bool×τ) (k:SK) (l:List bS) (hl:l.length<4611686018427387904) (hf:∀ (st:τ) (x:bS),x∈l→af Tryz.prog fi (ba x::cs) (S st) (fun r s=>r= .bool (step st x).1∧s=S (step st x).2)) (st:τ):
  af Tryz.prog 222 [.sl k (aj ba l),.fn fi cs] (S st) (fun r s=>r= .int .i64 (bE step st 0 l).1∧s=S (bE step st 0 l).2):=by
 refine ai [.tmp 4] 19 Tryz.func222 (by rfl) rfl rfl rfl rfl ?_
 repeat' first|refine zw ?_|refine zy fun nu _ _=>?_|refine zc rfl (fun h=>?_) fun h=>?_|refine zi (fun h=>?_) fun h=>?_|exact .intro|fail
 refine ak (fun x:Nat×τ=>[(0,.sl k (aj ba l)),(1,.fn fi cs),(6,.sl k (aj ba l)),(7,.int .i64 l.length),(8,.int .i64 x.1)]) (fun x=>S x.2) (fun x=>x.1≤l.length∧bE step st 0 l=bE step x.2 x.1 (l.drop x.1)) (fun x=>l.length-x.1) (0,st) ⟨Nat.zero_le _,rfl⟩ (Env.ab (by simp[Env.Has,Env.get])) (aa.Sub.refl _) ?_
 rintro⟨i,u⟩ ⟨hi,hor⟩
 simp only at hi hor
 by_cases hlt:i<l.length
 ·have ho:=cT step u l i hlt i
  have hfx:=hf u (l.getD i default) (by rw[List.getD_eq_getElem?_getD,List.getElem?_eq_getElem hlt];exact List.getElem_mem hlt)
  repeat' first|refine zw ?_|refine zy fun nu _ _=>?_|refine zc rfl (fun h=>?_) fun h=>?_|refine zi (fun h=>?_) fun h=>?_|exact .intro|refine uw (hfx) ?_|fail
  ·rw[hor,ho,if_pos h];exact⟨_,aa.Sub.refl _,rfl,rfl⟩
  ·rw[if_neg (by rw[h];simp)] at ho
   exact⟨(i+1,_),by simp only;omega,⟨by simp only;omega,by rw[hor,ho];rfl⟩,Env.ab (by simp[Env.Has,Env.get]),aa.Sub.refl _⟩
 ·have hi':i=l.length:=by omega
  subst hi'
  repeat' first|refine zw ?_|refine zy fun nu _ _=>?_|refine zc rfl (fun h=>?_) fun h=>?_|refine zi (fun h=>?_) fun h=>?_|exact .intro|fail
  rw[hor,List.drop_length];exact⟨_,aa.Sub.refl _,rfl,rfl⟩
theorem uJ {τ:Type} (fi:Nat) (cs:List AV) (S:τ→aa) (step:τ→bS→Bool×τ) (k:SK) (l:List bS) (hl:l.length<4611686018427387904) (hf:∀ (st:τ) (x:bS),x∈l→af Tryz.prog fi (ba x::cs) (S st) (fun r s=>r= .bool (step st x).1∧s=S (step st x).2)) (st:τ):
  af Tryz.prog 160 [.sl k (aj ba l),.fn fi cs] (S st) (fun r s=>r= .bool (anyS step st l).1∧s=S (anyS step st l).2):=by
 have e:=c9 step l st 0 (Int.le_refl _)
 refine ai [.tmp 4] 9 Tryz.func160 (by rfl) rfl rfl rfl rfl ?_
 repeat' first|refine zw ?_|refine zy fun nu _ _=>?_|refine zc rfl (fun h=>?_) fun h=>?_|refine zi (fun h=>?_) fun h=>?_|exact .intro|refine uw (zd fi cs S step k l hl hf st) ?_|fail
 rw[←e];exact⟨_,aa.Sub.refl _,rfl,rfl⟩
theorem xC (fi:Nat) (cs:List AV) (x:bS) (σ τ:aa) (b:Bool) (h:af Tryz.prog fi (ba x::cs) σ (fun r s=>r= .bool b∧s=τ)):
  af Tryz.prog 161 [ba x,.ip (.fn fi cs) 0] σ (fun r s=>r= .bool (!b)∧s=τ):=by
 refine ai [.tmp 3] 8 Tryz.func161 (by rfl) rfl rfl rfl rfl ?_
 repeat' first|refine zw ?_|refine zy fun nu _ _=>?_|refine zc rfl (fun h=>?_) fun h=>?_|refine zi (fun h=>?_) fun h=>?_|exact .intro|refine uw (h) ?_|fail
theorem zt {τ:Type} (fi:Nat) (cs:List AV) (S:τ→aa) (step:τ→bS→Bool×τ) (k:SK) (l:List bS) (most:Int) (hl:l.length<4611686018427387904) (hf:∀ (st:τ) (x:bS),x∈l→af Tryz.prog fi (ba x::cs) (S st) (fun r s=>r= .bool (step st x).1∧s=S (step st x).2)) (st:τ):
  af Tryz.prog 110 [.sl k (aj ba l),.int .i64 most,.fn fi cs] (S st) (fun r s=>r= .bool (bW most step st l).1∧s=S (bW most step st l).2):=by
 have hc:=uJ 161 [.ip (.fn fi cs) 0] S (fun st x=>(!(step st x).1,(step st x).2)) k l hl (fun st x hx=>xC fi cs x _ _ _ (hf st x hx)) st
 unfold bW
 refine ai [.tmp 6] 17 Tryz.func110 (by rfl) rfl rfl rfl rfl ?_
 by_cases hm:(l.length:Int)≤most
 ·rw[if_pos hm]
  (have kX:=@hm;repeat' first|refine zw ?_|refine zy fun nu _ _=>?_|refine zc rfl (fun h=>?_) fun h=>?_|refine zi (fun h=>?_) fun h=>?_|exact .intro|refine uw (hc) ?_|fail);all_goals clear kX
 ·rw[if_neg hm]
  (have kX:=@hm;repeat' first|refine zw ?_|refine zy fun nu _ _=>?_|refine zc rfl (fun h=>?_) fun h=>?_|refine zi (fun h=>?_) fun h=>?_|exact .intro|fail);all_goals clear kX
theorem xw (fi:Nat) (cs:List AV) (q:bS→Bool) (k:SK) (l:List bS) (most:Int) (hl:l.length<4611686018427387904) (hf:∀x:bS,x∈l→Pure Tryz.prog fi (ba x::cs) (.bool (q x))):
  Pure Tryz.prog 110 [.sl k (aj ba l),.int .i64 most,.fn fi cs] (.bool (cB most q l)):=fun σ=>by
 rw[←db]
 exact zt fi cs (fun _:Unit=>σ) (fun _ x=>(q x,())) k l most hl (fun _ x hx=>hf x hx σ) ()
theorem za {τ:Type} (fi:Nat) (cs:List AV) (S:τ→aa) (step:τ→bX→Bool×τ) (k:SK) (l:List bX) (hl:l.length<4611686018427387904) (hf:∀ (st:τ) (x:bX),x∈l→af Tryz.prog fi (aC x::cs) (S st) (fun r s=>r= .bool (step st x).1∧s=S (step st x).2)) (st:τ):
  af Tryz.prog 231 [.sl k (aj aC l),.fn fi cs] (S st) (fun r s=>r= .int .i64 (bE step st 0 l).1∧s=S (bE step st 0 l).2):=by
 refine ai [.tmp 4] 19 Tryz.func231 (by rfl) rfl rfl rfl rfl ?_
 repeat' first|refine zw ?_|refine zy fun nu _ _=>?_|refine zc rfl (fun h=>?_) fun h=>?_|refine zi (fun h=>?_) fun h=>?_|exact .intro|fail
 refine ak (fun x:Nat×τ=>[(0,.sl k (aj aC l)),(1,.fn fi cs),(6,.sl k (aj aC l)),(7,.int .i64 l.length),(8,.int .i64 x.1)]) (fun x=>S x.2) (fun x=>x.1≤l.length∧bE step st 0 l=bE step x.2 x.1 (l.drop x.1)) (fun x=>l.length-x.1) (0,st) ⟨Nat.zero_le _,rfl⟩ (Env.ab (by simp[Env.Has,Env.get])) (aa.Sub.refl _) ?_
 rintro⟨i,u⟩ ⟨hi,hor⟩
 simp only at hi hor
 by_cases hlt:i<l.length
 ·have ho:=cT step u l i hlt i
  have hfx:=hf u (l.getD i default) (by rw[List.getD_eq_getElem?_getD,List.getElem?_eq_getElem hlt];exact List.getElem_mem hlt)
  repeat' first|refine zw ?_|refine zy fun nu _ _=>?_|refine zc rfl (fun h=>?_) fun h=>?_|refine zi (fun h=>?_) fun h=>?_|exact .intro|refine uw (hfx) ?_|fail
  ·rw[hor,ho,if_pos h];exact⟨_,aa.Sub.refl _,rfl,rfl⟩
  ·rw[if_neg (by rw[h];simp)] at ho
   exact⟨(i+1,_),by simp only;omega,⟨by simp only;omega,by rw[hor,ho];rfl⟩,Env.ab (by simp[Env.Has,Env.get]),aa.Sub.refl _⟩
 ·have hi':i=l.length:=by omega
  subst hi'
  repeat' first|refine zw ?_|refine zy fun nu _ _=>?_|refine zc rfl (fun h=>?_) fun h=>?_|refine zi (fun h=>?_) fun h=>?_|exact .intro|fail
  rw[hor,List.drop_length];exact⟨_,aa.Sub.refl _,rfl,rfl⟩
theorem uI {τ:Type} (fi:Nat) (cs:List AV) (S:τ→aa) (step:τ→bX→Bool×τ) (k:SK) (l:List bX) (hl:l.length<4611686018427387904) (hf:∀ (st:τ) (x:bX),x∈l→af Tryz.prog fi (aC x::cs) (S st) (fun r s=>r= .bool (step st x).1∧s=S (step st x).2)) (st:τ):
  af Tryz.prog 167 [.sl k (aj aC l),.fn fi cs] (S st) (fun r s=>r= .bool (anyS step st l).1∧s=S (anyS step st l).2):=by
 have e:=c9 step l st 0 (Int.le_refl _)
 refine ai [.tmp 4] 9 Tryz.func167 (by rfl) rfl rfl rfl rfl ?_
 repeat' first|refine zw ?_|refine zy fun nu _ _=>?_|refine zc rfl (fun h=>?_) fun h=>?_|refine zi (fun h=>?_) fun h=>?_|exact .intro|refine uw (za fi cs S step k l hl hf st) ?_|fail
 rw[←e];exact⟨_,aa.Sub.refl _,rfl,rfl⟩
theorem xz (fi:Nat) (cs:List AV) (x:bX) (σ τ:aa) (b:Bool) (h:af Tryz.prog fi (aC x::cs) σ (fun r s=>r= .bool b∧s=τ)):
  af Tryz.prog 168 [aC x,.ip (.fn fi cs) 0] σ (fun r s=>r= .bool (!b)∧s=τ):=by
 refine ai [.tmp 3] 8 Tryz.func168 (by rfl) rfl rfl rfl rfl ?_
 repeat' first|refine zw ?_|refine zy fun nu _ _=>?_|refine zc rfl (fun h=>?_) fun h=>?_|refine zi (fun h=>?_) fun h=>?_|exact .intro|refine uw (h) ?_|fail
theorem zn {τ:Type} (fi:Nat) (cs:List AV) (S:τ→aa) (step:τ→bX→Bool×τ) (k:SK) (l:List bX) (most:Int) (hl:l.length<4611686018427387904) (hf:∀ (st:τ) (x:bX),x∈l→af Tryz.prog fi (aC x::cs) (S st) (fun r s=>r= .bool (step st x).1∧s=S (step st x).2)) (st:τ):
  af Tryz.prog 112 [.sl k (aj aC l),.int .i64 most,.fn fi cs] (S st) (fun r s=>r= .bool (bW most step st l).1∧s=S (bW most step st l).2):=by
 have hc:=uI 168 [.ip (.fn fi cs) 0] S (fun st x=>(!(step st x).1,(step st x).2)) k l hl (fun st x hx=>xz fi cs x _ _ _ (hf st x hx)) st
 unfold bW
 refine ai [.tmp 6] 17 Tryz.func112 (by rfl) rfl rfl rfl rfl ?_
 by_cases hm:(l.length:Int)≤most
 ·rw[if_pos hm]
  (have kX:=@hm;repeat' first|refine zw ?_|refine zy fun nu _ _=>?_|refine zc rfl (fun h=>?_) fun h=>?_|refine zi (fun h=>?_) fun h=>?_|exact .intro|refine uw (hc) ?_|fail);all_goals clear kX
 ·rw[if_neg hm]
  (have kX:=@hm;repeat' first|refine zw ?_|refine zy fun nu _ _=>?_|refine zc rfl (fun h=>?_) fun h=>?_|refine zi (fun h=>?_) fun h=>?_|exact .intro|fail);all_goals clear kX
theorem xt (fi:Nat) (cs:List AV) (q:bX→Bool) (k:SK) (l:List bX) (most:Int) (hl:l.length<4611686018427387904) (hf:∀x:bX,x∈l→Pure Tryz.prog fi (aC x::cs) (.bool (q x))):
  Pure Tryz.prog 112 [.sl k (aj aC l),.int .i64 most,.fn fi cs] (.bool (cB most q l)):=fun σ=>by
 rw[←db]
 exact zn fi cs (fun _:Unit=>σ) (fun _ x=>(q x,())) k l most hl (fun _ x hx=>hf x hx σ) ()
theorem zg {τ:Type} (fi:Nat) (cs:List AV) (S:τ→aa) (step:τ→hJ→Bool×τ) (k:SK) (l:List hJ) (hl:l.length<4611686018427387904) (hf:∀ (st:τ) (x:hJ),x∈l→af Tryz.prog fi (aM x::cs) (S st) (fun r s=>r= .bool (step st x).1∧s=S (step st x).2)) (st:τ):
  af Tryz.prog 286 [.sl k (aj aM l),.fn fi cs] (S st) (fun r s=>r= .int .i64 (bE step st 0 l).1∧s=S (bE step st 0 l).2):=by
 refine ai [.tmp 4] 19 Tryz.func286 (by rfl) rfl rfl rfl rfl ?_
 repeat' first|refine zw ?_|refine zy fun nu _ _=>?_|refine zc rfl (fun h=>?_) fun h=>?_|refine zi (fun h=>?_) fun h=>?_|exact .intro|fail
 refine ak (fun x:Nat×τ=>[(0,.sl k (aj aM l)),(1,.fn fi cs),(6,.sl k (aj aM l)),(7,.int .i64 l.length),(8,.int .i64 x.1)]) (fun x=>S x.2) (fun x=>x.1≤l.length∧bE step st 0 l=bE step x.2 x.1 (l.drop x.1)) (fun x=>l.length-x.1) (0,st) ⟨Nat.zero_le _,rfl⟩ (Env.ab (by simp[Env.Has,Env.get])) (aa.Sub.refl _) ?_
 rintro⟨i,u⟩ ⟨hi,hor⟩
 simp only at hi hor
 by_cases hlt:i<l.length
 ·have ho:=cT step u l i hlt i
  have hfx:=hf u (l.getD i default) (by rw[List.getD_eq_getElem?_getD,List.getElem?_eq_getElem hlt];exact List.getElem_mem hlt)
  repeat' first|refine zw ?_|refine zy fun nu _ _=>?_|refine zc rfl (fun h=>?_) fun h=>?_|refine zi (fun h=>?_) fun h=>?_|exact .intro|refine uw (hfx) ?_|fail
  ·rw[hor,ho,if_pos h];exact⟨_,aa.Sub.refl _,rfl,rfl⟩
  ·rw[if_neg (by rw[h];simp)] at ho
   exact⟨(i+1,_),by simp only;omega,⟨by simp only;omega,by rw[hor,ho];rfl⟩,Env.ab (by simp[Env.Has,Env.get]),aa.Sub.refl _⟩
 ·have hi':i=l.length:=by omega
  subst hi'
  repeat' first|refine zw ?_|refine zy fun nu _ _=>?_|refine zc rfl (fun h=>?_) fun h=>?_|refine zi (fun h=>?_) fun h=>?_|exact .intro|fail
  rw[hor,List.drop_length];exact⟨_,aa.Sub.refl _,rfl,rfl⟩
theorem zL {τ:Type} (fi:Nat) (cs:List AV) (S:τ→aa) (step:τ→hJ→Bool×τ) (k:SK) (l:List hJ) (hl:l.length<4611686018427387904) (hf:∀ (st:τ) (x:hJ),x∈l→af Tryz.prog fi (aM x::cs) (S st) (fun r s=>r= .bool (step st x).1∧s=S (step st x).2)) (st:τ):
  af Tryz.prog 223 [.sl k (aj aM l),.fn fi cs] (S st) (fun r s=>r= .bool (anyS step st l).1∧s=S (anyS step st l).2):=by
 have e:=c9 step l st 0 (Int.le_refl _)
 refine ai [.tmp 4] 9 Tryz.func223 (by rfl) rfl rfl rfl rfl ?_
 repeat' first|refine zw ?_|refine zy fun nu _ _=>?_|refine zc rfl (fun h=>?_) fun h=>?_|refine zi (fun h=>?_) fun h=>?_|exact .intro|refine uw (zg fi cs S step k l hl hf st) ?_|fail
 rw[←e];exact⟨_,aa.Sub.refl _,rfl,rfl⟩
theorem xG (fi:Nat) (cs:List AV) (x:hJ) (σ τ:aa) (b:Bool) (h:af Tryz.prog fi (aM x::cs) σ (fun r s=>r= .bool b∧s=τ)):
  af Tryz.prog 224 [aM x,.ip (.fn fi cs) 0] σ (fun r s=>r= .bool (!b)∧s=τ):=by
 refine ai [.tmp 3] 8 Tryz.func224 (by rfl) rfl rfl rfl rfl ?_
 repeat' first|refine zw ?_|refine zy fun nu _ _=>?_|refine zc rfl (fun h=>?_) fun h=>?_|refine zi (fun h=>?_) fun h=>?_|exact .intro|refine uw (h) ?_|fail
theorem zB {τ:Type} (fi:Nat) (cs:List AV) (S:τ→aa) (step:τ→hJ→Bool×τ) (k:SK) (l:List hJ) (most:Int) (hl:l.length<4611686018427387904) (hf:∀ (st:τ) (x:hJ),x∈l→af Tryz.prog fi (aM x::cs) (S st) (fun r s=>r= .bool (step st x).1∧s=S (step st x).2)) (st:τ):
  af Tryz.prog 162 [.sl k (aj aM l),.int .i64 most,.fn fi cs] (S st) (fun r s=>r= .bool (bW most step st l).1∧s=S (bW most step st l).2):=by
 have hc:=zL 224 [.ip (.fn fi cs) 0] S (fun st x=>(!(step st x).1,(step st x).2)) k l hl (fun st x hx=>xG fi cs x _ _ _ (hf st x hx)) st
 unfold bW
 refine ai [.tmp 6] 17 Tryz.func162 (by rfl) rfl rfl rfl rfl ?_
 by_cases hm:(l.length:Int)≤most
 ·rw[if_pos hm]
  (have kX:=@hm;repeat' first|refine zw ?_|refine zy fun nu _ _=>?_|refine zc rfl (fun h=>?_) fun h=>?_|refine zi (fun h=>?_) fun h=>?_|exact .intro|refine uw (hc) ?_|fail);all_goals clear kX
 ·rw[if_neg hm]
  (have kX:=@hm;repeat' first|refine zw ?_|refine zy fun nu _ _=>?_|refine zc rfl (fun h=>?_) fun h=>?_|refine zi (fun h=>?_) fun h=>?_|exact .intro|fail);all_goals clear kX
theorem zb {τ:Type} (fi:Nat) (cs:List AV) (S:τ→aa) (step:τ→gU→Bool×τ) (k:SK) (l:List gU) (hl:l.length<4611686018427387904) (hf:∀ (st:τ) (x:gU),x∈l→af Tryz.prog fi (aS x::cs) (S st) (fun r s=>r= .bool (step st x).1∧s=S (step st x).2)) (st:τ):
  af Tryz.prog 297 [.sl k (aj aS l),.fn fi cs] (S st) (fun r s=>r= .int .i64 (bE step st 0 l).1∧s=S (bE step st 0 l).2):=by
 refine ai [.tmp 4] 19 Tryz.func297 (by rfl) rfl rfl rfl rfl ?_
 repeat' first|refine zw ?_|refine zy fun nu _ _=>?_|refine zc rfl (fun h=>?_) fun h=>?_|refine zi (fun h=>?_) fun h=>?_|exact .intro|fail
 refine ak (fun x:Nat×τ=>[(0,.sl k (aj aS l)),(1,.fn fi cs),(6,.sl k (aj aS l)),(7,.int .i64 l.length),(8,.int .i64 x.1)]) (fun x=>S x.2) (fun x=>x.1≤l.length∧bE step st 0 l=bE step x.2 x.1 (l.drop x.1)) (fun x=>l.length-x.1) (0,st) ⟨Nat.zero_le _,rfl⟩ (Env.ab (by simp[Env.Has,Env.get])) (aa.Sub.refl _) ?_
 rintro⟨i,u⟩ ⟨hi,hor⟩
 simp only at hi hor
 by_cases hlt:i<l.length
 ·have ho:=cT step u l i hlt i
  have hfx:=hf u (l.getD i default) (by rw[List.getD_eq_getElem?_getD,List.getElem?_eq_getElem hlt];exact List.getElem_mem hlt)
  repeat' first|refine zw ?_|refine zy fun nu _ _=>?_|refine zc rfl (fun h=>?_) fun h=>?_|refine zi (fun h=>?_) fun h=>?_|exact .intro|refine uw (hfx) ?_|fail
  ·rw[hor,ho,if_pos h];exact⟨_,aa.Sub.refl _,rfl,rfl⟩
  ·rw[if_neg (by rw[h];simp)] at ho
   exact⟨(i+1,_),by simp only;omega,⟨by simp only;omega,by rw[hor,ho];rfl⟩,Env.ab (by simp[Env.Has,Env.get]),aa.Sub.refl _⟩
 ·have hi':i=l.length:=by omega
  subst hi'
  repeat' first|refine zw ?_|refine zy fun nu _ _=>?_|refine zc rfl (fun h=>?_) fun h=>?_|refine zi (fun h=>?_) fun h=>?_|exact .intro|fail
  rw[hor,List.drop_length];exact⟨_,aa.Sub.refl _,rfl,rfl⟩
theorem zH {τ:Type} (fi:Nat) (cs:List AV) (S:τ→aa) (step:τ→gU→Bool×τ) (k:SK) (l:List gU) (hl:l.length<4611686018427387904) (hf:∀ (st:τ) (x:gU),x∈l→af Tryz.prog fi (aS x::cs) (S st) (fun r s=>r= .bool (step st x).1∧s=S (step st x).2)) (st:τ):
  af Tryz.prog 232 [.sl k (aj aS l),.fn fi cs] (S st) (fun r s=>r= .bool (anyS step st l).1∧s=S (anyS step st l).2):=by
 have e:=c9 step l st 0 (Int.le_refl _)
 refine ai [.tmp 4] 9 Tryz.func232 (by rfl) rfl rfl rfl rfl ?_
 repeat' first|refine zw ?_|refine zy fun nu _ _=>?_|refine zc rfl (fun h=>?_) fun h=>?_|refine zi (fun h=>?_) fun h=>?_|exact .intro|refine uw (zb fi cs S step k l hl hf st) ?_|fail
 rw[←e];exact⟨_,aa.Sub.refl _,rfl,rfl⟩
theorem xA (fi:Nat) (cs:List AV) (x:gU) (σ τ:aa) (b:Bool) (h:af Tryz.prog fi (aS x::cs) σ (fun r s=>r= .bool b∧s=τ)):
  af Tryz.prog 233 [aS x,.ip (.fn fi cs) 0] σ (fun r s=>r= .bool (!b)∧s=τ):=by
 refine ai [.tmp 3] 8 Tryz.func233 (by rfl) rfl rfl rfl rfl ?_
 repeat' first|refine zw ?_|refine zy fun nu _ _=>?_|refine zc rfl (fun h=>?_) fun h=>?_|refine zi (fun h=>?_) fun h=>?_|exact .intro|refine uw (h) ?_|fail
theorem zo {τ:Type} (fi:Nat) (cs:List AV) (S:τ→aa) (step:τ→gU→Bool×τ) (k:SK) (l:List gU) (most:Int) (hl:l.length<4611686018427387904) (hf:∀ (st:τ) (x:gU),x∈l→af Tryz.prog fi (aS x::cs) (S st) (fun r s=>r= .bool (step st x).1∧s=S (step st x).2)) (st:τ):
  af Tryz.prog 169 [.sl k (aj aS l),.int .i64 most,.fn fi cs] (S st) (fun r s=>r= .bool (bW most step st l).1∧s=S (bW most step st l).2):=by
 have hc:=zH 233 [.ip (.fn fi cs) 0] S (fun st x=>(!(step st x).1,(step st x).2)) k l hl (fun st x hx=>xA fi cs x _ _ _ (hf st x hx)) st
 unfold bW
 refine ai [.tmp 6] 17 Tryz.func169 (by rfl) rfl rfl rfl rfl ?_
 by_cases hm:(l.length:Int)≤most
 ·rw[if_pos hm]
  (have kX:=@hm;repeat' first|refine zw ?_|refine zy fun nu _ _=>?_|refine zc rfl (fun h=>?_) fun h=>?_|refine zi (fun h=>?_) fun h=>?_|exact .intro|refine uw (hc) ?_|fail);all_goals clear kX
 ·rw[if_neg hm]
  (have kX:=@hm;repeat' first|refine zw ?_|refine zy fun nu _ _=>?_|refine zc rfl (fun h=>?_) fun h=>?_|refine zi (fun h=>?_) fun h=>?_|exact .intro|fail);all_goals clear kX
theorem xu (fi:Nat) (cs:List AV) (q:gU→Bool) (k:SK) (l:List gU) (most:Int) (hl:l.length<4611686018427387904) (hf:∀x:gU,x∈l→Pure Tryz.prog fi (aS x::cs) (.bool (q x))):
  Pure Tryz.prog 169 [.sl k (aj aS l),.int .i64 most,.fn fi cs] (.bool (cB most q l)):=fun σ=>by
 rw[←db]
 exact zo fi cs (fun _:Unit=>σ) (fun _ x=>(q x,())) k l most hl (fun _ x hx=>hf x hx σ) ()
theorem uC {τ:Type} (fi:Nat) (cs:List AV) (S:τ→aa) (step:τ→jm→Bool×τ) (k:SK) (l:List jm) (hl:l.length<4611686018427387904) (hf:∀ (st:τ) (x:jm),x∈l→af Tryz.prog fi (aT x::cs) (S st) (fun r s=>r= .bool (step st x).1∧s=S (step st x).2)) (st:τ):
  af Tryz.prog 298 [.sl k (aj aT l),.fn fi cs] (S st) (fun r s=>r= .int .i64 (bE step st 0 l).1∧s=S (bE step st 0 l).2):=by
 refine ai [.tmp 4] 19 Tryz.func298 (by rfl) rfl rfl rfl rfl ?_
 repeat' first|refine zw ?_|refine zy fun nu _ _=>?_|refine zc rfl (fun h=>?_) fun h=>?_|refine zi (fun h=>?_) fun h=>?_|exact .intro|fail
 refine ak (fun x:Nat×τ=>[(0,.sl k (aj aT l)),(1,.fn fi cs),(6,.sl k (aj aT l)),(7,.int .i64 l.length),(8,.int .i64 x.1)]) (fun x=>S x.2) (fun x=>x.1≤l.length∧bE step st 0 l=bE step x.2 x.1 (l.drop x.1)) (fun x=>l.length-x.1) (0,st) ⟨Nat.zero_le _,rfl⟩ (Env.ab (by simp[Env.Has,Env.get])) (aa.Sub.refl _) ?_
 rintro⟨i,u⟩ ⟨hi,hor⟩
 simp only at hi hor
 by_cases hlt:i<l.length
 ·have ho:=cT step u l i hlt i
  have hfx:=hf u (l.getD i default) (by rw[List.getD_eq_getElem?_getD,List.getElem?_eq_getElem hlt];exact List.getElem_mem hlt)
  repeat' first|refine zw ?_|refine zy fun nu _ _=>?_|refine zc rfl (fun h=>?_) fun h=>?_|refine zi (fun h=>?_) fun h=>?_|exact .intro|refine uw (hfx) ?_|fail
  ·rw[hor,ho,if_pos h];exact⟨_,aa.Sub.refl _,rfl,rfl⟩
  ·rw[if_neg (by rw[h];simp)] at ho
   exact⟨(i+1,_),by simp only;omega,⟨by simp only;omega,by rw[hor,ho];rfl⟩,Env.ab (by simp[Env.Has,Env.get]),aa.Sub.refl _⟩
 ·have hi':i=l.length:=by omega
  subst hi'
  repeat' first|refine zw ?_|refine zy fun nu _ _=>?_|refine zc rfl (fun h=>?_) fun h=>?_|refine zi (fun h=>?_) fun h=>?_|exact .intro|fail
  rw[hor,List.drop_length];exact⟨_,aa.Sub.refl _,rfl,rfl⟩
theorem zI {τ:Type} (fi:Nat) (cs:List AV) (S:τ→aa) (step:τ→jm→Bool×τ) (k:SK) (l:List jm) (hl:l.length<4611686018427387904) (hf:∀ (st:τ) (x:jm),x∈l→af Tryz.prog fi (aT x::cs) (S st) (fun r s=>r= .bool (step st x).1∧s=S (step st x).2)) (st:τ):
  af Tryz.prog 236 [.sl k (aj aT l),.fn fi cs] (S st) (fun r s=>r= .bool (anyS step st l).1∧s=S (anyS step st l).2):=by
 have e:=c9 step l st 0 (Int.le_refl _)
 refine ai [.tmp 4] 9 Tryz.func236 (by rfl) rfl rfl rfl rfl ?_
 repeat' first|refine zw ?_|refine zy fun nu _ _=>?_|refine zc rfl (fun h=>?_) fun h=>?_|refine zi (fun h=>?_) fun h=>?_|exact .intro|refine uw (uC fi cs S step k l hl hf st) ?_|fail
 rw[←e];exact⟨_,aa.Sub.refl _,rfl,rfl⟩
theorem xB (fi:Nat) (cs:List AV) (x:jm) (σ τ:aa) (b:Bool) (h:af Tryz.prog fi (aT x::cs) σ (fun r s=>r= .bool b∧s=τ)):
  af Tryz.prog 237 [aT x,.ip (.fn fi cs) 0] σ (fun r s=>r= .bool (!b)∧s=τ):=by
 refine ai [.tmp 3] 8 Tryz.func237 (by rfl) rfl rfl rfl rfl ?_
 repeat' first|refine zw ?_|refine zy fun nu _ _=>?_|refine zc rfl (fun h=>?_) fun h=>?_|refine zi (fun h=>?_) fun h=>?_|exact .intro|refine uw (h) ?_|fail
theorem zp {τ:Type} (fi:Nat) (cs:List AV) (S:τ→aa) (step:τ→jm→Bool×τ) (k:SK) (l:List jm) (most:Int) (hl:l.length<4611686018427387904) (hf:∀ (st:τ) (x:jm),x∈l→af Tryz.prog fi (aT x::cs) (S st) (fun r s=>r= .bool (step st x).1∧s=S (step st x).2)) (st:τ):
  af Tryz.prog 172 [.sl k (aj aT l),.int .i64 most,.fn fi cs] (S st) (fun r s=>r= .bool (bW most step st l).1∧s=S (bW most step st l).2):=by
 have hc:=zI 237 [.ip (.fn fi cs) 0] S (fun st x=>(!(step st x).1,(step st x).2)) k l hl (fun st x hx=>xB fi cs x _ _ _ (hf st x hx)) st
 unfold bW
 refine ai [.tmp 6] 17 Tryz.func172 (by rfl) rfl rfl rfl rfl ?_
 by_cases hm:(l.length:Int)≤most
 ·rw[if_pos hm]
  (have kX:=@hm;repeat' first|refine zw ?_|refine zy fun nu _ _=>?_|refine zc rfl (fun h=>?_) fun h=>?_|refine zi (fun h=>?_) fun h=>?_|exact .intro|refine uw (hc) ?_|fail);all_goals clear kX
 ·rw[if_neg hm]
  (have kX:=@hm;repeat' first|refine zw ?_|refine zy fun nu _ _=>?_|refine zc rfl (fun h=>?_) fun h=>?_|refine zi (fun h=>?_) fun h=>?_|exact .intro|fail);all_goals clear kX
theorem xv (fi:Nat) (cs:List AV) (q:jm→Bool) (k:SK) (l:List jm) (most:Int) (hl:l.length<4611686018427387904) (hf:∀x:jm,x∈l→Pure Tryz.prog fi (aT x::cs) (.bool (q x))):
  Pure Tryz.prog 172 [.sl k (aj aT l),.int .i64 most,.fn fi cs] (.bool (cB most q l)):=fun σ=>by
 rw[←db]
 exact zp fi cs (fun _:Unit=>σ) (fun _ x=>(q x,())) k l most hl (fun _ x hx=>hf x hx σ) ()
theorem uD {τ:Type} (fi:Nat) (cs:List AV) (S:τ→aa) (step:τ→gB→Bool×τ) (k:SK) (l:List gB) (hl:l.length<4611686018427387904) (hf:∀ (st:τ) (x:gB),x∈l→af Tryz.prog fi (aW x::cs) (S st) (fun r s=>r= .bool (step st x).1∧s=S (step st x).2)) (st:τ):
  af Tryz.prog 130 [.sl k (aj aW l),.fn fi cs] (S st) (fun r s=>r= .int .i64 (bE step st 0 l).1∧s=S (bE step st 0 l).2):=by
 refine ai [.tmp 4] 19 Tryz.func130 (by rfl) rfl rfl rfl rfl ?_
 repeat' first|refine zw ?_|refine zy fun nu _ _=>?_|refine zc rfl (fun h=>?_) fun h=>?_|refine zi (fun h=>?_) fun h=>?_|exact .intro|fail
 refine ak (fun x:Nat×τ=>[(0,.sl k (aj aW l)),(1,.fn fi cs),(6,.sl k (aj aW l)),(7,.int .i64 l.length),(8,.int .i64 x.1)]) (fun x=>S x.2) (fun x=>x.1≤l.length∧bE step st 0 l=bE step x.2 x.1 (l.drop x.1)) (fun x=>l.length-x.1) (0,st) ⟨Nat.zero_le _,rfl⟩ (Env.ab (by simp[Env.Has,Env.get])) (aa.Sub.refl _) ?_
 rintro⟨i,u⟩ ⟨hi,hor⟩
 simp only at hi hor
 by_cases hlt:i<l.length
 ·have ho:=cT step u l i hlt i
  have hfx:=hf u (l.getD i default) (by rw[List.getD_eq_getElem?_getD,List.getElem?_eq_getElem hlt];exact List.getElem_mem hlt)
  repeat' first|refine zw ?_|refine zy fun nu _ _=>?_|refine zc rfl (fun h=>?_) fun h=>?_|refine zi (fun h=>?_) fun h=>?_|exact .intro|refine uw (hfx) ?_|fail
  ·rw[hor,ho,if_pos h];exact⟨_,aa.Sub.refl _,rfl,rfl⟩
  ·rw[if_neg (by rw[h];simp)] at ho
   exact⟨(i+1,_),by simp only;omega,⟨by simp only;omega,by rw[hor,ho];rfl⟩,Env.ab (by simp[Env.Has,Env.get]),aa.Sub.refl _⟩
 ·have hi':i=l.length:=by omega
  subst hi'
  repeat' first|refine zw ?_|refine zy fun nu _ _=>?_|refine zc rfl (fun h=>?_) fun h=>?_|refine zi (fun h=>?_) fun h=>?_|exact .intro|fail
  rw[hor,List.drop_length];exact⟨_,aa.Sub.refl _,rfl,rfl⟩
theorem zJ {τ:Type} (fi:Nat) (cs:List AV) (S:τ→aa) (step:τ→gB→Bool×τ) (k:SK) (l:List gB) (hl:l.length<4611686018427387904) (hf:∀ (st:τ) (x:gB),x∈l→af Tryz.prog fi (aW x::cs) (S st) (fun r s=>r= .bool (step st x).1∧s=S (step st x).2)) (st:τ):
  af Tryz.prog 238 [.sl k (aj aW l),.fn fi cs] (S st) (fun r s=>r= .bool (anyS step st l).1∧s=S (anyS step st l).2):=by
 have e:=c9 step l st 0 (Int.le_refl _)
 refine ai [.tmp 4] 9 Tryz.func238 (by rfl) rfl rfl rfl rfl ?_
 repeat' first|refine zw ?_|refine zy fun nu _ _=>?_|refine zc rfl (fun h=>?_) fun h=>?_|refine zi (fun h=>?_) fun h=>?_|exact .intro|refine uw (uD fi cs S step k l hl hf st) ?_|fail
 rw[←e];exact⟨_,aa.Sub.refl _,rfl,rfl⟩
theorem xE (fi:Nat) (cs:List AV) (x:gB) (σ τ:aa) (b:Bool) (h:af Tryz.prog fi (aW x::cs) σ (fun r s=>r= .bool b∧s=τ)):
  af Tryz.prog 239 [aW x,.ip (.fn fi cs) 0] σ (fun r s=>r= .bool (!b)∧s=τ):=by
 refine ai [.tmp 3] 8 Tryz.func239 (by rfl) rfl rfl rfl rfl ?_
 repeat' first|refine zw ?_|refine zy fun nu _ _=>?_|refine zc rfl (fun h=>?_) fun h=>?_|refine zi (fun h=>?_) fun h=>?_|exact .intro|refine uw (h) ?_|fail
theorem zx {τ:Type} (fi:Nat) (cs:List AV) (S:τ→aa) (step:τ→gB→Bool×τ) (k:SK) (l:List gB) (most:Int) (hl:l.length<4611686018427387904) (hf:∀ (st:τ) (x:gB),x∈l→af Tryz.prog fi (aW x::cs) (S st) (fun r s=>r= .bool (step st x).1∧s=S (step st x).2)) (st:τ):
  af Tryz.prog 175 [.sl k (aj aW l),.int .i64 most,.fn fi cs] (S st) (fun r s=>r= .bool (bW most step st l).1∧s=S (bW most step st l).2):=by
 have hc:=zJ 239 [.ip (.fn fi cs) 0] S (fun st x=>(!(step st x).1,(step st x).2)) k l hl (fun st x hx=>xE fi cs x _ _ _ (hf st x hx)) st
 unfold bW
 refine ai [.tmp 6] 17 Tryz.func175 (by rfl) rfl rfl rfl rfl ?_
 by_cases hm:(l.length:Int)≤most
 ·rw[if_pos hm]
  (have kX:=@hm;repeat' first|refine zw ?_|refine zy fun nu _ _=>?_|refine zc rfl (fun h=>?_) fun h=>?_|refine zi (fun h=>?_) fun h=>?_|exact .intro|refine uw (hc) ?_|fail);all_goals clear kX
 ·rw[if_neg hm]
  (have kX:=@hm;repeat' first|refine zw ?_|refine zy fun nu _ _=>?_|refine zc rfl (fun h=>?_) fun h=>?_|refine zi (fun h=>?_) fun h=>?_|exact .intro|fail);all_goals clear kX
theorem xy (fi:Nat) (cs:List AV) (q:gB→Bool) (k:SK) (l:List gB) (most:Int) (hl:l.length<4611686018427387904) (hf:∀x:gB,x∈l→Pure Tryz.prog fi (aW x::cs) (.bool (q x))):
  Pure Tryz.prog 175 [.sl k (aj aW l),.int .i64 most,.fn fi cs] (.bool (cB most q l)):=fun σ=>by
 rw[←db]
 exact zx fi cs (fun _:Unit=>σ) (fun _ x=>(q x,())) k l most hl (fun _ x hx=>hf x hx σ) ()
theorem zf {τ:Type} (fi:Nat) (cs:List AV) (S:τ→aa) (step:τ→nP→Bool×τ) (k:SK) (l:List nP) (hl:l.length<4611686018427387904) (hf:∀ (st:τ) (x:nP),x∈l→af Tryz.prog fi (aY x::cs) (S st) (fun r s=>r= .bool (step st x).1∧s=S (step st x).2)) (st:τ):
  af Tryz.prog 325 [.sl k (aj aY l),.fn fi cs] (S st) (fun r s=>r= .int .i64 (bE step st 0 l).1∧s=S (bE step st 0 l).2):=by
 refine ai [.tmp 4] 19 Tryz.func325 (by rfl) rfl rfl rfl rfl ?_
 repeat' first|refine zw ?_|refine zy fun nu _ _=>?_|refine zc rfl (fun h=>?_) fun h=>?_|refine zi (fun h=>?_) fun h=>?_|exact .intro|fail
 refine ak (fun x:Nat×τ=>[(0,.sl k (aj aY l)),(1,.fn fi cs),(6,.sl k (aj aY l)),(7,.int .i64 l.length),(8,.int .i64 x.1)]) (fun x=>S x.2) (fun x=>x.1≤l.length∧bE step st 0 l=bE step x.2 x.1 (l.drop x.1)) (fun x=>l.length-x.1) (0,st) ⟨Nat.zero_le _,rfl⟩ (Env.ab (by simp[Env.Has,Env.get])) (aa.Sub.refl _) ?_
 rintro⟨i,u⟩ ⟨hi,hor⟩
 simp only at hi hor
 by_cases hlt:i<l.length
 ·have ho:=cT step u l i hlt i
  have hfx:=hf u (l.getD i default) (by rw[List.getD_eq_getElem?_getD,List.getElem?_eq_getElem hlt];exact List.getElem_mem hlt)
  repeat' first|refine zw ?_|refine zy fun nu _ _=>?_|refine zc rfl (fun h=>?_) fun h=>?_|refine zi (fun h=>?_) fun h=>?_|exact .intro|refine uw (hfx) ?_|fail
  ·rw[hor,ho,if_pos h];exact⟨_,aa.Sub.refl _,rfl,rfl⟩
  ·rw[if_neg (by rw[h];simp)] at ho
   exact⟨(i+1,_),by simp only;omega,⟨by simp only;omega,by rw[hor,ho];rfl⟩,Env.ab (by simp[Env.Has,Env.get]),aa.Sub.refl _⟩
 ·have hi':i=l.length:=by omega
  subst hi'
  repeat' first|refine zw ?_|refine zy fun nu _ _=>?_|refine zc rfl (fun h=>?_) fun h=>?_|refine zi (fun h=>?_) fun h=>?_|exact .intro|fail
  rw[hor,List.drop_length];exact⟨_,aa.Sub.refl _,rfl,rfl⟩
theorem zK {τ:Type} (fi:Nat) (cs:List AV) (S:τ→aa) (step:τ→nP→Bool×τ) (k:SK) (l:List nP) (hl:l.length<4611686018427387904) (hf:∀ (st:τ) (x:nP),x∈l→af Tryz.prog fi (aY x::cs) (S st) (fun r s=>r= .bool (step st x).1∧s=S (step st x).2)) (st:τ):
  af Tryz.prog 293 [.sl k (aj aY l),.fn fi cs] (S st) (fun r s=>r= .bool (anyS step st l).1∧s=S (anyS step st l).2):=by
 have e:=c9 step l st 0 (Int.le_refl _)
 refine ai [.tmp 4] 9 Tryz.func293 (by rfl) rfl rfl rfl rfl ?_
 repeat' first|refine zw ?_|refine zy fun nu _ _=>?_|refine zc rfl (fun h=>?_) fun h=>?_|refine zi (fun h=>?_) fun h=>?_|exact .intro|refine uw (zf fi cs S step k l hl hf st) ?_|fail
 rw[←e];exact⟨_,aa.Sub.refl _,rfl,rfl⟩
theorem xF (fi:Nat) (cs:List AV) (x:nP) (σ τ:aa) (b:Bool) (h:af Tryz.prog fi (aY x::cs) σ (fun r s=>r= .bool b∧s=τ)):
  af Tryz.prog 294 [aY x,.ip (.fn fi cs) 0] σ (fun r s=>r= .bool (!b)∧s=τ):=by
 refine ai [.tmp 3] 8 Tryz.func294 (by rfl) rfl rfl rfl rfl ?_
 repeat' first|refine zw ?_|refine zy fun nu _ _=>?_|refine zc rfl (fun h=>?_) fun h=>?_|refine zi (fun h=>?_) fun h=>?_|exact .intro|refine uw (h) ?_|fail
theorem zA {τ:Type} (fi:Nat) (cs:List AV) (S:τ→aa) (step:τ→nP→Bool×τ) (k:SK) (l:List nP) (most:Int) (hl:l.length<4611686018427387904) (hf:∀ (st:τ) (x:nP),x∈l→af Tryz.prog fi (aY x::cs) (S st) (fun r s=>r= .bool (step st x).1∧s=S (step st x).2)) (st:τ):
  af Tryz.prog 228 [.sl k (aj aY l),.int .i64 most,.fn fi cs] (S st) (fun r s=>r= .bool (bW most step st l).1∧s=S (bW most step st l).2):=by
 have hc:=zK 294 [.ip (.fn fi cs) 0] S (fun st x=>(!(step st x).1,(step st x).2)) k l hl (fun st x hx=>xF fi cs x _ _ _ (hf st x hx)) st
 unfold bW
 refine ai [.tmp 6] 17 Tryz.func228 (by rfl) rfl rfl rfl rfl ?_
 by_cases hm:(l.length:Int)≤most
 ·rw[if_pos hm]
  (have kX:=@hm;repeat' first|refine zw ?_|refine zy fun nu _ _=>?_|refine zc rfl (fun h=>?_) fun h=>?_|refine zi (fun h=>?_) fun h=>?_|exact .intro|refine uw (hc) ?_|fail);all_goals clear kX
 ·rw[if_neg hm]
  (have kX:=@hm;repeat' first|refine zw ?_|refine zy fun nu _ _=>?_|refine zc rfl (fun h=>?_) fun h=>?_|refine zi (fun h=>?_) fun h=>?_|exact .intro|fail);all_goals clear kX
theorem rV (fi:Nat) (cs:List AV) (q:nP→Bool) (k:SK) (l:List nP) (most:Int) (hl:l.length<4611686018427387904) (hf:∀x:nP,x∈l→Pure Tryz.prog fi (aY x::cs) (.bool (q x))):
  Pure Tryz.prog 228 [.sl k (aj aY l),.int .i64 most,.fn fi cs] (.bool (cB most q l)):=fun σ=>by
 rw[←db]
 exact zA fi cs (fun _:Unit=>σ) (fun _ x=>(q x,())) k l most hl (fun _ x hx=>hf x hx σ) ()
theorem B5 {τ:Type} (fi:Nat) (cs:List AV) (S:τ→aa) (step:τ→Int→Bool×τ) (k:SK) (l:List Int) (hl:l.length<4611686018427387904) (hf:∀ (st:τ) (x:Int),x∈l→af Tryz.prog fi (eI x::cs) (S st) (fun r s=>r= .bool (step st x).1∧s=S (step st x).2)) (st:τ):
  af Tryz.prog 326 [.sl k (ints l),.fn fi cs] (S st) (fun r s=>r= .int .i64 (bE step st 0 l).1∧s=S (bE step st 0 l).2):=by
 refine ai [.tmp 4] 19 Tryz.func326 (by rfl) rfl rfl rfl rfl ?_
 repeat' first|refine zw ?_|refine zy fun nu _ _=>?_|refine zc rfl (fun h=>?_) fun h=>?_|refine zi (fun h=>?_) fun h=>?_|exact .intro|fail
 refine ak (fun x:Nat×τ=>[(0,.sl k (ints l)),(1,.fn fi cs),(6,.sl k (ints l)),(7,.int .i64 l.length),(8,.int .i64 x.1)]) (fun x=>S x.2) (fun x=>x.1≤l.length∧bE step st 0 l=bE step x.2 x.1 (l.drop x.1)) (fun x=>l.length-x.1) (0,st) ⟨Nat.zero_le _,rfl⟩ (Env.ab (by simp[Env.Has,Env.get])) (aa.Sub.refl _) ?_
 rintro⟨i,u⟩ ⟨hi,hor⟩
 simp only at hi hor
 by_cases hlt:i<l.length
 ·have ho:=cT step u l i hlt i
  have hfx:=hf u (l.getD i default) (by rw[List.getD_eq_getElem?_getD,List.getElem?_eq_getElem hlt];exact List.getElem_mem hlt)
  repeat' first|refine zw ?_|refine zy fun nu _ _=>?_|refine zc rfl (fun h=>?_) fun h=>?_|refine zi (fun h=>?_) fun h=>?_|exact .intro|refine uw (hfx) ?_|fail
  ·rw[hor,ho,if_pos h];exact⟨_,aa.Sub.refl _,rfl,rfl⟩
  ·rw[if_neg (by rw[h];simp)] at ho
   exact⟨(i+1,_),by simp only;omega,⟨by simp only;omega,by rw[hor,ho];rfl⟩,Env.ab (by simp[Env.Has,Env.get]),aa.Sub.refl _⟩
 ·have hi':i=l.length:=by omega
  subst hi'
  repeat' first|refine zw ?_|refine zy fun nu _ _=>?_|refine zc rfl (fun h=>?_) fun h=>?_|refine zi (fun h=>?_) fun h=>?_|exact .intro|fail
  rw[hor,List.drop_length];exact⟨_,aa.Sub.refl _,rfl,rfl⟩
theorem Ca {τ:Type} (fi:Nat) (cs:List AV) (S:τ→aa) (step:τ→Int→Bool×τ) (k:SK) (l:List Int) (hl:l.length<4611686018427387904) (hf:∀ (st:τ) (x:Int),x∈l→af Tryz.prog fi (eI x::cs) (S st) (fun r s=>r= .bool (step st x).1∧s=S (step st x).2)) (st:τ):
  af Tryz.prog 295 [.sl k (ints l),.fn fi cs] (S st) (fun r s=>r= .bool (anyS step st l).1∧s=S (anyS step st l).2):=by
 have e:=c9 step l st 0 (Int.le_refl _)
 refine ai [.tmp 4] 9 Tryz.func295 (by rfl) rfl rfl rfl rfl ?_
 repeat' first|refine zw ?_|refine zy fun nu _ _=>?_|refine zc rfl (fun h=>?_) fun h=>?_|refine zi (fun h=>?_) fun h=>?_|exact .intro|refine uw (B5 fi cs S step k l hl hf st) ?_|fail
 rw[←e];exact⟨_,aa.Sub.refl _,rfl,rfl⟩
theorem AI (fi:Nat) (cs:List AV) (x:Int) (σ τ:aa) (b:Bool) (h:af Tryz.prog fi (eI x::cs) σ (fun r s=>r= .bool b∧s=τ)):
  af Tryz.prog 296 [eI x,.ip (.fn fi cs) 0] σ (fun r s=>r= .bool (!b)∧s=τ):=by
 refine ai [.tmp 3] 8 Tryz.func296 (by rfl) rfl rfl rfl rfl ?_
 repeat' first|refine zw ?_|refine zy fun nu _ _=>?_|refine zc rfl (fun h=>?_) fun h=>?_|refine zi (fun h=>?_) fun h=>?_|exact .intro|refine uw (h) ?_|fail
theorem B8 {τ:Type} (fi:Nat) (cs:List AV) (S:τ→aa) (step:τ→Int→Bool×τ) (k:SK) (l:List Int) (most:Int) (hl:l.length<4611686018427387904) (hf:∀ (st:τ) (x:Int),x∈l→af Tryz.prog fi (eI x::cs) (S st) (fun r s=>r= .bool (step st x).1∧s=S (step st x).2)) (st:τ):
  af Tryz.prog 229 [.sl k (ints l),.int .i64 most,.fn fi cs] (S st) (fun r s=>r= .bool (bW most step st l).1∧s=S (bW most step st l).2):=by
 have hc:=Ca 296 [.ip (.fn fi cs) 0] S (fun st x=>(!(step st x).1,(step st x).2)) k l hl (fun st x hx=>AI fi cs x _ _ _ (hf st x hx)) st
 unfold bW
 refine ai [.tmp 6] 17 Tryz.func229 (by rfl) rfl rfl rfl rfl ?_
 by_cases hm:(l.length:Int)≤most
 ·rw[if_pos hm]
  (have kX:=@hm;repeat' first|refine zw ?_|refine zy fun nu _ _=>?_|refine zc rfl (fun h=>?_) fun h=>?_|refine zi (fun h=>?_) fun h=>?_|exact .intro|refine uw (hc) ?_|fail);all_goals clear kX
 ·rw[if_neg hm]
  (have kX:=@hm;repeat' first|refine zw ?_|refine zy fun nu _ _=>?_|refine zc rfl (fun h=>?_) fun h=>?_|refine zi (fun h=>?_) fun h=>?_|exact .intro|fail);all_goals clear kX
theorem AH (fi:Nat) (cs:List AV) (q:Int→Bool) (k:SK) (l:List Int) (most:Int) (hl:l.length<4611686018427387904) (hf:∀x:Int,x∈l→Pure Tryz.prog fi (eI x::cs) (.bool (q x))):
  Pure Tryz.prog 229 [.sl k (ints l),.int .i64 most,.fn fi cs] (.bool (cB most q l)):=fun σ=>by
 rw[←db]
 exact B8 fi cs (fun _:Unit=>σ) (fun _ x=>(q x,())) k l most hl (fun _ x hx=>hf x hx σ) ()
theorem B6 {τ:Type} (fi:Nat) (cs:List AV) (S:τ→aa) (step:τ→UInt8→Bool×τ) (k:SK) (l:List UInt8) (hl:l.length<4611686018427387904) (hf:∀ (st:τ) (x:UInt8),x∈l→af Tryz.prog fi (eB x::cs) (S st) (fun r s=>r= .bool (step st x).1∧s=S (step st x).2)) (st:τ):
  af Tryz.prog 324 [.sl k (aj eB l),.fn fi cs] (S st) (fun r s=>r= .int .i64 (bE step st 0 l).1∧s=S (bE step st 0 l).2):=by
 refine ai [.tmp 4] 19 Tryz.func324 (by rfl) rfl rfl rfl rfl ?_
 repeat' first|refine zw ?_|refine zy fun nu _ _=>?_|refine zc rfl (fun h=>?_) fun h=>?_|refine zi (fun h=>?_) fun h=>?_|exact .intro|fail
 refine ak (fun x:Nat×τ=>[(0,.sl k (aj eB l)),(1,.fn fi cs),(6,.sl k (aj eB l)),(7,.int .i64 l.length),(8,.int .i64 x.1)]) (fun x=>S x.2) (fun x=>x.1≤l.length∧bE step st 0 l=bE step x.2 x.1 (l.drop x.1)) (fun x=>l.length-x.1) (0,st) ⟨Nat.zero_le _,rfl⟩ (Env.ab (by simp[Env.Has,Env.get])) (aa.Sub.refl _) ?_
 rintro⟨i,u⟩ ⟨hi,hor⟩
 simp only at hi hor
 by_cases hlt:i<l.length
 ·have ho:=cT step u l i hlt i
  have hfx:=hf u (l.getD i default) (by rw[List.getD_eq_getElem?_getD,List.getElem?_eq_getElem hlt];exact List.getElem_mem hlt)
  repeat' first|refine zw ?_|refine zy fun nu _ _=>?_|refine zc rfl (fun h=>?_) fun h=>?_|refine zi (fun h=>?_) fun h=>?_|exact .intro|refine uw (hfx) ?_|fail
  ·rw[hor,ho,if_pos h];exact⟨_,aa.Sub.refl _,rfl,rfl⟩
  ·rw[if_neg (by rw[h];simp)] at ho
   exact⟨(i+1,_),by simp only;omega,⟨by simp only;omega,by rw[hor,ho];rfl⟩,Env.ab (by simp[Env.Has,Env.get]),aa.Sub.refl _⟩
 ·have hi':i=l.length:=by omega
  subst hi'
  repeat' first|refine zw ?_|refine zy fun nu _ _=>?_|refine zc rfl (fun h=>?_) fun h=>?_|refine zi (fun h=>?_) fun h=>?_|exact .intro|fail
  rw[hor,List.drop_length];exact⟨_,aa.Sub.refl _,rfl,rfl⟩
theorem Cb {τ:Type} (fi:Nat) (cs:List AV) (S:τ→aa) (step:τ→UInt8→Bool×τ) (k:SK) (l:List UInt8) (hl:l.length<4611686018427387904) (hf:∀ (st:τ) (x:UInt8),x∈l→af Tryz.prog fi (eB x::cs) (S st) (fun r s=>r= .bool (step st x).1∧s=S (step st x).2)) (st:τ):
  af Tryz.prog 291 [.sl k (aj eB l),.fn fi cs] (S st) (fun r s=>r= .bool (anyS step st l).1∧s=S (anyS step st l).2):=by
 have e:=c9 step l st 0 (Int.le_refl _)
 refine ai [.tmp 4] 9 Tryz.func291 (by rfl) rfl rfl rfl rfl ?_
 repeat' first|refine zw ?_|refine zy fun nu _ _=>?_|refine zc rfl (fun h=>?_) fun h=>?_|refine zi (fun h=>?_) fun h=>?_|exact .intro|refine uw (B6 fi cs S step k l hl hf st) ?_|fail
 rw[←e];exact⟨_,aa.Sub.refl _,rfl,rfl⟩
end Go.Proofs.YtgfjihpbphplhaaGreat

