/- What the claim needs, part 3: Bc Bd Be Bf Bg Bh Bi Bj Bk Bl Bm Bn Sa Na Nb Nc Nd Ne Nf Fb Eh Ga Eg Gb Ej El Ng Nh Gp Gc. Conditions: none. -/
import Derived.Test.YtgfjihpbphplhaaGreatQb
import Derived.Test.YtgfjihpbphplhaaGreatRows
set_option linter.unusedVariables false
set_option linter.unusedSimpArgs false
set_option linter.unusedSectionVars false
namespace Go.Proofs.YtgfjihpbphplhaaGreat
open Go.Kern
set_option maxRecDepth 100000
set_option maxHeartbeats 4000000
attribute [local irreducible] af W
def bJ (n a b:Int):Bool:=decide (a≤n)&&decide (n≤b)
theorem dM (n a b:Int):Pure Tryz.prog 164 [.int .i64 n,.int .i64 a,.int .i64 b] (.bool (bJ n a b)):=by
 intro σ
 refine ah [.tmp 6] 15 Tryz.func164 (by rfl) rfl rfl rfl rfl ?_
 repeat' first|refine zw ?_|refine zy fun nu _ _=>?_|refine zc rfl (fun h=>?_) fun h=>?_|refine zi (fun h=>?_) fun h=>?_|exact .intro|fail
 all_goals (simp_all[bJ]<;>omega)
def kE (c:Int):Bool:=decide (97≤c)&&decide (c≤122)
theorem ir (c:Int):Pure Tryz.prog 299 [.int .u8 c] (.bool (kE c)):=by
 intro σ
 refine ah [.tmp 2] 9 Tryz.func299 (by rfl) rfl rfl rfl rfl ?_
 repeat' first|refine zw ?_|refine zy fun nu _ _=>?_|refine zc rfl (fun h=>?_) fun h=>?_|refine zi (fun h=>?_) fun h=>?_|exact .intro|fail
 all_goals (simp_all[kE]<;>omega)
def CT (c:Int):Bool:=kE c||(decide (48≤c)&&decide (c≤57))||decide (c=45)||decide (c=95)
def okB (c:UInt8):Bool:=CT c.toNat
def jb (s:ByteArray):Bool:=kE ((B s).getD 0 default).toNat&& !(B s).isEmpty&&(B s).all okB
theorem rP (s:ByteArray) (hs:s.size≤9223372036854775807):Pure Tryz.prog 240 [.str s] (.bool (jb s)):=by
  intro σ
  have hl:=c8 s
  refine ah [.tmp 2] 40 Tryz.func240 (by rfl) rfl rfl rfl rfl ?_
  by_cases h0:s=⟨#[]⟩
  · subst h0
    repeat' first|refine zw ?_|refine zy fun nu _ _=>?_|refine zc rfl (fun h=>?_) fun h=>?_|refine zi (fun h=>?_) fun h=>?_|exact .intro|fail
    rfl
  have hpos:0<(B s).length:=by
    rcases Nat.eq_zero_or_pos (B s).length with h|h
    · exact absurd (Ac.1 (List.eq_nil_of_length_eq_zero h:B s=B ⟨#[]⟩)) h0
    · exact h
  have hne:(B s).isEmpty=false:=by
    cases h:B s with
    |nil=>rw[h] at hpos;simp at hpos
    |cons a l=>rfl
  rcases Bool.eq_false_or_eq_true (kE ((B s).getD 0 default).toNat) with hL|hL
  · skip
    (have kX:=g9 @h0 @hL;repeat' first|refine zw ?_|refine zy fun nu _ _=>?_|refine zc rfl (fun h=>?_) fun h=>?_|refine zi (fun h=>?_) fun h=>?_|exact .intro|refine us (ir _) ?_|fail);all_goals clear kX
    refine ak (fun i:Nat=>[(14,.sl .bf (aj eB (B s))),(15,.int .i64 s.size),(16,.int .i64 i)]) (fun _=>σ) (fun i=>i≤(B s).length∧(B s).all okB=((B s).drop i).all okB) (fun i=>(B s).length-i) 0 ⟨Nat.zero_le _,rfl⟩ (Env.ab (by simp[Env.Has,Env.get,hl])) (aa.Sub.refl _) ?_
    rintro i ⟨hi,hor⟩
    by_cases hlt:i<(B s).length
    · have ho:=sq okB hlt
      obtain⟨x,hx⟩:∃x,(B s).getD i default=x:=⟨_,rfl⟩
      rw[hx] at ho
      (have kX:=@hx;repeat' first|refine zw ?_|refine zy fun nu _ _=>?_|refine zc rfl (fun h=>?_) fun h=>?_|refine zi (fun h=>?_) fun h=>?_|exact .intro|refine us (ir _) ?_|fail);all_goals clear kX
      all_goals first
        | (refine⟨i+1,by omega,⟨by omega,?_⟩,Env.ab (by simp[Env.Has,Env.get]),aa.Sub.refl _⟩
           rw[hor,ho,show okB x=true from by simp[okB,CT, *];try omega]
           rfl)
        |(rw[show jb s=false from by
            unfold jb
            rw[hor,ho,show okB x=false from by simp[okB,CT, *];omega]
            simp])
    · have hi':i=(B s).length:=by omega
      subst hi'
      repeat' first|refine zw ?_|refine zy fun nu _ _=>?_|refine zc rfl (fun h=>?_) fun h=>?_|refine zi (fun h=>?_) fun h=>?_|exact .intro|fail
      rw[jb,hL,hne,hor,List.drop_length];rfl
  · skip
    (have kX:=g9 @h0 @hL;repeat' first|refine zw ?_|refine zy fun nu _ _=>?_|refine zc rfl (fun h=>?_) fun h=>?_|refine zi (fun h=>?_) fun h=>?_|exact .intro|refine us (ir _) ?_|fail);all_goals clear kX
    rw[jb,hL];rfl
def kr (s:ByteArray):Bool:=jb s&&decide (s.size≤12)
theorem eY (s:ByteArray) (hs:s.size≤9223372036854775807):Pure Tryz.prog 181 [.str s] (.bool (kr s)):=by
 intro σ
 refine ah [.tmp 2] 10 Tryz.func181 (by rfl) rfl rfl rfl rfl ?_
 repeat' first|refine zw ?_|refine zy fun nu _ _=>?_|refine zc rfl (fun h=>?_) fun h=>?_|refine zi (fun h=>?_) fun h=>?_|exact .intro|refine us (rP s hs) ?_|fail
 all_goals (simp_all[kr];try omega)
def mH (s:ByteArray):Bool:=decide (s.size=0)||kr s
theorem lI (s:ByteArray):s=⟨#[]⟩↔s.size=0:=by
 constructor
 ·rintro rfl;rfl
 ·intro h
  exact Ac.1 (List.eq_nil_of_length_eq_zero ((c8 s).trans h):B s=B ⟨#[]⟩)
theorem lj (s:ByteArray) (hs:s.size≤9223372036854775807):Pure Tryz.prog 174 [.str s] (.bool (mH s)):=by
 intro σ
 refine ah [.tmp 2] 9 Tryz.func174 (by rfl) rfl rfl rfl rfl ?_
 repeat' first|refine zw ?_|refine zy fun nu _ _=>?_|refine zc rfl (fun h=>?_) fun h=>?_|refine zi (fun h=>?_) fun h=>?_|exact .intro|refine us (eY s hs) ?_|fail
 all_goals simp_all[mH,lI]
def gL (c:nP):Bool:=bJ c.asn 1 65535&&bJ c.n 0 65535
theorem iF (c:nP):Pure Tryz.prog 227 [aY c] (.bool (gL c)):=by
 intro σ
 refine ah [.tmp 2] 21 Tryz.func227 (by rfl) rfl rfl rfl rfl ?_
 repeat' first|refine zw ?_|refine zy fun nu _ _=>?_|refine zc rfl (fun h=>?_) fun h=>?_|refine zi (fun h=>?_) fun h=>?_|exact .intro|fail
 all_goals (simp only[gL,bJ];congr 1;rw[Bool.eq_iff_iff];simp;omega)
def pQ (c:UInt8):Bool:=decide (c.toNat<32)||decide (126<c.toNat)||decide (c.toNat=34)
theorem mU (c:UInt8):Pure Tryz.prog 292 [eB c] (.bool (pQ c)):=by
 intro σ
 refine ah [.tmp 2] 13 Tryz.func292 (by rfl) rfl rfl rfl rfl ?_
 repeat' first|refine zw ?_|refine zy fun nu _ _=>?_|refine zc rfl (fun h=>?_) fun h=>?_|refine zi (fun h=>?_) fun h=>?_|exact .intro|fail
 all_goals (simp only[pQ];congr 1;rw[Bool.eq_iff_iff];simp;omega)
def lu (s:ByteArray):Bool:= !(B s).any pQ
theorem oa (s:ByteArray) (hs:s.size<4611686018427387904):Pure Tryz.prog 226 [.str s] (.bool (lu s)):=by
 intro σ
 have hc:=Cb 292 [] (fun _:Unit=>σ) (fun _ x=>(pQ x,())) .bf (B s) (by rw[c8];exact hs) (fun _ x _=>mU x σ) ()
 rw[fj] at hc
 refine ah [.tmp 2] 7 Tryz.func226 (by rfl) rfl rfl rfl rfl ?_
 repeat' first|refine zw ?_|refine zy fun nu _ _=>?_|refine zc rfl (fun h=>?_) fun h=>?_|refine zi (fun h=>?_) fun h=>?_|exact .intro|refine uw (hc) ?_|fail
 rfl
def xb (b:Int):Int:=if b=0 then 0 else IntKind.u32.wrap (4294967295*2^(min (32-b).toNat 32))
theorem vq (b:Int) (h0:0≤b) (h1:b≤32):Pure Tryz.prog 234 [.int .i64 b] (.int .u32 (xb b)):=by
 intro σ
 refine ah [.tmp 2] 8 Tryz.func234 (by rfl) rfl rfl rfl rfl ?_
 repeat' first|refine zw ?_|refine zy fun nu _ _=>?_|refine zc rfl (fun h=>?_) fun h=>?_|refine zi (fun h=>?_) fun h=>?_|exact .intro|fail
 all_goals simp_all[xb]
def ig (p:gU):Bool:=decide (0≤p.b)&&decide (p.b≤32)&&decide (bits .andNot .u32 p.a (xb p.b)=0)
theorem lO (p:gU):Pure Tryz.prog 170 [aS p] (.bool (ig p)):=by
 intro σ
 refine ah [.tmp 2] 20 Tryz.func170 (by rfl) rfl rfl rfl rfl ?_
 by_cases h0:0≤p.b
 ·by_cases h1:p.b≤32
  ·have hm:=vq p.b h0 h1
   repeat' first|refine zw ?_|refine zy fun nu _ _=>?_|refine zc rfl (fun h=>?_) fun h=>?_|refine zi (fun h=>?_) fun h=>?_|exact .intro|refine us (hm) ?_|fail
   simp[ig,h0,h1]
  ·skip
   repeat' first|refine zw ?_|refine zy fun nu _ _=>?_|refine zc rfl (fun h=>?_) fun h=>?_|refine zi (fun h=>?_) fun h=>?_|exact .intro|fail
   simp[ig,h0,h1]
 ·skip
  repeat' first|refine zw ?_|refine zy fun nu _ _=>?_|refine zc rfl (fun h=>?_) fun h=>?_|refine zi (fun h=>?_) fun h=>?_|exact .intro|fail
  simp[ig,h0]
def lq (r:yA):Bool:=ig r.p&&decide (r.p.b≤r.ge)&&decide (r.ge≤r.le)&&decide (r.le≤32)
theorem qZ (r:yA):Pure Tryz.prog 159 [bA r] (.bool (lq r)):=by
 intro σ
 have h:=lO r.p
 refine ah [.tmp 2] 26 Tryz.func159 (by rfl) rfl rfl rfl rfl ?_
 repeat' first|refine zw ?_|refine zy fun nu _ _=>?_|refine zc rfl (fun h=>?_) fun h=>?_|refine zi (fun h=>?_) fun h=>?_|exact .intro|refine us (h) ?_|fail
 all_goals (simp_all[lq];try omega)
def ke (l:List yA):Int:=if 16<l.length then 2 else if l.all lq=true then 0 else 1
theorem pL (k:SK) (l:List yA) (hl:l.length<4611686018427387904):Pure Tryz.prog 109 [.sl k (aj bA l)] (.int .i64 (ke l)):=by
 intro σ
 refine ah [.tmp 2] 18 Tryz.func109 (by rfl) rfl rfl rfl rfl ?_
 by_cases h16:16<l.length
 ·skip
  repeat' first|refine zw ?_|refine zy fun nu _ _=>?_|refine zc rfl (fun h=>?_) fun h=>?_|refine zi (fun h=>?_) fun h=>?_|exact .intro|fail
  simp[ke,h16]
 repeat' first|refine zw ?_|refine zy fun nu _ _=>?_|refine zc rfl (fun h=>?_) fun h=>?_|refine zi (fun h=>?_) fun h=>?_|exact .intro|fail
 refine ak (fun i:Nat=>[(8,.sl k (aj bA l)),(9,.int .i64 l.length),(10,.int .i64 i)]) (fun _=>σ) (fun i=>i≤l.length∧l.all lq=(l.drop i).all lq) (fun i=>l.length-i) 0 ⟨Nat.zero_le _,rfl⟩ (Env.ab (by simp[Env.Has,Env.get])) (aa.Sub.refl _) ?_
 rintro i ⟨hi,hor⟩
 by_cases hlt:i<l.length
 ·have ho:=sq lq hlt
  have hc:=qZ (l.getD i default)
  repeat' first|refine zw ?_|refine zy fun nu _ _=>?_|refine zc rfl (fun h=>?_) fun h=>?_|refine zi (fun h=>?_) fun h=>?_|exact .intro|refine us (hc) ?_|fail
  intro o1 ho1
  repeat' first|refine zw ?_|refine zy fun nu _ _=>?_|refine zc rfl (fun h=>?_) fun h=>?_|refine zi (fun h=>?_) fun h=>?_|exact .intro|refine us (hc) ?_|fail
  ·exact⟨by rw[ke,if_neg h16,hor,ho,h];rfl,aw (aa.Sub.refl _) ho1 _⟩
  ·exact⟨i+1,by omega,⟨by omega,by rw[hor,ho,h];rfl⟩,Env.ab (by simp[Env.Has,Env.get]),aw (aa.Sub.refl _) ho1 _⟩
 ·have hi':i=l.length:=by omega
  subst hi'
  repeat' first|refine zw ?_|refine zy fun nu _ _=>?_|refine zc rfl (fun h=>?_) fun h=>?_|refine zi (fun h=>?_) fun h=>?_|exact .intro|fail
  rw[ke,if_neg h16,hor,List.drop_length];rfl
theorem pJ (n:Int):Pure Tryz.prog 230 [.int .i64 n] (.bool (bJ n 1 65535)):=by
 intro σ
 refine ah [.tmp 2] 5 Tryz.func230 (by rfl) rfl rfl rfl rfl ?_
 repeat' first|refine zw ?_|refine zy fun nu _ _=>?_|refine zc rfl (fun h=>?_) fun h=>?_|refine zi (fun h=>?_) fun h=>?_|exact .intro|refine us (dM _ _ _) ?_|fail
def qp (x:A0):Bool:=bJ x.pref (-1) 1048576&&(bJ x.med (-1) 1048576&&(bJ x.origin (-1) 2&&(cB 8 gL x.add&&(cB 8 gL x.del&&cB 16 (fun n=>bJ n 1 65535) x.pre))))
structure A0.Fits (x:A0):Prop where
 add:x.add.length<4611686018427387904
 del:x.del.length<4611686018427387904
 pre:x.pre.length<4611686018427387904
theorem sb (x:A0) (hx:x.Fits):Pure Tryz.prog 166 [AJ x] (.bool (qp x)):=by
 intro σ
 have h1:=rV 227 [] gL x.kA x.add 8 hx.add (fun c _=>iF c)
 have h2:=rV 227 [] gL x.kD x.del 8 hx.del (fun c _=>iF c)
 have h3:=AH 230 [] (fun n=>bJ n 1 65535) x.kP x.pre 16 hx.pre (fun c _=>pJ c)
 refine ah [.tmp 2] 31 Tryz.func166 (by rfl) rfl rfl rfl rfl ?_
 repeat' first|refine zw ?_|refine zy fun nu _ _=>?_|refine zc rfl (fun h=>?_) fun h=>?_|refine zi (fun h=>?_) fun h=>?_|exact .intro|refine us (dM _ _ _) ?_|refine us (h1) ?_|refine us (h2) ?_|refine us (h3) ?_|fail
 all_goals (simp only[qp, *];simp)
end Go.Proofs.YtgfjihpbphplhaaGreat

namespace Go.Proofs.YtgfjihpbphplhaaGreat
open Go.Kern
set_option maxRecDepth 100000
set_option maxHeartbeats 4000000
attribute [local irreducible] af W
def gV (ns:List ByteArray):List (AV×AV):=ns.map fun s=>(AV.str s,AV.bool true)
theorem ve (ns:List ByteArray) (s:ByteArray):(gV ns).find? (fun e=>dv (.str s) e.1)=if ns.any (fun t=>decide (t=s))=true then some (AV.str s,AV.bool true) else none:=by
  induction ns with
  |nil=>rfl
  | cons t ns ih=>
    simp only[gV,List.map_cons,List.find?_cons,dv,List.any_cons] at ih ⊢
    by_cases h:t=s
    · subst h;simp
    · have h2:¬s=t:=fun e=>h e.symm
      simp only[h,h2,decide_false,Bool.false_or]
      exact ih
theorem gl:∀ (ns:List ByteArray) (s:ByteArray),ns.any (fun t=>decide (t=s))=false→dq (.str s) (.bool true) (gV ns)=gV (ns++[s])
  | [],s,_=>rfl
  | t::ns,s,h=>by
    simp only[List.any_cons,Bool.or_eq_false_iff,decide_eq_false_iff_not] at h
    have ih:=gl ns s h.2
    have h1:dv (.str s) (AV.str t)=false:=decide_eq_false (fun e=>h.1 e.symm)
    simp only[gV,List.map_cons,List.cons_append,dq,h1] at ih ⊢
    simp[ih]
theorem vd (ns:List ByteArray):dJ .str (gV ns)=true:=by
 simp[dJ,gV,aH]
theorem iM {s:aa} {o o1:Nat} {m m' x:Ob} (hs:s o1=none):(s.put o m').Sub (((s.put o m).put o1 x).put o m'):=by
 intro p y hp
 simp only[aa.put] at hp ⊢
 split at hp
 ·rename_i e;rw[if_pos e];exact hp
 ·rename_i e
  rw[if_neg e]
  split
  ·rename_i e2;rw[e2,hs] at hp;cases hp
  ·first|exact hp|(rw[if_neg e];exact hp)
def aN:List ByteArray→List ByteArray→Bool
 |_,[]=>true
 |seen,s::l=> !(seen.any fun t=>decide (t=s))&&kr s&&aN (seen++[s]) l
theorem dX (l:List ByteArray) (i:Nat) (s:ByteArray) (h:l[i]? =some s):aN (l.take i) (l.drop i)=(!((l.take i).any fun t=>decide (t=s))&&kr s&&aN (l.take (i+1)) (l.drop (i+1))):=by
 obtain⟨hl,rfl⟩:=List.getElem?_eq_some_iff.1 h
 rw[List.drop_eq_getElem_cons hl,aN,List.take_succ_eq_append_getElem hl]
attribute [local go_sem] ve vd
theorem AE (x:cC):Pure Tryz.prog 115 [bd x] (.str x.name):=by
 intro σ
 refine ah [.tmp 2] 5 Tryz.func115 (by rfl) rfl rfl rfl rfl ?_
 repeat' first|refine zw ?_|refine zy fun nu _ _=>?_|refine zc rfl (fun h=>?_) fun h=>?_|refine zi (fun h=>?_) fun h=>?_|exact .intro|fail
theorem Ai (k:SK) (l:List cC) (hl:l.length<4611686018427387904) (hn:∀x,x∈l→x.name.size≤9223372036854775807):
  Pure Tryz.prog 114 [.sl k (aj bd l),.fn 115 []] (.bool (aN [] (l.map (·.name)))):=by
 intro σ
 refine ah [.tmp 4] 30 Tryz.func114 (by rfl) rfl rfl rfl rfl ?_
 repeat' first|refine zw ?_|refine zy fun nu _ _=>?_|refine zc rfl (fun h=>?_) fun h=>?_|refine zi (fun h=>?_) fun h=>?_|exact .intro|fail
 intro o ho
 repeat' first|refine zw ?_|refine zy fun nu _ _=>?_|refine zc rfl (fun h=>?_) fun h=>?_|refine zi (fun h=>?_) fun h=>?_|exact .intro|fail
 refine ak (fun i:Nat=>[(1,.fn 115 []),(5,.map o),(10,.sl k (aj bd l)),(11,.int .i64 l.length),(12,.int .i64 i)]) (fun i=>σ.put o (.map (gV ((l.map (·.name)).take i)))) (fun i=>i≤l.length∧aN [] (l.map (·.name))=aN ((l.map (·.name)).take i) ((l.map (·.name)).drop i)) (fun i=>l.length-i) 0 ⟨Nat.zero_le _,rfl⟩ (Env.ab (by simp[Env.Has,Env.get])) (aa.Sub.refl _) ?_
 rintro i ⟨hi,hor⟩
 by_cases hlt:i<l.length
 ·have hg:l.getD i default=l[i]:=by simp[List.getD_eq_getElem?_getD,hlt]
  have hm:l[i]∈l:=List.getElem_mem hlt
  have hns:=eY l[i].name (hn _ hm)
  have hgt:=AE l[i]
  have ho2:=dX (l.map (·.name)) i l[i].name (by simp[hlt])
  obtain⟨ns,hns2⟩:∃ns,(l.map (·.name)).take i=ns:=⟨_,rfl⟩
  rw[hns2] at ho2 hor
  (have kX:=g9 @hg @hns2;repeat' first|refine zw ?_|refine zy fun nu _ _=>?_|refine zc rfl (fun h=>?_) fun h=>?_|refine zi (fun h=>?_) fun h=>?_|exact .intro|fail);all_goals clear kX
  intro o1 ho1
  have hpn:∀ (s:aa) (x:Ob),(s.put o1 x) o=s o:=fun s x=>au (fC ho1)
  have ho1':=ep ho1
  rcases Bool.eq_false_or_eq_true (ns.any fun t=>decide (t=l[i].name)) with ha|ha
  ·rw[ha] at ho2
   (have kX:=g9 @hpn @ha;repeat' first|refine zw ?_|refine zy fun nu _ _=>?_|refine zc rfl (fun h=>?_) fun h=>?_|refine zi (fun h=>?_) fun h=>?_|exact .intro|refine us (hgt) ?_|refine us (hns) ?_|fail);all_goals clear kX
   exact⟨by rw[hor,ho2];rfl,aw (aw (aa.Sub.refl _) ho _) ho1' _⟩
  ·have hset:=gl ns l[i].name ha
   rw[ha] at ho2
   (have kX:=g8 @hpn @ha @hset;repeat' first|refine zw ?_|refine zy fun nu _ _=>?_|refine zc rfl (fun h=>?_) fun h=>?_|refine zi (fun h=>?_) fun h=>?_|exact .intro|refine us (hgt) ?_|refine us (hns) ?_|fail);all_goals clear kX
   ·exact⟨by rw[hor,ho2,h];rfl,aw (aw (aa.Sub.refl _) ho _) ho1' _⟩
   ·refine⟨i+1,by omega,⟨by omega,by rw[hor,ho2,h];rfl⟩,Env.ab (by simp[Env.Has,Env.get]),?_⟩
    rw[List.take_succ_eq_append_getElem (by simpa using hlt),hns2]
    simp only[List.getElem_map]
    exact iM ho1'
 ·have hi':i=l.length:=by omega
  subst hi'
  repeat' first|refine zw ?_|refine zy fun nu _ _=>?_|refine zc rfl (fun h=>?_) fun h=>?_|refine zi (fun h=>?_) fun h=>?_|exact .intro|fail
  exact⟨by rw[hor,List.drop_eq_nil_of_le (by simp)];rfl,aw (aa.Sub.refl _) ho _⟩
theorem AD (x:bS):Pure Tryz.prog 117 [ba x] (.str x.name):=by
 intro σ
 refine ah [.tmp 2] 5 Tryz.func117 (by rfl) rfl rfl rfl rfl ?_
 repeat' first|refine zw ?_|refine zy fun nu _ _=>?_|refine zc rfl (fun h=>?_) fun h=>?_|refine zi (fun h=>?_) fun h=>?_|exact .intro|fail
theorem Ah (k:SK) (l:List bS) (hl:l.length<4611686018427387904) (hn:∀x,x∈l→x.name.size≤9223372036854775807):
  Pure Tryz.prog 116 [.sl k (aj ba l),.fn 117 []] (.bool (aN [] (l.map (·.name)))):=by
 intro σ
 refine ah [.tmp 4] 30 Tryz.func116 (by rfl) rfl rfl rfl rfl ?_
 repeat' first|refine zw ?_|refine zy fun nu _ _=>?_|refine zc rfl (fun h=>?_) fun h=>?_|refine zi (fun h=>?_) fun h=>?_|exact .intro|fail
 intro o ho
 repeat' first|refine zw ?_|refine zy fun nu _ _=>?_|refine zc rfl (fun h=>?_) fun h=>?_|refine zi (fun h=>?_) fun h=>?_|exact .intro|fail
 refine ak (fun i:Nat=>[(1,.fn 117 []),(5,.map o),(10,.sl k (aj ba l)),(11,.int .i64 l.length),(12,.int .i64 i)]) (fun i=>σ.put o (.map (gV ((l.map (·.name)).take i)))) (fun i=>i≤l.length∧aN [] (l.map (·.name))=aN ((l.map (·.name)).take i) ((l.map (·.name)).drop i)) (fun i=>l.length-i) 0 ⟨Nat.zero_le _,rfl⟩ (Env.ab (by simp[Env.Has,Env.get])) (aa.Sub.refl _) ?_
 rintro i ⟨hi,hor⟩
 by_cases hlt:i<l.length
 ·have hg:l.getD i default=l[i]:=by simp[List.getD_eq_getElem?_getD,hlt]
  have hm:l[i]∈l:=List.getElem_mem hlt
  have hns:=eY l[i].name (hn _ hm)
  have hgt:=AD l[i]
  have ho2:=dX (l.map (·.name)) i l[i].name (by simp[hlt])
  obtain⟨ns,hns2⟩:∃ns,(l.map (·.name)).take i=ns:=⟨_,rfl⟩
  rw[hns2] at ho2 hor
  (have kX:=g9 @hg @hns2;repeat' first|refine zw ?_|refine zy fun nu _ _=>?_|refine zc rfl (fun h=>?_) fun h=>?_|refine zi (fun h=>?_) fun h=>?_|exact .intro|fail);all_goals clear kX
  intro o1 ho1
  have hpn:∀ (s:aa) (x:Ob),(s.put o1 x) o=s o:=fun s x=>au (fC ho1)
  have ho1':=ep ho1
  rcases Bool.eq_false_or_eq_true (ns.any fun t=>decide (t=l[i].name)) with ha|ha
  ·rw[ha] at ho2
   (have kX:=g9 @hpn @ha;repeat' first|refine zw ?_|refine zy fun nu _ _=>?_|refine zc rfl (fun h=>?_) fun h=>?_|refine zi (fun h=>?_) fun h=>?_|exact .intro|refine us (hgt) ?_|refine us (hns) ?_|fail);all_goals clear kX
   exact⟨by rw[hor,ho2];rfl,aw (aw (aa.Sub.refl _) ho _) ho1' _⟩
  ·have hset:=gl ns l[i].name ha
   rw[ha] at ho2
   (have kX:=g8 @hpn @ha @hset;repeat' first|refine zw ?_|refine zy fun nu _ _=>?_|refine zc rfl (fun h=>?_) fun h=>?_|refine zi (fun h=>?_) fun h=>?_|exact .intro|refine us (hgt) ?_|refine us (hns) ?_|fail);all_goals clear kX
   ·exact⟨by rw[hor,ho2,h];rfl,aw (aw (aa.Sub.refl _) ho _) ho1' _⟩
   ·refine⟨i+1,by omega,⟨by omega,by rw[hor,ho2,h];rfl⟩,Env.ab (by simp[Env.Has,Env.get]),?_⟩
    rw[List.take_succ_eq_append_getElem (by simpa using hlt),hns2]
    simp only[List.getElem_map]
    exact iM ho1'
 ·have hi':i=l.length:=by omega
  subst hi'
  repeat' first|refine zw ?_|refine zy fun nu _ _=>?_|refine zc rfl (fun h=>?_) fun h=>?_|refine zi (fun h=>?_) fun h=>?_|exact .intro|fail
  exact⟨by rw[hor,List.drop_eq_nil_of_le (by simp)];rfl,aw (aa.Sub.refl _) ho _⟩
theorem AA (x:bX):Pure Tryz.prog 119 [aC x] (.str x.name):=by
 intro σ
 refine ah [.tmp 2] 5 Tryz.func119 (by rfl) rfl rfl rfl rfl ?_
 repeat' first|refine zw ?_|refine zy fun nu _ _=>?_|refine zc rfl (fun h=>?_) fun h=>?_|refine zi (fun h=>?_) fun h=>?_|exact .intro|fail
theorem Af (k:SK) (l:List bX) (hl:l.length<4611686018427387904) (hn:∀x,x∈l→x.name.size≤9223372036854775807):
  Pure Tryz.prog 118 [.sl k (aj aC l),.fn 119 []] (.bool (aN [] (l.map (·.name)))):=by
 intro σ
 refine ah [.tmp 4] 30 Tryz.func118 (by rfl) rfl rfl rfl rfl ?_
 repeat' first|refine zw ?_|refine zy fun nu _ _=>?_|refine zc rfl (fun h=>?_) fun h=>?_|refine zi (fun h=>?_) fun h=>?_|exact .intro|fail
 intro o ho
 repeat' first|refine zw ?_|refine zy fun nu _ _=>?_|refine zc rfl (fun h=>?_) fun h=>?_|refine zi (fun h=>?_) fun h=>?_|exact .intro|fail
 refine ak (fun i:Nat=>[(1,.fn 119 []),(5,.map o),(10,.sl k (aj aC l)),(11,.int .i64 l.length),(12,.int .i64 i)]) (fun i=>σ.put o (.map (gV ((l.map (·.name)).take i)))) (fun i=>i≤l.length∧aN [] (l.map (·.name))=aN ((l.map (·.name)).take i) ((l.map (·.name)).drop i)) (fun i=>l.length-i) 0 ⟨Nat.zero_le _,rfl⟩ (Env.ab (by simp[Env.Has,Env.get])) (aa.Sub.refl _) ?_
 rintro i ⟨hi,hor⟩
 by_cases hlt:i<l.length
 ·have hg:l.getD i default=l[i]:=by simp[List.getD_eq_getElem?_getD,hlt]
  have hm:l[i]∈l:=List.getElem_mem hlt
  have hns:=eY l[i].name (hn _ hm)
  have hgt:=AA l[i]
  have ho2:=dX (l.map (·.name)) i l[i].name (by simp[hlt])
  obtain⟨ns,hns2⟩:∃ns,(l.map (·.name)).take i=ns:=⟨_,rfl⟩
  rw[hns2] at ho2 hor
  (have kX:=g9 @hg @hns2;repeat' first|refine zw ?_|refine zy fun nu _ _=>?_|refine zc rfl (fun h=>?_) fun h=>?_|refine zi (fun h=>?_) fun h=>?_|exact .intro|fail);all_goals clear kX
  intro o1 ho1
  have hpn:∀ (s:aa) (x:Ob),(s.put o1 x) o=s o:=fun s x=>au (fC ho1)
  have ho1':=ep ho1
  rcases Bool.eq_false_or_eq_true (ns.any fun t=>decide (t=l[i].name)) with ha|ha
  ·rw[ha] at ho2
   (have kX:=g9 @hpn @ha;repeat' first|refine zw ?_|refine zy fun nu _ _=>?_|refine zc rfl (fun h=>?_) fun h=>?_|refine zi (fun h=>?_) fun h=>?_|exact .intro|refine us (hgt) ?_|refine us (hns) ?_|fail);all_goals clear kX
   exact⟨by rw[hor,ho2];rfl,aw (aw (aa.Sub.refl _) ho _) ho1' _⟩
  ·have hset:=gl ns l[i].name ha
   rw[ha] at ho2
   (have kX:=g8 @hpn @ha @hset;repeat' first|refine zw ?_|refine zy fun nu _ _=>?_|refine zc rfl (fun h=>?_) fun h=>?_|refine zi (fun h=>?_) fun h=>?_|exact .intro|refine us (hgt) ?_|refine us (hns) ?_|fail);all_goals clear kX
   ·exact⟨by rw[hor,ho2,h];rfl,aw (aw (aa.Sub.refl _) ho _) ho1' _⟩
   ·refine⟨i+1,by omega,⟨by omega,by rw[hor,ho2,h];rfl⟩,Env.ab (by simp[Env.Has,Env.get]),?_⟩
    rw[List.take_succ_eq_append_getElem (by simpa using hlt),hns2]
    simp only[List.getElem_map]
    exact iM ho1'
 ·have hi':i=l.length:=by omega
  subst hi'
  repeat' first|refine zw ?_|refine zy fun nu _ _=>?_|refine zc rfl (fun h=>?_) fun h=>?_|refine zi (fun h=>?_) fun h=>?_|exact .intro|fail
  exact⟨by rw[hor,List.drop_eq_nil_of_le (by simp)];rfl,aw (aa.Sub.refl _) ho _⟩
theorem AB (x:jm):Pure Tryz.prog 178 [aT x] (.str x.name):=by
 intro σ
 refine ah [.tmp 2] 5 Tryz.func178 (by rfl) rfl rfl rfl rfl ?_
 repeat' first|refine zw ?_|refine zy fun nu _ _=>?_|refine zc rfl (fun h=>?_) fun h=>?_|refine zi (fun h=>?_) fun h=>?_|exact .intro|fail
theorem Ag (k:SK) (l:List jm) (hl:l.length<4611686018427387904) (hn:∀x,x∈l→x.name.size≤9223372036854775807):
  Pure Tryz.prog 177 [.sl k (aj aT l),.fn 178 []] (.bool (aN [] (l.map (·.name)))):=by
 intro σ
 refine ah [.tmp 4] 30 Tryz.func177 (by rfl) rfl rfl rfl rfl ?_
 repeat' first|refine zw ?_|refine zy fun nu _ _=>?_|refine zc rfl (fun h=>?_) fun h=>?_|refine zi (fun h=>?_) fun h=>?_|exact .intro|fail
 intro o ho
 repeat' first|refine zw ?_|refine zy fun nu _ _=>?_|refine zc rfl (fun h=>?_) fun h=>?_|refine zi (fun h=>?_) fun h=>?_|exact .intro|fail
 refine ak (fun i:Nat=>[(1,.fn 178 []),(5,.map o),(10,.sl k (aj aT l)),(11,.int .i64 l.length),(12,.int .i64 i)]) (fun i=>σ.put o (.map (gV ((l.map (·.name)).take i)))) (fun i=>i≤l.length∧aN [] (l.map (·.name))=aN ((l.map (·.name)).take i) ((l.map (·.name)).drop i)) (fun i=>l.length-i) 0 ⟨Nat.zero_le _,rfl⟩ (Env.ab (by simp[Env.Has,Env.get])) (aa.Sub.refl _) ?_
 rintro i ⟨hi,hor⟩
 by_cases hlt:i<l.length
 ·have hg:l.getD i default=l[i]:=by simp[List.getD_eq_getElem?_getD,hlt]
  have hm:l[i]∈l:=List.getElem_mem hlt
  have hns:=eY l[i].name (hn _ hm)
  have hgt:=AB l[i]
  have ho2:=dX (l.map (·.name)) i l[i].name (by simp[hlt])
  obtain⟨ns,hns2⟩:∃ns,(l.map (·.name)).take i=ns:=⟨_,rfl⟩
  rw[hns2] at ho2 hor
  (have kX:=g9 @hg @hns2;repeat' first|refine zw ?_|refine zy fun nu _ _=>?_|refine zc rfl (fun h=>?_) fun h=>?_|refine zi (fun h=>?_) fun h=>?_|exact .intro|fail);all_goals clear kX
  intro o1 ho1
  have hpn:∀ (s:aa) (x:Ob),(s.put o1 x) o=s o:=fun s x=>au (fC ho1)
  have ho1':=ep ho1
  rcases Bool.eq_false_or_eq_true (ns.any fun t=>decide (t=l[i].name)) with ha|ha
  ·rw[ha] at ho2
   (have kX:=g9 @hpn @ha;repeat' first|refine zw ?_|refine zy fun nu _ _=>?_|refine zc rfl (fun h=>?_) fun h=>?_|refine zi (fun h=>?_) fun h=>?_|exact .intro|refine us (hgt) ?_|refine us (hns) ?_|fail);all_goals clear kX
   exact⟨by rw[hor,ho2];rfl,aw (aw (aa.Sub.refl _) ho _) ho1' _⟩
  ·have hset:=gl ns l[i].name ha
   rw[ha] at ho2
   (have kX:=g8 @hpn @ha @hset;repeat' first|refine zw ?_|refine zy fun nu _ _=>?_|refine zc rfl (fun h=>?_) fun h=>?_|refine zi (fun h=>?_) fun h=>?_|exact .intro|refine us (hgt) ?_|refine us (hns) ?_|fail);all_goals clear kX
   ·exact⟨by rw[hor,ho2,h];rfl,aw (aw (aa.Sub.refl _) ho _) ho1' _⟩
   ·refine⟨i+1,by omega,⟨by omega,by rw[hor,ho2,h];rfl⟩,Env.ab (by simp[Env.Has,Env.get]),?_⟩
    rw[List.take_succ_eq_append_getElem (by simpa using hlt),hns2]
    simp only[List.getElem_map]
    exact iM ho1'
 ·have hi':i=l.length:=by omega
  subst hi'
  repeat' first|refine zw ?_|refine zy fun nu _ _=>?_|refine zc rfl (fun h=>?_) fun h=>?_|refine zi (fun h=>?_) fun h=>?_|exact .intro|fail
  exact⟨by rw[hor,List.drop_eq_nil_of_le (by simp)];rfl,aw (aa.Sub.refl _) ho _⟩
theorem AF (x:gB):Pure Tryz.prog 180 [aW x] (.str x.name):=by
 intro σ
 refine ah [.tmp 2] 5 Tryz.func180 (by rfl) rfl rfl rfl rfl ?_
 repeat' first|refine zw ?_|refine zy fun nu _ _=>?_|refine zc rfl (fun h=>?_) fun h=>?_|refine zi (fun h=>?_) fun h=>?_|exact .intro|fail
theorem Aj (k:SK) (l:List gB) (hl:l.length<4611686018427387904) (hn:∀x,x∈l→x.name.size≤9223372036854775807):
  Pure Tryz.prog 179 [.sl k (aj aW l),.fn 180 []] (.bool (aN [] (l.map (·.name)))):=by
 intro σ
 refine ah [.tmp 4] 30 Tryz.func179 (by rfl) rfl rfl rfl rfl ?_
 repeat' first|refine zw ?_|refine zy fun nu _ _=>?_|refine zc rfl (fun h=>?_) fun h=>?_|refine zi (fun h=>?_) fun h=>?_|exact .intro|fail
 intro o ho
 repeat' first|refine zw ?_|refine zy fun nu _ _=>?_|refine zc rfl (fun h=>?_) fun h=>?_|refine zi (fun h=>?_) fun h=>?_|exact .intro|fail
 refine ak (fun i:Nat=>[(1,.fn 180 []),(5,.map o),(10,.sl k (aj aW l)),(11,.int .i64 l.length),(12,.int .i64 i)]) (fun i=>σ.put o (.map (gV ((l.map (·.name)).take i)))) (fun i=>i≤l.length∧aN [] (l.map (·.name))=aN ((l.map (·.name)).take i) ((l.map (·.name)).drop i)) (fun i=>l.length-i) 0 ⟨Nat.zero_le _,rfl⟩ (Env.ab (by simp[Env.Has,Env.get])) (aa.Sub.refl _) ?_
 rintro i ⟨hi,hor⟩
 by_cases hlt:i<l.length
 ·have hg:l.getD i default=l[i]:=by simp[List.getD_eq_getElem?_getD,hlt]
  have hm:l[i]∈l:=List.getElem_mem hlt
  have hns:=eY l[i].name (hn _ hm)
  have hgt:=AF l[i]
  have ho2:=dX (l.map (·.name)) i l[i].name (by simp[hlt])
  obtain⟨ns,hns2⟩:∃ns,(l.map (·.name)).take i=ns:=⟨_,rfl⟩
  rw[hns2] at ho2 hor
  (have kX:=g9 @hg @hns2;repeat' first|refine zw ?_|refine zy fun nu _ _=>?_|refine zc rfl (fun h=>?_) fun h=>?_|refine zi (fun h=>?_) fun h=>?_|exact .intro|fail);all_goals clear kX
  intro o1 ho1
  have hpn:∀ (s:aa) (x:Ob),(s.put o1 x) o=s o:=fun s x=>au (fC ho1)
  have ho1':=ep ho1
  rcases Bool.eq_false_or_eq_true (ns.any fun t=>decide (t=l[i].name)) with ha|ha
  ·rw[ha] at ho2
   (have kX:=g9 @hpn @ha;repeat' first|refine zw ?_|refine zy fun nu _ _=>?_|refine zc rfl (fun h=>?_) fun h=>?_|refine zi (fun h=>?_) fun h=>?_|exact .intro|refine us (hgt) ?_|refine us (hns) ?_|fail);all_goals clear kX
   exact⟨by rw[hor,ho2];rfl,aw (aw (aa.Sub.refl _) ho _) ho1' _⟩
  ·have hset:=gl ns l[i].name ha
   rw[ha] at ho2
   (have kX:=g8 @hpn @ha @hset;repeat' first|refine zw ?_|refine zy fun nu _ _=>?_|refine zc rfl (fun h=>?_) fun h=>?_|refine zi (fun h=>?_) fun h=>?_|exact .intro|refine us (hgt) ?_|refine us (hns) ?_|fail);all_goals clear kX
   ·exact⟨by rw[hor,ho2,h];rfl,aw (aw (aa.Sub.refl _) ho _) ho1' _⟩
   ·refine⟨i+1,by omega,⟨by omega,by rw[hor,ho2,h];rfl⟩,Env.ab (by simp[Env.Has,Env.get]),?_⟩
    rw[List.take_succ_eq_append_getElem (by simpa using hlt),hns2]
    simp only[List.getElem_map]
    exact iM ho1'
 ·have hi':i=l.length:=by omega
  subst hi'
  repeat' first|refine zw ?_|refine zy fun nu _ _=>?_|refine zc rfl (fun h=>?_) fun h=>?_|refine zi (fun h=>?_) fun h=>?_|exact .intro|fail
  exact⟨by rw[hor,List.drop_eq_nil_of_le (by simp)];rfl,aw (aa.Sub.refl _) ho _⟩
end Go.Proofs.YtgfjihpbphplhaaGreat

namespace Go.Proofs.YtgfjihpbphplhaaGreat
open Go.Kern
structure PS where
 at_:Nat
 e:Int
section
variable (l:List UInt8)
def aR (i:Nat):Nat:=i+((l.drop i).takeWhile (fun c=>decide (c.toNat=32))).length
theorem gj (i:Nat):i≤aR l i:=Nat.le_add_right _ _
theorem dN {i:Nat} (h:i≤l.length):aR l i≤l.length:=by
 have:=(List.takeWhile_sublist (p:=fun c:UInt8=>decide (c.toNat=32)) (l:=l.drop i)).length_le
 rw[List.length_drop] at this
 unfold aR;omega
theorem sL {i:Nat} (h:i<l.length) (hc:(l.getD i default).toNat=32):aR l i=aR l (i+1):=by
 have hg:l.getD i default=l[i]:=by simp[List.getD_eq_getElem?_getD,h]
 rw[hg] at hc
 unfold aR
 rw[List.drop_eq_getElem_cons h,List.takeWhile_cons,if_pos (by simp[hc])]
 simp only[List.length_cons];omega
theorem sK {i:Nat} (h:i<l.length) (hc:¬ (l.getD i default).toNat=32):aR l i=i:=by
 have hg:l.getD i default=l[i]:=by simp[List.getD_eq_getElem?_getD,h]
 rw[hg] at hc
 unfold aR
 rw[List.drop_eq_getElem_cons h,List.takeWhile_cons,if_neg (by simp[hc])]
 rfl
theorem vc {i:Nat} (h:l.length≤i):aR l i=i:=by
 unfold aR
 rw[List.drop_eq_nil_of_le h];rfl
def nQ (i:Nat):Int:=if i<l.length then((l.getD i default).toNat:Int) else 0
def aE (c:Int) (p:PS):Bool×PS:=
 if p.e=0 then(if nQ l (aR l p.at_)=c∧aR l p.at_<l.length then(true,⟨aR l p.at_+1,0⟩) else(false,⟨aR l p.at_,0⟩)) else(false,p)
def dR (e:Int) (p:PS):PS:=if p.e=0 then⟨p.at_,e⟩ else p
def dw (c:Int):Bool:=decide (48≤c)&&decide (c≤57)
def ly:List UInt8→Nat→Int→Nat×Int
 | [],i,n=>(i,n)
 |c::r,i,n=>if dw c.toNat=true then ly r (i+1) (if 1000000<n*10+(c.toNat-48) then 1000000 else n*10+(c.toNat-48)) else(i,n)
def aL (p:PS):Int×PS:=
  if dw (nQ l (aR l p.at_))=true then
    (let r:=ly (l.drop (aR l p.at_)) (aR l p.at_) 0
     (r.2,if nQ l (aR l p.at_)=48∧aR l p.at_+1<r.1 then dR 4 ⟨r.1,p.e⟩ else if r.2<1∨65535<r.2 then dR 7 ⟨r.1,p.e⟩ else⟨r.1,p.e⟩))
  else(0,dR 4 ⟨aR l p.at_,p.e⟩)
def gW (p:PS):PS:=
  let a:=aL l p
  let t:=aE l 45 a.2
  if t.1=true then
    (let b:=aL l t.2
     if b.2.e=0∧b.1<a.1 then dR 7 b.2 else b.2)
  else t.2
def mP:Nat→PS→PS
 |0,p=>p
 |n+1,p=>if p.e=0 then(if (aE l 93 p).1=true then(aE l 93 p).2 else mP n (gW l (aE l 93 p).2)) else p
def g7 (ch:PS→PS) (p:PS):PS:=
  let t1:=aE l 46 p
  if t1.1=true then t1.2 else
  let t2:=aE l 91 t1.2
  if t2.1=true then mP l (l.length+2) (gW l t2.2) else
  let t3:=aE l 40 t2.2
  if t3.1=true then
    (let q:=ch t3.2
     if q.e=0 then(if (aE l 41 q).1=true then(aE l 41 q).2 else dR 4 (aE l 41 q).2) else q)
  else(aL l t3.2).2
def iz (ch:PS→PS) (p:PS):PS:=
 let q:=g7 l ch p
 let t1:=aE l 42 q
 if t1.1=true then t1.2 else
 let t2:=aE l 43 t1.2
 if t2.1=true then t2.2 else(aE l 63 t2.2).2
def mA (c:Int):Bool:=dw c||decide (c=46)||decide (c=91)||decide (c=40)
def jq (ch:PS→PS):Nat→PS→PS
 |0,p=>p
 |n+1,p=>if p.e=0 then(if mA (nQ l (aR l p.at_))=true then jq ch n (iz l ch ⟨aR l p.at_,0⟩) else⟨aR l p.at_,0⟩) else p
def dg (ch:PS→PS):Nat→PS→PS
 |0,p=>p
 |n+1,p=>if (aE l 124 (jq l ch (l.length+2) p)).1=true then dg ch n (aE l 124 (jq l ch (l.length+2) p)).2 else(aE l 124 (jq l ch (l.length+2) p)).2
def dE:Nat→PS→PS
 |0,p=>dR 2 p
 |n+1,p=>dg l (dE n) (l.length+2) p
def ij:Int:=
 if 64<l.length then 2 else
  let q:=(aE l 36 (dE l 8 (aE l 94 ⟨0,0⟩).2)).2
  if q.e=0 then(if aR l q.at_<l.length then 4 else 0) else q.e
structure cU (f:PS→PS):Prop where
 le:∀p,p.at_≤l.length→p.at_≤(f p).at_
 len:∀p,p.at_≤l.length→(f p).at_≤l.length
 err:∀p,p.at_≤l.length→p.e≠0→(f p).e≠0
theorem jf {e:Int} (he:e≠0):cU l (dR e):=by
 refine⟨fun p h=>?_,fun p h=>?_,fun p h k=>?_⟩<;>(unfold dR;split<;>first|exact Nat.le_refl _|assumption|skip)
theorem aB (c:Int):cU l (fun p=>(aE l c p).2):=by
 refine⟨fun p h=>?_,fun p h=>?_,fun p h k=>?_⟩
 ·have:=gj l p.at_
  simp only[aE];split
  ·split
   ·simp only;omega
   ·exact this
  ·exact Nat.le_refl _
 ·have:=dN l h
  simp only[aE];split
  ·split
   ·rename_i q;simp only;omega
   ·exact this
  ·exact h
 ·simp only[aE,if_neg k];exact k
theorem hZ {c:Int} {p:PS} (h:(aE l c p).1=true):p.e=0∧(aE l c p).2.e=0∧p.at_<(aE l c p).2.at_:=by
 have:=gj l p.at_
 unfold aE at h ⊢
 by_cases h1:p.e=0
 ·rw[if_pos h1] at h ⊢
  by_cases h2:nQ l (aR l p.at_)=c∧aR l p.at_<l.length
  ·rw[if_pos h2];exact⟨h1,rfl,by simp only;omega⟩
  ·rw[if_neg h2] at h;cases h
 ·rw[if_neg h1] at h;cases h
theorem mi:∀ (r:List UInt8) (i:Nat) (n:Int),i≤(ly r i n).1∧(ly r i n).1≤i+r.length
  | [],i,n=>⟨Nat.le_refl _,Nat.le_refl _⟩
  | c::r,i,n=>by
    simp only[ly]
    split
    · have:=mi r (i+1) (if 1000000<n*10+(c.toNat-48) then 1000000 else n*10+(c.toNat-48))
      simp only[List.length_cons];omega
    · simp only[List.length_cons];omega
theorem yW {r:List UInt8} {i:Nat} {n:Int} {c:UInt8} (h:dw c.toNat=true):i+1≤(ly (c::r) i n).1:=by
 rw[ly,if_pos h]
 exact(mi r (i+1) _).1
theorem o7 {i:Nat} (h:dw (nQ l i)=true):i<l.length∧nQ l i=((l.getD i default).toNat:Int):=by
 unfold nQ at h ⊢
 by_cases hi:i<l.length
 ·exact⟨hi,if_pos hi⟩
 ·rw[if_neg hi] at h;simp[dw] at h
theorem jg (e:Int) (p:PS):(dR e p).at_=p.at_:=by unfold dR;split<;>rfl
theorem ql {e:Int} (he:e≠0) (p:PS):(dR e p).e≠0:=by
 unfold dR;split
 ·exact he
 ·assumption
theorem lx (p:PS) (h:dw (nQ l (aR l p.at_))=true):(aL l p).2.at_=(ly (l.drop (aR l p.at_)) (aR l p.at_) 0).1:=by
 unfold aL
 rw[if_pos h]
 simp only
 split
 ·exact jg _ _
 ·split
  ·exact jg _ _
  ·rfl
theorem eG:cU l (fun p=>(aL l p).2):=by
 refine⟨fun p h=>?_,fun p h=>?_,fun p h k=>?_⟩
 ·have h1:=gj l p.at_
  by_cases hd:dw (nQ l (aR l p.at_))=true
  ·have h2:=mi (l.drop (aR l p.at_)) (aR l p.at_) 0
   simp only[lx l p hd];omega
  ·simp only[aL,if_neg hd,jg];exact h1
 ·have h1:=dN l h
  by_cases hd:dw (nQ l (aR l p.at_))=true
  ·have h2:=mi (l.drop (aR l p.at_)) (aR l p.at_) 0
   rw[List.length_drop] at h2
   simp only[lx l p hd];omega
  ·simp only[aL,if_neg hd,jg];exact h1
 ·by_cases hd:dw (nQ l (aR l p.at_))=true
  ·simp only[aL,if_pos hd]
   split
   ·exact ql (by decide) _
   ·split
    ·exact ql (by decide) _
    ·exact k
  ·simp only[aL,if_neg hd];exact ql (by decide) _
theorem oR (p:PS) (h:(aL l p).2.e=0):p.at_<(aL l p).2.at_:=by
 have h1:=gj l p.at_
 by_cases hd:dw (nQ l (aR l p.at_))=true
 ·obtain⟨hlt,hc⟩:=o7 l hd
  rw[lx l p hd,List.drop_eq_getElem_cons hlt]
  have hg:l.getD (aR l p.at_) default=l[aR l p.at_]:=by simp[List.getD_eq_getElem?_getD,hlt]
  rw[hc,hg] at hd
  have:=yW (r:=l.drop (aR l p.at_+1)) (i:=aR l p.at_) (n:=0) hd
  omega
 ·simp only[aL,if_neg hd] at h
  exact absurd h (ql (by decide) _)
theorem cU.comp {f g:PS→PS} (hf:cU l f) (hg:cU l g):cU l (fun p=>g (f p)):=
 ⟨fun p h=>Nat.le_trans (hf.le p h) (hg.le _ (hf.len p h)),fun p h=>hg.len _ (hf.len p h),fun p h k=>hg.err _ (hf.len p h) (hf.err p h k)⟩
theorem cU.ite {f g:PS→PS} (c:PS→Prop) [∀p,Decidable (c p)] (hf:cU l f) (hg:cU l g):cU l (fun p=>if c p then f p else g p):=by
 refine⟨fun p h=>?_,fun p h=>?_,fun p h k=>?_⟩<;>(try simp only)<;>split
 ·exact hf.le p h
 ·exact hg.le p h
 ·exact hf.len p h
 ·exact hg.len p h
 ·exact hf.err p h k
 ·exact hg.err p h k
theorem cU.id:cU l (fun p=>p):=⟨fun _ _=>Nat.le_refl _,fun _ h=>h,fun _ _ k=>k⟩
theorem gx:cU l (gW l):=by
 have h1:=(eG l).comp l (aB l 45)
 have h2:=h1.comp l (eG l)
 have h3:=h2.comp l (jf l (e:=7) (by decide))
 exact cU.ite l (fun p=>(aE l 45 (aL l p).2).1=true) (cU.ite l (fun p=>(aL l (aE l 45 (aL l p).2).2).2.e=0∧(aL l (aE l 45 (aL l p).2).2).1<(aL l p).1) h3 h2) h1
theorem part_go (p:PS) (hp:p.at_≤l.length) (h:(gW l p).e=0):p.at_<(gW l p).at_:=by
  have hm:=eG l
  have h1:=hm.len p hp
  have ht:=aB l 45
  have key:(aL l p).2.e=0→p.at_<(gW l p).at_:=fun h0=>by
    have g1:=oR l p h0
    have g2:=ht.le _ h1
    have g3:=ht.len _ h1
    have g4:=hm.le _ g3
    simp only[gW]
    split
    · split
      · rw[jg];omega
      · (try simp only at g2 g4);omega
    · (try simp only at g2);omega
  refine key ?_
  cases Int.decEq (aL l p).2.e 0 with
  |isTrue h0=>exact h0
  | isFalse h0=>
    have:=((ht.comp l hm).comp l (jf l (e:=7) (by decide)))
    have t0:(aE l 45 (aL l p).2).1=false:=by unfold aE;rw[if_neg h0]
    simp only[gW,t0,Bool.false_eq_true,if_false] at h
    exact absurd h (ht.err _ h1 h0)
theorem mO:∀n,cU l (mP l n)
 |0=>cU.id l
 |n+1=>cU.ite l (fun p=>p.e=0) (cU.ite l (fun p=>(aE l 93 p).1=true) (aB l 93) (((aB l 93).comp l (gx l)).comp l (mO n))) (cU.id l)
variable {ch:PS→PS} (hch:cU l ch)
include hch
theorem lL:cU l (g7 l ch):=by
 have t1:=aB l 46
 have t2:=t1.comp l (aB l 91)
 have t3:=t2.comp l (aB l 40)
 have q:=t3.comp l hch
 have q1:=q.comp l (aB l 41)
 have q2:=q1.comp l (jf l (e:=4) (by decide))
 exact cU.ite l (fun p=>(aE l 46 p).1=true) t1 (cU.ite l (fun p=>(aE l 91 (aE l 46 p).2).1=true) ((t2.comp l (gx l)).comp l (mO l (l.length+2)))
  (cU.ite l (fun p=>(aE l 40 (aE l 91 (aE l 46 p).2).2).1=true) (cU.ite l (fun p=>(ch (aE l 40 (aE l 91 (aE l 46 p).2).2).2).e=0) (cU.ite l (fun p=>(aE l 41 (ch (aE l 40 (aE l 91 (aE l 46 p).2).2).2)).1=true) q1 q2) q) (t3.comp l (eG l))))
theorem oX:cU l (iz l ch):=by
 have a:=lL l hch
 have t1:=a.comp l (aB l 42)
 have t2:=t1.comp l (aB l 43)
 have t3:=t2.comp l (aB l 63)
 exact cU.ite l (fun p=>(aE l 42 (g7 l ch p)).1=true) t1 (cU.ite l (fun p=>(aE l 43 (aE l 42 (g7 l ch p)).2).1=true) t2 t3)
theorem zS (p:PS) (hp:p.at_≤l.length) (h:(g7 l ch p).e=0) (h0:p.e=0):p.at_<(g7 l ch p).at_:=by
 have m1:=aB l 46
 have m2:=m1.comp l (aB l 91)
 have m3:=m2.comp l (aB l 40)
 have a1:=m1.le p hp
 have a2:=m2.le p hp
 have a3:=m3.le p hp
 have b1:=m1.len p hp
 have b2:=m2.len p hp
 have b3:=m3.len p hp
 try simp only at a1 a2 a3 b1 b2 b3
 simp only[g7] at h ⊢
 split at h
 ·rename_i t
  rw[if_pos t];exact(hZ l t).2.2
 ·rename_i n1
  rw[if_neg n1]
  split at h
  ·rename_i t
   rw[if_pos t]
   have g1:=(hZ l t).2.2
   have g2:=((gx l).comp l (mO l (l.length+2))).le _ b2
   (try simp only at g2);omega
  ·rename_i n2
   rw[if_neg n2]
   split at h
   ·rename_i t
    rw[if_pos t]
    have g1:=(hZ l t).2.2
    have g2:=hch.le _ b3
    have g3:=hch.len _ b3
    have g4:=(aB l 41).le _ g3
    split
    ·split
     ·(try simp only at g4);omega
     ·rw[jg];omega
    ·omega
   ·rename_i n3
    rw[if_neg n3]
    have g1:=oR l _ h
    omega
theorem y4 (p:PS) (hp:p.at_≤l.length) (h:(iz l ch p).e=0) (h0:p.e=0):p.at_<(iz l ch p).at_:=by
  have m:=lL l hch
  have b:=m.len p hp
  have r1:=aB l 42
  have r2:=r1.comp l (aB l 43)
  have r3:=r2.comp l (aB l 63)
  have key:(g7 l ch p).e=0→p.at_<(iz l ch p).at_:=fun h1=>by
    have g:=zS l hch p hp h1 h0
    have g1:=r1.le _ b
    have g2:=r2.le _ b
    have g3:=r3.le _ b
    try simp only at g1 g2 g3
    simp only[iz]
    split
    · omega
    · split<;>omega
  refine key ?_
  cases Int.decEq (g7 l ch p).e 0 with
  |isTrue h1=>exact h1
  | isFalse h1=>
    exfalso
    have e1:=r1.err _ b h1
    have e2:=r2.err _ b h1
    have e3:=r3.err _ b h1
    try simp only at e1 e2 e3
    simp only[iz] at h
    split at h
    · exact e1 h
    · split at h
      · exact e2 h
      · exact e3 h
theorem kb:∀n,cU l (jq l ch n)
  |0=>cU.id l
  | n+1=>by
    have ih:=kb n
    have im:=oX l hch
    refine⟨fun p h=>?_,fun p h=>?_,fun p h k=>?_⟩
    · have s1:=gj l p.at_
      have s2:=dN l h
      simp only[jq];split
      · split
        · have g1:=im.le ⟨aR l p.at_,0⟩ s2
          have g2:=ih.le _ (im.len ⟨aR l p.at_,0⟩ s2)
          (try simp only at g1);omega
        · exact s1
      · exact Nat.le_refl _
    · have s2:=dN l h
      simp only[jq];split
      · split
        · exact ih.len _ (im.len ⟨aR l p.at_,0⟩ s2)
        · exact s2
      · exact h
    · simp only[jq,if_neg k];exact k
theorem so:∀n,cU l (dg l ch n)
  |0=>cU.id l
  | n+1=>by
    have r:=(kb l hch (l.length+2)).comp l (aB l 124)
    exact cU.ite l (fun p=>(aE l 124 (jq l ch (l.length+2) p)).1=true) (r.comp l (so n)) r
omit hch in
theorem eL:∀n,cU l (dE l n)
 |0=>jf l (by decide)
 |n+1=>so l (eL n) _
end
end Go.Proofs.YtgfjihpbphplhaaGreat

namespace Go.Proofs.YtgfjihpbphplhaaGreat
open Go.Kern
set_option maxRecDepth 100000
set_option maxHeartbeats 4000000
attribute [local irreducible] af W
def pO (s:ByteArray) (p:PS):Ob:= .arr 345 [.agg [.str s,.int .i64 p.at_,.int .i64 p.e]]
attribute [local go_sem] pO dY
theorem gz (s:ByteArray) (p:PS) (e:Int) (o:Nat) (σ:aa):
  af Tryz.prog 290 [.ptr o 0 0,.int .i64 e] (σ.put o (pO s p)) (fun r t=>r= .bK []∧t=σ.put o (pO s (dR e p))):=by
 refine ai [] 13 Tryz.func290 (by rfl) rfl rfl rfl rfl ?_
 by_cases h:p.e=0
 ·simp only[dR,if_pos h]
  (have kX:=@h;repeat' first|refine zw ?_|refine zy fun nu _ _=>?_|refine zc rfl (fun h=>?_) fun h=>?_|refine zi (fun h=>?_) fun h=>?_|exact .intro|fail);all_goals clear kX
 ·simp only[dR,if_neg h]
  (have kX:=@h;repeat' first|refine zw ?_|refine zy fun nu _ _=>?_|refine zc rfl (fun h=>?_) fun h=>?_|refine zi (fun h=>?_) fun h=>?_|exact .intro|fail);all_goals clear kX
section
variable (s:ByteArray) (hs:s.size≤1000)
include hs
theorem iU (p:PS) (hp:p.at_≤(B s).length) (o:Nat) (σ:aa):
  af Tryz.prog 289 [.ptr o 0 0] (σ.put o (pO s p)) (fun r t=>r= .int .u8 (nQ (B s) (aR (B s) p.at_))∧t=σ.put o (pO s ⟨aR (B s) p.at_,p.e⟩)):=by
 have hl:=c8 s
 refine ai [.tmp 2] 51 Tryz.func289 (by rfl) rfl rfl rfl rfl ?_
 repeat' first|refine zw ?_|refine zy fun nu _ _=>?_|refine zc rfl (fun h=>?_) fun h=>?_|refine zi (fun h=>?_) fun h=>?_|exact .intro|fail
 refine ak (fun i:Nat=>[(0,.ptr o 0 0)]) (fun i=>σ.put o (pO s ⟨i,p.e⟩)) (fun i=>i≤(B s).length∧aR (B s) p.at_=aR (B s) i) (fun i=>(B s).length-i) p.at_ ⟨hp,rfl⟩ (Env.ab (by simp[Env.Has,Env.get])) (aa.Sub.refl _) ?_
 rintro i ⟨hi,hor⟩
 by_cases hlt:i<(B s).length
 ·by_cases hc:(((B s).getD i default).toNat:Int)=32
  ·have bg:=sL (B s) hlt (by omega)
   (have kX:=@hc;repeat' first|refine zw ?_|refine ry (id:=1) [] (cq [3,7,14,18]) fun nu _ _=>?_|refine ry (id:=3) [] (cq [3,7]) fun nu _ _=>?_|refine ry (id:=5) [] (cq [3,7]) fun nu _ _=>?_|refine zy fun nu _ _=>?_|refine zc rfl (fun h=>?_) fun h=>?_|refine zi (fun h=>?_) fun h=>?_|exact .intro|fail);all_goals clear kX
   exact⟨i+1,by omega,⟨by omega,by rw[hor,bg]⟩,Env.ab (by simp[Env.Has,Env.get]),by simp[pO];exact aa.Sub.refl _⟩
  ·have bg:=sK (B s) hlt (by omega)
   rw[hor,bg]
   (have kX:=g8 @hc @nQ.eq_1 @hlt;repeat' first|refine zw ?_|refine ry (id:=1) [] (cq [3,7,14,18]) fun nu _ _=>?_|refine ry (id:=3) [] (cq [3,7]) fun nu _ _=>?_|refine ry (id:=5) [] (cq [3,7]) fun nu _ _=>?_|refine zy fun nu _ _=>?_|refine zc rfl (fun h=>?_) fun h=>?_|refine zi (fun h=>?_) fun h=>?_|exact .intro|fail);all_goals clear kX
 ·have hie:i=(B s).length:=by omega
  have bg:=vc (B s) (i:=i) (by omega)
  rw[hor,bg]
  (have kX:=g9 @nQ.eq_1 @hlt;repeat' first|refine zw ?_|refine ry (id:=1) [] (cq [3,7,14,18]) fun nu _ _=>?_|refine ry (id:=3) [] (cq [3,7]) fun nu _ _=>?_|refine ry (id:=5) [] (cq [3,7]) fun nu _ _=>?_|refine zy fun nu _ _=>?_|refine zc rfl (fun h=>?_) fun h=>?_|refine zi (fun h=>?_) fun h=>?_|exact .intro|fail);all_goals clear kX
theorem bR (p:PS) (hp:p.at_≤(B s).length) (c:Int) (o:Nat) (σ:aa):
  af Tryz.prog 287 [.ptr o 0 0,.int .u8 c] (σ.put o (pO s p)) (fun r t=>r= .bool (aE (B s) c p).1∧t=σ.put o (pO s (aE (B s) c p).2)):=by
 have hl:=c8 s
 obtain⟨i,e⟩:=p
 simp only at hp
 have h2:=dN (B s) hp
 have hpk:=iU s hs ⟨i,e⟩ hp o σ
 refine ai [.tmp 4] 35 Tryz.func287 (by rfl) rfl rfl rfl rfl ?_
 by_cases h:e=0
 ·subst h
  obtain⟨a,ha⟩:∃a,aR (B s) i=a:=⟨_,rfl⟩
  simp only[aE,if_true]
  simp only at hpk
  rw[ha] at hpk h2 ⊢
  by_cases hc:nQ (B s) a=c
  ·by_cases hlt:a<(B s).length
   ·rw[if_pos ⟨hc,hlt⟩]
    (have kX:=@hc;repeat' first|refine zw ?_|refine ry (id:=1) [] (cw [3,15,19] [7] [] [] []) fun nu _ _=>?_|refine zy fun nu _ _=>?_|refine zc rfl (fun h=>?_) fun h=>?_|refine zi (fun h=>?_) fun h=>?_|exact .intro|refine uw (hpk) ?_|fail);all_goals clear kX
    exact sub_eq (by simp)
   ·rw[if_neg (fun k=>hlt k.2)]
    (have kX:=@hc;repeat' first|refine zw ?_|refine ry (id:=1) [] (cw [3,15,19] [7] [] [] []) fun nu _ _=>?_|refine zy fun nu _ _=>?_|refine zc rfl (fun h=>?_) fun h=>?_|refine zi (fun h=>?_) fun h=>?_|exact .intro|refine uw (hpk) ?_|fail);all_goals clear kX
  ·rw[if_neg (fun k=>hc k.1)]
   (have kX:=@hc;repeat' first|refine zw ?_|refine ry (id:=1) [] (cw [3,15,19] [7] [] [] []) fun nu _ _=>?_|refine zy fun nu _ _=>?_|refine zc rfl (fun h=>?_) fun h=>?_|refine zi (fun h=>?_) fun h=>?_|exact .intro|refine uw (hpk) ?_|fail);all_goals clear kX
 ·simp only[aE,if_neg h]
  (have kX:=@h;repeat' first|refine zw ?_|refine ry (id:=1) [] (cw [3,15,19] [7] [] [] []) fun nu _ _=>?_|refine zy fun nu _ _=>?_|refine zc rfl (fun h=>?_) fun h=>?_|refine zi (fun h=>?_) fun h=>?_|exact .intro|fail);all_goals clear kX
end
theorem bb (c:Int):Pure Tryz.prog 331 [.int .u8 c] (.bool (dw c)):=by
 intro σ
 refine ah [.tmp 2] 9 Tryz.func331 (by rfl) rfl rfl rfl rfl ?_
 repeat' first|refine zw ?_|refine zy fun nu _ _=>?_|refine zc rfl (fun h=>?_) fun h=>?_|refine zi (fun h=>?_) fun h=>?_|exact .intro|fail
 all_goals (simp only[dw];congr 1;rw[Bool.eq_iff_iff];simp;omega)
theorem De {x:Int} (h1:0≤x) (h2:x≤255):IntKind.u8.wrap x=x:=IntWalk.u8_in _ ⟨h1,h2⟩
attribute [go_sem] De
theorem wN {σ:aa} {o:Nat} {x:Ob} (h:σ o=some x):σ.put o x=σ:=by
 funext p
 simp only[aa.put]
 split
 ·rename_i e;rw[e,h]
 ·rfl
section
variable (s:ByteArray) (hs:s.size≤1000)
include hs
theorem il (p:PS) (hp:p.at_≤(B s).length) (o:Nat) (σ:aa):
  af Tryz.prog 336 [.ptr o 0 0] (σ.put o (pO s p)) (fun r t=>r= .int .i64 (aL (B s) p).1∧t=σ.put o (pO s (aL (B s) p).2)):=by
 have hl:=c8 s
 obtain⟨i0,e⟩:=p
 simp only at hp
 have h2:=dN (B s) hp
 have hpk:=iU s hs ⟨i0,e⟩ hp o σ
 obtain⟨a,ha⟩:∃a,aR (B s) i0=a:=⟨_,rfl⟩
 simp only at hpk
 rw[ha] at hpk h2
 have hdg:=bb (nQ (B s) a)
 have hfl:∀ (e':Int) (q:PS),af Tryz.prog 290 [.ptr o 0 0,.int .i64 e'] (σ.put o (pO s q)) (fun r t=>r= .bK []∧t=σ.put o (pO s (dR e' q))):=fun e' q=>gz s q e' o σ
 simp only[aL,ha]
 refine ai [.tmp 2] 88 Tryz.func336 (by rfl) rfl rfl rfl rfl ?_
 rcases Bool.eq_false_or_eq_true (dw (nQ (B s) a)) with hd|hd
 ·rw[if_pos hd]
  obtain⟨halt,hac⟩:=o7 (B s) hd
  obtain⟨b,n,hbn⟩:∃b n,ly ((B s).drop a) a 0=(b,n):=⟨_,_,rfl⟩
  simp only[hbn]
  (have kX:=@hd;repeat' first|refine zw ?_|refine zy fun nu _ _=>?_|refine zc rfl (fun h=>?_) fun h=>?_|refine zi (fun h=>?_) fun h=>?_|exact .intro|refine uw (hpk) ?_|refine us (hdg) ?_|fail);all_goals clear kX
  refine ak (fun x:Nat×Int=>[(0,.ptr o 0 0),(3,.int .i64 a),(4,.int .i64 x.2)]) (fun x=>σ.put o (pO s ⟨x.1,e⟩)) (fun x=>a≤x.1∧x.1≤(B s).length∧0≤x.2∧x.2≤1000000∧ly ((B s).drop x.1) x.1 x.2=(b,n)) (fun x=>(B s).length-x.1) (a,0) ⟨Nat.le_refl _,h2,by simp,by simp,hbn⟩ (Env.ab (by simp[Env.Has,Env.get,Env.aG])) (aa.Sub.refl _) ?_
  rintro⟨i,m⟩ ⟨hai,hil,hm0,hm1,hr⟩
  simp only at hai hil hm0 hm1 hr
  by_cases hlt:i<(B s).length
  ·have hg:(B s).getD i default=(B s)[i]:=by simp[List.getD_eq_getElem?_getD,hlt]
   rw[List.drop_eq_getElem_cons hlt] at hr
   obtain⟨c,hc⟩:∃c,(B s)[i]=c:=⟨_,rfl⟩
   rw[hc] at hg hr
   have hc255:=c.toNat_lt
   rcases Bool.eq_false_or_eq_true (dw c.toNat) with hd2|hd2
   ·have hcb:48≤(c.toNat:Int)∧(c.toNat:Int)≤57:=by simpa [dw] using hd2
    rw[ly,if_pos hd2] at hr
    by_cases hbig:1000000<m*10+((c.toNat:Int)-48)
    ·rw[if_pos hbig] at hr
     (have kX:=g8 @hg @hd2 @hbig;repeat' first|refine zw ?_|refine ry (id:=5) [] (cq [3,7,14,18]) fun nu _ _=>?_|refine ry (id:=6) [] (cq [5,9]) fun nu _ _=>?_|refine zy fun nu _ _=>?_|refine zc rfl (fun h=>?_) fun h=>?_|refine zi (fun h=>?_) fun h=>?_|exact .intro|refine us (bb _) ?_|fail);all_goals clear kX
     exact⟨(i+1,1000000),by simp only;omega,⟨by simp only;omega,by simp only;omega,by simp,by simp,hr⟩,Env.ab (by simp[Env.Has,Env.get]),by simp[pO];exact aa.Sub.refl _⟩
    ·rw[if_neg hbig] at hr
     (have kX:=g8 @hg @hd2 @hbig;repeat' first|refine zw ?_|refine ry (id:=5) [] (cq [3,7,14,18]) fun nu _ _=>?_|refine ry (id:=6) [] (cq [5,9]) fun nu _ _=>?_|refine zy fun nu _ _=>?_|refine zc rfl (fun h=>?_) fun h=>?_|refine zi (fun h=>?_) fun h=>?_|exact .intro|refine us (bb _) ?_|fail);all_goals clear kX
     exact⟨(i+1,m*10+((c.toNat:Int)-48)),by simp only;omega,⟨by simp only;omega,by simp only;omega,by simp only;omega,by simp only;omega,hr⟩,Env.ab (by simp[Env.Has,Env.get]),by simp[pO];exact aa.Sub.refl _⟩
   ·rw[ly,if_neg (by rw[hd2];simp)] at hr
    injection hr with q1 q2
    subst q1;subst q2
    rw[hac]
    by_cases hz:((((B s).getD a default).toNat:Int)=48)∧a+1<i
    ·rw[if_pos hz]
     have hz1:=hz.1;have hz2:=hz.2
     (have kX:=uS @hac @hg @hd2 @hz1 @hz2;repeat' first|refine zw ?_|refine ry (id:=5) [] (cq [3,7,14,18]) fun nu _ _=>?_|refine ry (id:=6) [] (cq [5,9]) fun nu _ _=>?_|refine zy fun nu _ _=>?_|refine zc rfl (fun h=>?_) fun h=>?_|refine zi (fun h=>?_) fun h=>?_|exact .intro|refine us (bb _) ?_|refine uw (hfl 4 ⟨i,e⟩) ?_|fail);all_goals clear kX
    ·rw[if_neg hz]
     by_cases hn:m<1∨65535<m
     ·rw[if_pos hn]
      by_cases hz1:((((B s).getD a default).toNat:Int)=48)<;>by_cases hn1:m<1
      ·(try have hz2:¬ (a+1<i):=fun k=>hz ⟨hz1,k⟩)
       (have kX:=uS @hac @hg @hd2 @hz1 @hn1;repeat' first|refine zw ?_|refine ry (id:=5) [] (cq [3,7,14,18]) fun nu _ _=>?_|refine ry (id:=6) [] (cq [5,9]) fun nu _ _=>?_|refine zy fun nu _ _=>?_|refine zc rfl (fun h=>?_) fun h=>?_|refine zi (fun h=>?_) fun h=>?_|exact .intro|refine us (bb _) ?_|refine uw (hfl 7 ⟨i,e⟩) ?_|fail);all_goals clear kX
      ·(try have hz2:¬ (a+1<i):=fun k=>hz ⟨hz1,k⟩)
       (have kX:=uS @hac @hg @hd2 @hz1 @hn1;repeat' first|refine zw ?_|refine ry (id:=5) [] (cq [3,7,14,18]) fun nu _ _=>?_|refine ry (id:=6) [] (cq [5,9]) fun nu _ _=>?_|refine zy fun nu _ _=>?_|refine zc rfl (fun h=>?_) fun h=>?_|refine zi (fun h=>?_) fun h=>?_|exact .intro|refine us (bb _) ?_|refine uw (hfl 7 ⟨i,e⟩) ?_|fail);all_goals clear kX
      ·(try have hz2:¬ (a+1<i):=fun k=>hz ⟨hz1,k⟩)
       (have kX:=uS @hac @hg @hd2 @hz1 @hn1;repeat' first|refine zw ?_|refine ry (id:=5) [] (cq [3,7,14,18]) fun nu _ _=>?_|refine ry (id:=6) [] (cq [5,9]) fun nu _ _=>?_|refine zy fun nu _ _=>?_|refine zc rfl (fun h=>?_) fun h=>?_|refine zi (fun h=>?_) fun h=>?_|exact .intro|refine us (bb _) ?_|refine uw (hfl 7 ⟨i,e⟩) ?_|fail);all_goals clear kX
      ·(try have hz2:¬ (a+1<i):=fun k=>hz ⟨hz1,k⟩)
       (have kX:=uS @hac @hg @hd2 @hz1 @hn1;repeat' first|refine zw ?_|refine ry (id:=5) [] (cq [3,7,14,18]) fun nu _ _=>?_|refine ry (id:=6) [] (cq [5,9]) fun nu _ _=>?_|refine zy fun nu _ _=>?_|refine zc rfl (fun h=>?_) fun h=>?_|refine zi (fun h=>?_) fun h=>?_|exact .intro|refine us (bb _) ?_|refine uw (hfl 7 ⟨i,e⟩) ?_|fail);all_goals clear kX
     ·rw[if_neg hn]
      by_cases hz1:((((B s).getD a default).toNat:Int)=48)
      ·(try have hz2:¬ (a+1<i):=fun k=>hz ⟨hz1,k⟩)
       (have kX:=nO @hac @hg @hd2 @hz1;repeat' first|refine zw ?_|refine ry (id:=5) [] (cq [3,7,14,18]) fun nu _ _=>?_|refine ry (id:=6) [] (cq [5,9]) fun nu _ _=>?_|refine zy fun nu _ _=>?_|refine zc rfl (fun h=>?_) fun h=>?_|refine zi (fun h=>?_) fun h=>?_|exact .intro|refine us (bb _) ?_|refine uw (hfl 7 ⟨i,e⟩) ?_|fail);all_goals clear kX
      ·(try have hz2:¬ (a+1<i):=fun k=>hz ⟨hz1,k⟩)
       (have kX:=nO @hac @hg @hd2 @hz1;repeat' first|refine zw ?_|refine ry (id:=5) [] (cq [3,7,14,18]) fun nu _ _=>?_|refine ry (id:=6) [] (cq [5,9]) fun nu _ _=>?_|refine zy fun nu _ _=>?_|refine zc rfl (fun h=>?_) fun h=>?_|refine zi (fun h=>?_) fun h=>?_|exact .intro|refine us (bb _) ?_|refine uw (hfl 7 ⟨i,e⟩) ?_|fail);all_goals clear kX
  ·have hie:i=(B s).length:=by omega
   rw[List.drop_eq_nil_of_le (by omega),ly] at hr
   injection hr with q1 q2
   subst q1;subst q2
   rw[hac]
   by_cases hz:((((B s).getD a default).toNat:Int)=48)∧a+1<i
   ·rw[if_pos hz]
    have hz1:=hz.1;have hz2:=hz.2
    (have kX:=g8 @hac @hz1 @hz2;repeat' first|refine zw ?_|refine ry (id:=5) [] (cq [3,7,14,18]) fun nu _ _=>?_|refine ry (id:=6) [] (cq [5,9]) fun nu _ _=>?_|refine zy fun nu _ _=>?_|refine zc rfl (fun h=>?_) fun h=>?_|refine zi (fun h=>?_) fun h=>?_|exact .intro|refine us (bb _) ?_|refine uw (hfl 4 ⟨i,e⟩) ?_|fail);all_goals clear kX
   ·rw[if_neg hz]
    by_cases hn:m<1∨65535<m
    ·rw[if_pos hn]
     by_cases hz1:((((B s).getD a default).toNat:Int)=48)<;>by_cases hn1:m<1
     ·(try have hz2:¬ (a+1<i):=fun k=>hz ⟨hz1,k⟩)
      (have kX:=g8 @hac @hz1 @hn1;repeat' first|refine zw ?_|refine ry (id:=5) [] (cq [3,7,14,18]) fun nu _ _=>?_|refine ry (id:=6) [] (cq [5,9]) fun nu _ _=>?_|refine zy fun nu _ _=>?_|refine zc rfl (fun h=>?_) fun h=>?_|refine zi (fun h=>?_) fun h=>?_|exact .intro|refine us (bb _) ?_|refine uw (hfl 7 ⟨i,e⟩) ?_|fail);all_goals clear kX
     ·(try have hz2:¬ (a+1<i):=fun k=>hz ⟨hz1,k⟩)
      (have kX:=g8 @hac @hz1 @hn1;repeat' first|refine zw ?_|refine ry (id:=5) [] (cq [3,7,14,18]) fun nu _ _=>?_|refine ry (id:=6) [] (cq [5,9]) fun nu _ _=>?_|refine zy fun nu _ _=>?_|refine zc rfl (fun h=>?_) fun h=>?_|refine zi (fun h=>?_) fun h=>?_|exact .intro|refine us (bb _) ?_|refine uw (hfl 7 ⟨i,e⟩) ?_|fail);all_goals clear kX
     ·(try have hz2:¬ (a+1<i):=fun k=>hz ⟨hz1,k⟩)
      (have kX:=g8 @hac @hz1 @hn1;repeat' first|refine zw ?_|refine ry (id:=5) [] (cq [3,7,14,18]) fun nu _ _=>?_|refine ry (id:=6) [] (cq [5,9]) fun nu _ _=>?_|refine zy fun nu _ _=>?_|refine zc rfl (fun h=>?_) fun h=>?_|refine zi (fun h=>?_) fun h=>?_|exact .intro|refine us (bb _) ?_|refine uw (hfl 7 ⟨i,e⟩) ?_|fail);all_goals clear kX
     ·(try have hz2:¬ (a+1<i):=fun k=>hz ⟨hz1,k⟩)
      (have kX:=g8 @hac @hz1 @hn1;repeat' first|refine zw ?_|refine ry (id:=5) [] (cq [3,7,14,18]) fun nu _ _=>?_|refine ry (id:=6) [] (cq [5,9]) fun nu _ _=>?_|refine zy fun nu _ _=>?_|refine zc rfl (fun h=>?_) fun h=>?_|refine zi (fun h=>?_) fun h=>?_|exact .intro|refine us (bb _) ?_|refine uw (hfl 7 ⟨i,e⟩) ?_|fail);all_goals clear kX
    ·rw[if_neg hn]
     by_cases hz1:((((B s).getD a default).toNat:Int)=48)
     ·(try have hz2:¬ (a+1<i):=fun k=>hz ⟨hz1,k⟩)
      (have kX:=g9 @hac @hz1;repeat' first|refine zw ?_|refine ry (id:=5) [] (cq [3,7,14,18]) fun nu _ _=>?_|refine ry (id:=6) [] (cq [5,9]) fun nu _ _=>?_|refine zy fun nu _ _=>?_|refine zc rfl (fun h=>?_) fun h=>?_|refine zi (fun h=>?_) fun h=>?_|exact .intro|refine us (bb _) ?_|refine uw (hfl 7 ⟨i,e⟩) ?_|fail);all_goals clear kX
     ·(try have hz2:¬ (a+1<i):=fun k=>hz ⟨hz1,k⟩)
      (have kX:=g9 @hac @hz1;repeat' first|refine zw ?_|refine ry (id:=5) [] (cq [3,7,14,18]) fun nu _ _=>?_|refine ry (id:=6) [] (cq [5,9]) fun nu _ _=>?_|refine zy fun nu _ _=>?_|refine zc rfl (fun h=>?_) fun h=>?_|refine zi (fun h=>?_) fun h=>?_|exact .intro|refine us (bb _) ?_|refine uw (hfl 7 ⟨i,e⟩) ?_|fail);all_goals clear kX
 ·rw[if_neg (by rw[hd];simp)]
  (have kX:=@hd;repeat' first|refine zw ?_|refine zy fun nu _ _=>?_|refine zc rfl (fun h=>?_) fun h=>?_|refine zi (fun h=>?_) fun h=>?_|exact .intro|refine uw (hpk) ?_|refine us (hdg) ?_|refine uw (hfl 4 ⟨a,e⟩) ?_|fail);all_goals clear kX
end
end Go.Proofs.YtgfjihpbphplhaaGreat

namespace Go.Proofs.YtgfjihpbphplhaaGreat
open Go.Kern
set_option maxRecDepth 100000
set_option maxHeartbeats 4000000
attribute [local irreducible] af W
attribute [local go_sem] pO
theorem mC {σ:aa} {o c:Nat} {x z:Ob} (hc:σ c=none):aa.Sub (σ.put o x) ((σ.put c z).put o x):=fun p y hy=>by
 simp only[aa.put] at hy ⊢
 split
 ·rename_i e;rw[if_pos e] at hy;exact hy
 ·rename_i e;rw[if_neg e] at hy
  split
  ·rename_i e2;rw[e2,hc] at hy;cases hy
  ·exact hy
section
variable (s:ByteArray) (hs:s.size≤1000)
include hs
def uu (l:List UInt8) (p:PS):Int:=
 if (aE l 45 (aL l p).2).1=true then(aL l (aE l 45 (aL l p).2).2).1 else(aL l p).1
theorem oQ (p:PS) (hp:p.at_≤(B s).length) (o:Nat) (σ:aa):
    af Tryz.prog 335 [.ptr o 0 0] (σ.put o (pO s p)) (fun r t=>r= .agg [.int .i64 (aL (B s) p).1,.int .i64 (uu (B s) p)]∧t=σ.put o (pO s (gW (B s) p))):=by
  have hl:=c8 s
  have h1:=il s hs p hp o
  obtain⟨a,q1,hq1⟩:∃a q1,aL (B s) p=(a,q1):=⟨_,_,rfl⟩
  have hn1:=(eG (B s)).len p hp
  have h2:=bR s hs q1 (by rw[hq1] at hn1;exact hn1) 45 o
  obtain⟨b1,q2,hq2⟩:∃b1 q2,aE (B s) 45 q1=(b1,q2):=⟨_,_,rfl⟩
  have hn2:=(aB (B s) 45).len q1 (by rw[hq1] at hn1;exact hn1)
  have h3:=il s hs q2 (by rw[hq2] at hn2;exact hn2) o
  obtain⟨b,q3,hq3⟩:∃b q3,aL (B s) q2=(b,q3):=⟨_,_,rfl⟩
  have h4:∀σ:aa,af Tryz.prog 290 [.ptr o 0 0,.int .i64 7] (σ.put o (pO s q3)) (fun r t=>r= .bK []∧t=σ.put o (pO s (dR 7 q3))):=fun σ=>gz s q3 7 o σ
  simp only[hq1,hq2,hq3,uu,gW] at h1 h2 h3 h4 ⊢
  cases b1 with
  | false=>
    simp only[Bool.false_eq_true,if_false]
    refine ai [.cell 2 391] 30 Tryz.func335 (by rfl) rfl rfl rfl rfl ?_
    (have kS:Sa 1:=⟨⟩;repeat' ((fail_if_success refine ss kS ?_);first|refine zw ?_|refine zy fun nu _ _=>?_|refine zc rfl (fun h=>?_) fun h=>?_|refine zi (fun h=>?_) fun h=>?_|exact .intro|fail));all_goals clear kS
    intro c hc
    have hco:=aP hc
    have sw:=az hco
    have ot:=aq hco
    rw[ot] at hc
    simp only[sw]
    (have kX:=g9 @sw @ot;repeat' first|refine zw ?_|refine zy fun nu _ _=>?_|refine zc rfl (fun h=>?_) fun h=>?_|refine zi (fun h=>?_) fun h=>?_|exact .intro|refine uw (h1 _) ?_|refine uw (h2 _) ?_|fail);all_goals clear kX
    exact mC hc
  | true=>
    by_cases hx:q3.e=0∧b<a
    · simp only[if_true,if_pos hx]
      obtain⟨a3,e3⟩:=q3
      simp only at hx
      obtain⟨rfl,hx2⟩:=hx
      refine ai [.cell 2 391] 30 Tryz.func335 (by rfl) rfl rfl rfl rfl ?_
      (have kS:Sa 1:=⟨⟩;repeat' ((fail_if_success refine ss kS ?_);first|refine zw ?_|refine zy fun nu _ _=>?_|refine zc rfl (fun h=>?_) fun h=>?_|refine zi (fun h=>?_) fun h=>?_|exact .intro|fail));all_goals clear kS
      intro c hc
      have hco:=aP hc
      have sw:=az hco
      have ot:=aq hco
      rw[ot] at hc
      simp only[sw]
      (have kX:=g8 @sw @ot @hx2;repeat' first|refine zw ?_|refine zy fun nu _ _=>?_|refine zc rfl (fun h=>?_) fun h=>?_|refine zi (fun h=>?_) fun h=>?_|exact .intro|refine uw (h1 _) ?_|refine uw (h2 _) ?_|refine uw (h3 _) ?_|refine uw (h4 _) ?_|fail);all_goals clear kX
      exact mC hc
    · simp only[if_true,if_neg hx]
      refine ai [.cell 2 391] 30 Tryz.func335 (by rfl) rfl rfl rfl rfl ?_
      (have kS:Sa 1:=⟨⟩;repeat' ((fail_if_success refine ss kS ?_);first|refine zw ?_|refine zy fun nu _ _=>?_|refine zc rfl (fun h=>?_) fun h=>?_|refine zi (fun h=>?_) fun h=>?_|exact .intro|fail));all_goals clear kS
      intro c hc
      have hco:=aP hc
      have sw:=az hco
      have ot:=aq hco
      rw[ot] at hc
      simp only[sw]
      by_cases hx1:q3.e=0
      · have hx2:¬b<a:=fun k=>hx ⟨hx1,k⟩
        (have kX:=nO @sw @ot @hx1 @hx2;repeat' first|refine zw ?_|refine zy fun nu _ _=>?_|refine zc rfl (fun h=>?_) fun h=>?_|refine zi (fun h=>?_) fun h=>?_|exact .intro|refine uw (h1 _) ?_|refine uw (h2 _) ?_|refine uw (h3 _) ?_|refine uw (h4 _) ?_|fail);all_goals clear kX
        exact mC hc
      · skip
        (have kX:=g8 @sw @ot @hx1;repeat' first|refine zw ?_|refine zy fun nu _ _=>?_|refine zc rfl (fun h=>?_) fun h=>?_|refine zi (fun h=>?_) fun h=>?_|exact .intro|refine uw (h1 _) ?_|refine uw (h2 _) ?_|refine uw (h3 _) ?_|refine uw (h4 _) ?_|fail);all_goals clear kX
        exact mC hc
end
end Go.Proofs.YtgfjihpbphplhaaGreat

namespace Go.Proofs.YtgfjihpbphplhaaGreat
open Go.Kern
def CW (r:AV):Prop:=(∃q i off,r= .ptr q i off)∨∃x off,r= .ip x off
theorem y6 {q i off:Nat}:CW (.ptr q i off)=True:=eq_true (.inl ⟨q,i,off,rfl⟩)
theorem Az {x:AV} {off:Nat}:CW (.ip x off)=True:=eq_true (.inr ⟨x,off,rfl⟩)
attribute [go_sem] y6 Az
theorem jj {P:Program} {f:FuncId} {args:List AV} {σ τ:aa} (h:af P f args σ (fun r t=>CW r∧t=τ)):af P f args σ (fun r t=>r=tD∧t=τ):=by
 refine⟨h.1,?_⟩
 refine fun g w vs hl hr hc=>(h.2 g w vs hl hr hc).mono ?_
 rintro e w' ⟨v,he,g',r,σ',h1,h2,h3,h4,h5⟩
 refine⟨v,he,g',tD,σ',h1,h2,?_,rfl,h5⟩
 rcases h4 with ⟨q,i,off,rfl⟩|⟨x,off,rfl⟩
 ·exact h3.tD
 ·cases h3 with
  |ip hs ho hi h=>exact .ip (base:=_) (vs:=fun _=>undef) hs rfl (fun i hi=>by simp[AV.cells] at hi) (fun i c hc=>by simp[AV.cells] at hc)
set_option maxRecDepth 100000
set_option maxHeartbeats 4000000
attribute [local irreducible] af W
attribute [local go_sem] pO
theorem bD {c q o:Nat} (h1:c≠q) (h2:c≠o) (s:aa) (N P x:Ob):dF ((s.put q N).put o P) (((s.put c x).put q N).put o P)=True:=by
 rw[←az h1,←az h2];exact bO
theorem eg {q o:Nat} (h:q≠o) (s:aa) (N N' P:Ob):dF ((s.put q N).put o P) ((s.put q N').put o P)=True:=by
 have:=@bO q ((s.put q N).put o P) N'
 rw[az h,iT] at this
 exact this
theorem ax {σ τ:aa} {c:Nat} {x:Ob} (h:∀c y,σ c=some y→τ c=some y) (hc:σ c=none):∀d y,σ d=some y→(τ.put c x) d=some y:=fun d y hd=>by
 simp only[aa.put]
 split
 ·rename_i e;rw[e,hc] at hd;cases hd
 ·exact h d y hd
theorem cX {σ τ:aa} {c:Nat} (h:∀c y,σ c=some y→τ c=some y) (hc:τ c=none):σ c=none:=by
 cases e:σ c with
 |none=>rfl
 |some y=>rw[h c y e] at hc;cases hc
structure Lp where
 fuel:Nat
 p:PS
 k:SK
 rows:List AV
 τ:aa
def cO (kind:Int) (set:Bool) (k:SK) (rows:List AV) (k2:SK) (kids:List AV):Ob:= .arr 380 [.agg [.int .i64 kind,.bool false,.bool set,.sl k rows,.sl k2 kids]]
def ud (σ τ:aa) (q o e sz:Nat) (k:SK) (rows:List AV):Prop:=k= .full∨(k= .nil∧rows=[])∨∃t,k= .tip t∧τ t=some (.tip rows.length e sz)∧t≠q∧t≠o∧σ t=none
section
variable (s:ByteArray) (hs:s.size≤1000)
include hs
def A4 (n:Nat):Prop:=∀ (p:PS),p.at_≤(B s).length→∀ (o:Nat) (σ:aa),af Tryz.prog 288 [.ptr o 0 0,.int .i64 (9-n)] (σ.put o (pO s p)) (fun r t=>r=tD∧t=σ.put o (pO s (dE (B s) n p)))
theorem vS (n:Nat) (hn:n≤8) (hch:A4 s n) (p:PS) (hp:p.at_≤(B s).length) (o:Nat) (σ:aa):
    af Tryz.prog 332 [.ptr o 0 0,.int .i64 (8-n)] (σ.put o (pO s p)) (fun r t=>r=tD∧t=σ.put o (pO s (g7 (B s) (dE (B s) n) p))):=by
  refine jj ?_
  have hl:=c8 s
  have h1:=bR s hs p hp 46 o
  have hl1:=(aB (B s) 46).len p hp
  obtain⟨b1,p1,hp1⟩:∃b1 p1,aE (B s) 46 p=(b1,p1):=⟨_,_,rfl⟩
  rw[hp1] at hl1
  have h2:=bR s hs p1 hl1 91 o
  have hl2:=(aB (B s) 91).len p1 hl1
  obtain⟨b2,p2,hp2⟩:∃b2 p2,aE (B s) 91 p1=(b2,p2):=⟨_,_,rfl⟩
  rw[hp2] at hl2
  have h3:=bR s hs p2 hl2 40 o
  have hl3:=(aB (B s) 40).len p2 hl2
  obtain⟨b3,p3,hp3⟩:∃b3 p3,aE (B s) 40 p2=(b3,p3):=⟨_,_,rfl⟩
  rw[hp3] at hl3
  simp only[g7,hp1,hp2,hp3] at h1 h2 h3 ⊢
  cases b1 with
  | true=>
    simp only[if_true]
    refine ai [.tmp 4] 73 Tryz.func332 (by rfl) rfl rfl rfl rfl ?_
    repeat' first|refine zw ?_|refine zy fun nu _ _=>?_|refine zc rfl (fun h=>?_) fun h=>?_|refine zi (fun h=>?_) fun h=>?_|exact .intro|refine uw (h1 _) ?_|fail
  |false=>
  cases b2 with
  | true=>
    simp only[Bool.false_eq_true,if_false,if_true]
    have hpt:=oQ s hs p2 hl2 o
    obtain⟨ra,hra⟩:∃a,(aL (B s) p2).1=a:=⟨_,rfl⟩
    obtain⟨rz,hrz⟩:∃a,uu (B s) p2=a:=⟨_,rfl⟩
    obtain⟨rp,hrp⟩:∃a,gW (B s) p2=a:=⟨_,rfl⟩
    have hlp:=(gx (B s)).len p2 hl2
    rw[hrp] at hlp
    simp only[hra,hrz,hrp] at hpt ⊢
    refine ai [.tmp 4] 73 Tryz.func332 (by rfl) rfl rfl rfl rfl ?_
    (have kM:Mu [22]:=⟨⟩;repeat' first|refine zw ?_|refine ry [22] c0 fun nu _ _=>?_|refine zc rfl (fun h=>?_) fun h=>?_|refine zi (fun h=>?_) fun h=>?_|exact .intro|refine uw (h1 _) ?_|refine uw (h2 _) ?_|refine uw (hpt _) ?_|fail);all_goals clear kM
    intro q hq
    have hqo:=aP hq
    have sw:=az hqo
    have ot:=aq hqo
    rw[ot] at hq
    simp only[sw]
    (have kX:=g9 @sw @ot;repeat' first|refine zw ?_|refine zy fun nu _ _=>?_|refine zc rfl (fun h=>?_) fun h=>?_|refine zi (fun h=>?_) fun h=>?_|exact .intro|fail);all_goals clear kX
    refine ak (fun x:Lp=>[(0,.ptr o 0 0),(5,.ptr q 0 0)]) (fun x=>(x.τ.put q (cO 0 true x.k x.rows .nil [])).put o (pO s x.p))
      (fun x=>x.p.at_≤(B s).length∧mP (B s) x.fuel x.p=mP (B s) ((B s).length+2) rp∧x.rows.length+x.fuel=(B s).length+3∧(x.p.e=0→(B s).length<x.p.at_+x.fuel)∧aO 2 x.rows=true∧(∀c y,σ c=some y→x.τ c=some y)∧ud σ x.τ q o 391 2 x.k x.rows) (fun x=>x.fuel)
      ⟨(B s).length+2,rp,.full,[.agg [.int .i64 ra,.int .i64 rz]],σ⟩ ⟨hlp,rfl,by simp;omega,fun _=>by simp only;omega,by rfl,fun _ _ h=>h,.inl rfl⟩ (Env.ab (by simp[Env.Has,Env.get])) (by simp only[pO,cO];exact aa.Sub.refl _) ?_
    rintro⟨fuel,p5,k,rows,τ⟩ ⟨i1,i2,i3,i4,i5,i6,i7⟩
    simp only at i1 i2 i3 i4 i5 i6 i7 ⊢
    obtain⟨at5,r5⟩:=p5
    simp only at i1 i4
    rw[←i2]
    have fin:∀x,(σ.put o x).Sub ((τ.put q (cO 0 true k rows .nil [])).put o x):=fun x c y hy=>by
      simp only[aa.put] at hy ⊢
      split
      · rename_i e;rw[if_pos e] at hy;exact hy
      · rename_i e;rw[if_neg e] at hy
        split
        · rename_i e2;rw[e2,hq] at hy;cases hy
        · exact i6 _ _ hy
    by_cases he:r5=0
    · subst he
      have hf:=i4 rfl
      obtain⟨f,rfl⟩:∃f,fuel=f+1:=⟨fuel-1,by omega⟩
      have t1:=bR s hs ⟨at5,0⟩ i1 93 o
      have hl5:=(aB (B s) 93).len ⟨at5,0⟩ i1
      have hg5:=(aB (B s) 93).le ⟨at5,0⟩ i1
      obtain⟨b6,p6,hp6⟩:∃b6 p6,aE (B s) 93 ⟨at5,0⟩=(b6,p6):=⟨_,_,rfl⟩
      simp only[hp6] at t1 hl5 hg5
      simp only[mP,hp6,if_true]
      cases b6 with
      | true=>
        simp only[if_true]
        simp only[cO] at fin ⊢
        repeat' first|refine zw ?_|refine zy fun nu _ _=>?_|refine zc rfl (fun h=>?_) fun h=>?_|refine zi (fun h=>?_) fun h=>?_|exact .intro|refine uw (t1 _) ?_|fail
        exact fin _
      | false=>
        simp only[Bool.false_eq_true,if_false]
        have hpt2:=oQ s hs p6 hl5 o
        obtain⟨na,hna⟩:∃a,(aL (B s) p6).1=a:=⟨_,rfl⟩
        obtain⟨nz,hnz⟩:∃a,uu (B s) p6=a:=⟨_,rfl⟩
        obtain⟨p7,hp7⟩:∃a,gW (B s) p6=a:=⟨_,rfl⟩
        have hl7:=(gx (B s)).len p6 hl5
        have hgo:=part_go (B s) p6 hl5
        rw[hp7] at hl7 hgo
        simp only[hna,hnz,hp7] at hpt2 ⊢
        have i2':mP (B s) f p7=mP (B s) (f+1) ⟨at5,0⟩:=by simp only[mP,hp6,hp7,if_true,Bool.false_eq_true,if_false]
        simp only[cO]
        (have kS:Sa 6:=⟨⟩;repeat' ((fail_if_success refine ss kS ?_);first|refine zw ?_|refine zy fun nu _ _=>?_|refine zc rfl (fun h=>?_) fun h=>?_|refine zi (fun h=>?_) fun h=>?_|exact .intro|refine uw (t1 _) ?_|fail));all_goals clear kS
        refine jz (id:=6) [] ⟨[4],[6,8,11],[],[8],[],[6],o⟩ mx (by kernel_rfl) ⟨_,ao _ _ _⟩ ?_
        intro nu hnu hni
        have e8:=hnu 8 (by simp)
        have n8:=aP e8
        rw[aq n8] at e8
        have n8q:=aP e8
        rw[aq n8q] at e8
        have s8:=az n8
        have s8q:=az n8q
        have o8:=aq n8
        have o8q:=aq n8q
        rcases i7 with rfl|⟨rfl,rfl⟩|⟨t,rfl,ht,htq,hto,hts⟩
        · skip
          simp -dsimp (disch:=omega) only[go_sem,sw,ot,s8,s8q,o8,o8q,i5,bD n8q n8,eg hqo]
          (have kX:=A3 @sw @ot @s8 @s8q @o8 @o8q @i5 (bD n8q n8) (eg hqo);repeat' first|refine zw ?_|refine zy fun nu _ _=>?_|refine zc rfl (fun h=>?_) fun h=>?_|refine And.intro (show dF _ _ by simp only[bO,dh,cM,sw,ot,s8,s8q,o8,o8q,i5,bD n8q n8,eg hqo]) ?_|refine zi (fun h=>?_) fun h=>?_|exact .intro|refine uw (hpt2 _) ?_|fail);all_goals clear kX
          refine⟨⟨f,p7,.tip (nu 8),rows++[.agg [.int .i64 na,.int .i64 nz]],τ.put (nu 8) (.tip (rows++[AV.agg [.int .i64 na,.int .i64 nz]]).length 391 2)⟩,by simp,⟨hl7,rfl,by simp at i3 ⊢;omega,fun h0=>by have:=hgo h0;simp only;omega,by simp only[aZ,i5];rfl,ax i6 (cX i6 e8),.inr (.inr ⟨(nu 8),rfl,ao _ _ _,n8q,n8,cX i6 e8⟩)⟩,Env.ab (by simp[Env.Has,Env.get]),by simp only[pO,List.nil_append];exact aa.Sub.refl _⟩
        · skip
          simp -dsimp (disch:=omega) only[go_sem,sw,ot,s8,s8q,o8,o8q,i5,bD n8q n8,eg hqo]
          (have kX:=A3 @sw @ot @s8 @s8q @o8 @o8q @i5 (bD n8q n8) (eg hqo);repeat' first|refine zw ?_|refine zy fun nu _ _=>?_|refine zc rfl (fun h=>?_) fun h=>?_|refine And.intro (show dF _ _ by simp only[bO,dh,cM,sw,ot,s8,s8q,o8,o8q,i5,bD n8q n8,eg hqo]) ?_|refine zi (fun h=>?_) fun h=>?_|exact .intro|refine uw (hpt2 _) ?_|fail);all_goals clear kX
          refine⟨⟨f,p7,.tip (nu 8),[]++[.agg [.int .i64 na,.int .i64 nz]],τ.put (nu 8) (.tip ([]++[AV.agg [.int .i64 na,.int .i64 nz]]).length 391 2)⟩,by simp,⟨hl7,rfl,by simp at i3 ⊢;omega,fun h0=>by have:=hgo h0;simp only;omega,by simp only[aZ,i5];rfl,ax i6 (cX i6 e8),.inr (.inr ⟨(nu 8),rfl,ao _ _ _,n8q,n8,cX i6 e8⟩)⟩,Env.ab (by simp[Env.Has,Env.get]),by simp only[pO,List.nil_append];exact aa.Sub.refl _⟩
        · have st:=az hto
          have stq:=az htq
          have ott:=aq hto
          have otq:=aq htq
          simp -dsimp (disch:=omega) only[go_sem,sw,ot,st,stq,ott,otq,ht,i5,bD htq hto,eg hqo]
          (have kX:=sx @sw @ot @st @stq @ott @otq @ht @i5 (bD htq hto) (eg hqo);repeat' first|refine zw ?_|refine zy fun nu _ _=>?_|refine zc rfl (fun h=>?_) fun h=>?_|refine And.intro (show dF _ _ by simp only[bO,dh,cM,sw,ot,st,stq,ott,otq,ht,i5,bD htq hto,eg hqo]) ?_|refine zi (fun h=>?_) fun h=>?_|exact .intro|refine uw (hpt2 _) ?_|fail);all_goals clear kX
          refine⟨⟨f,p7,.tip t,rows++[.agg [.int .i64 na,.int .i64 nz]],τ.put t (.tip (rows++[AV.agg [.int .i64 na,.int .i64 nz]]).length 391 2)⟩,by simp,⟨hl7,rfl,by simp at i3 ⊢;omega,fun h0=>by have:=hgo h0;simp only;omega,by simp only[aZ,i5];rfl,ax i6 hts,.inr (.inr ⟨t,rfl,ao _ _ _,htq,hto,hts⟩)⟩,Env.ab (by simp[Env.Has,Env.get]),by simp only[pO,List.nil_append];exact aa.Sub.refl _⟩
    · have hz:mP (B s) fuel ⟨at5,r5⟩=⟨at5,r5⟩:=by
        cases fuel with
        |zero=>rfl
        |succ n=>rw[mP,if_neg he]
      rw[hz]
      simp only[cO] at fin ⊢
      (have kX:=@he;repeat' first|refine zw ?_|refine zy fun nu _ _=>?_|refine zc rfl (fun h=>?_) fun h=>?_|refine zi (fun h=>?_) fun h=>?_|exact .intro|fail);all_goals clear kX
      exact fin _
  |false=>
  cases b3 with
  | true=>
    simp only[Bool.false_eq_true,if_false,if_true]
    have h4:=hch p3 hl3 o
    have hd:(8-(n:Int)+1)=9-n:=by omega
    obtain⟨q,hq⟩:∃q,dE (B s) n p3=q:=⟨_,rfl⟩
    have hlq:q.at_≤(B s).length:=by rw[←hq];exact(eL (B s) n).len p3 hl3
    have h5:=bR s hs q hlq 41 o
    obtain⟨b4,p4,hp4⟩:∃b4 p4,aE (B s) 41 q=(b4,p4):=⟨_,_,rfl⟩
    have h6:∀σ:aa,af Tryz.prog 290 [.ptr o 0 0,.int .i64 4] (σ.put o (pO s p4)) (fun r t=>r= .bK []∧t=σ.put o (pO s (dR 4 p4))):=fun σ=>gz s p4 4 o σ
    simp only[hq,hp4] at h4 h5 ⊢
    obtain⟨qa,qe⟩:=q
    by_cases hqe:qe=0
    · subst hqe
      cases b4 with
      | true=>
        simp only[if_true]
        refine ai [.tmp 4] 73 Tryz.func332 (by rfl) rfl rfl rfl rfl ?_
        (have kX:=@hd;repeat' first|refine zw ?_|refine zy fun nu _ _=>?_|refine zc rfl (fun h=>?_) fun h=>?_|refine zi (fun h=>?_) fun h=>?_|exact .intro|refine uw (h1 _) ?_|refine uw (h2 _) ?_|refine uw (h3 _) ?_|refine uw (h4 _) ?_|refine uw (h5 _) ?_|refine uw (h6 _) ?_|fail);all_goals clear kX
      | false=>
        simp only[if_true,Bool.false_eq_true,if_false]
        refine ai [.tmp 4] 73 Tryz.func332 (by rfl) rfl rfl rfl rfl ?_
        (have kX:=@hd;repeat' first|refine zw ?_|refine zy fun nu _ _=>?_|refine zc rfl (fun h=>?_) fun h=>?_|refine zi (fun h=>?_) fun h=>?_|exact .intro|refine uw (h1 _) ?_|refine uw (h2 _) ?_|refine uw (h3 _) ?_|refine uw (h4 _) ?_|refine uw (h5 _) ?_|refine uw (h6 _) ?_|fail);all_goals clear kX
    · simp only[if_neg hqe]
      refine ai [.tmp 4] 73 Tryz.func332 (by rfl) rfl rfl rfl rfl ?_
      (have kX:=g9 @hqe @hd;repeat' first|refine zw ?_|refine zy fun nu _ _=>?_|refine zc rfl (fun h=>?_) fun h=>?_|refine zi (fun h=>?_) fun h=>?_|exact .intro|refine uw (h1 _) ?_|refine uw (h2 _) ?_|refine uw (h3 _) ?_|refine uw (h4 _) ?_|refine uw (h5 _) ?_|refine uw (h6 _) ?_|fail);all_goals clear kX
  | false=>
    simp only[Bool.false_eq_true,if_false]
    have h4:=il s hs p3 hl3 o
    obtain⟨a,q,hq⟩:∃a q,aL (B s) p3=(a,q):=⟨_,_,rfl⟩
    simp only[hq] at h4 ⊢
    refine ai [.tmp 4] 73 Tryz.func332 (by rfl) rfl rfl rfl rfl ?_
    repeat' first|refine zw ?_|refine zy fun nu _ _=>?_|refine zc rfl (fun h=>?_) fun h=>?_|refine zi (fun h=>?_) fun h=>?_|exact .intro|refine uw (h1 _) ?_|refine uw (h2 _) ?_|refine uw (h3 _) ?_|refine uw (h4 _) ?_|fail
end
end Go.Proofs.YtgfjihpbphplhaaGreat

namespace Go.Proofs.YtgfjihpbphplhaaGreat
open Go.Kern
set_option maxRecDepth 100000
set_option maxHeartbeats 4000000
attribute [local irreducible] af W
attribute [local go_sem] pO
theorem sf (c:Int):Pure Tryz.prog 322 [.int .u8 c] (.bool (mA c)):=by
 intro σ
 refine ah [.tmp 2] 17 Tryz.func322 (by rfl) rfl rfl rfl rfl ?_
 repeat' first|refine zw ?_|refine zy fun nu _ _=>?_|refine zc rfl (fun h=>?_) fun h=>?_|refine zi (fun h=>?_) fun h=>?_|exact .intro|refine us (bb c) ?_|fail
 all_goals (simp only[mA] at*;simp_all)
section
variable (s:ByteArray) (hs:s.size≤1000)
include hs
theorem vw (n:Nat) (hn:n≤8) (hch:A4 s n) (p:PS) (hp:p.at_≤(B s).length) (o:Nat) (σ:aa):
    af Tryz.prog 323 [.ptr o 0 0,.int .i64 (8-n)] (σ.put o (pO s p)) (fun r t=>r=tD∧t=σ.put o (pO s (iz (B s) (dE (B s) n) p))):=by
  refine jj ?_
  have hl:=c8 s
  have h0:=vS s hs n hn hch p hp o
  have hl0:=(lL (B s) (eL (B s) n)).len p hp
  obtain⟨p0,hp0⟩:∃a,g7 (B s) (dE (B s) n) p=a:=⟨_,rfl⟩
  rw[hp0] at hl0
  have h1:=bR s hs p0 hl0 42 o
  have hl1:=(aB (B s) 42).len p0 hl0
  obtain⟨b1,p1,hp1⟩:∃b1 p1,aE (B s) 42 p0=(b1,p1):=⟨_,_,rfl⟩
  rw[hp1] at hl1
  have h2:=bR s hs p1 hl1 43 o
  have hl2:=(aB (B s) 43).len p1 hl1
  obtain⟨b2,p2,hp2⟩:∃b2 p2,aE (B s) 43 p1=(b2,p2):=⟨_,_,rfl⟩
  rw[hp2] at hl2
  have h3:=bR s hs p2 hl2 63 o
  obtain⟨b3,p3,hp3⟩:∃b3 p3,aE (B s) 63 p2=(b3,p3):=⟨_,_,rfl⟩
  simp only[iz,hp0,hp1,hp2,hp3] at h0 h1 h2 h3 ⊢
  cases b1 with
  | true=>
    simp only[if_true]
    refine ai [.tmp 4] 31 Tryz.func323 (by rfl) rfl rfl rfl rfl ?_
    repeat' first|refine zw ?_|refine zy fun nu _ _=>?_|refine zc rfl (fun h=>?_) fun h=>?_|refine zi (fun h=>?_) fun h=>?_|exact .intro|refine uw (h0 _) ?_|refine uw (h1 _) ?_|fail
  |false=>
  cases b2 with
  | true=>
    simp only[Bool.false_eq_true,if_false,if_true]
    refine ai [.tmp 4] 31 Tryz.func323 (by rfl) rfl rfl rfl rfl ?_
    repeat' first|refine zw ?_|refine zy fun nu _ _=>?_|refine zc rfl (fun h=>?_) fun h=>?_|refine zi (fun h=>?_) fun h=>?_|exact .intro|refine uw (h0 _) ?_|refine uw (h1 _) ?_|refine uw (h2 _) ?_|fail
  |false=>
  simp only[Bool.false_eq_true,if_false]
  cases b3 with
  | true=>
    refine ai [.tmp 4] 31 Tryz.func323 (by rfl) rfl rfl rfl rfl ?_
    repeat' first|refine zw ?_|refine zy fun nu _ _=>?_|refine zc rfl (fun h=>?_) fun h=>?_|refine zi (fun h=>?_) fun h=>?_|exact .intro|refine uw (h0 _) ?_|refine uw (h1 _) ?_|refine uw (h2 _) ?_|refine uw (h3 _) ?_|fail
  | false=>
    refine ai [.tmp 4] 31 Tryz.func323 (by rfl) rfl rfl rfl rfl ?_
    repeat' first|refine zw ?_|refine zy fun nu _ _=>?_|refine zc rfl (fun h=>?_) fun h=>?_|refine zi (fun h=>?_) fun h=>?_|exact .intro|refine uw (h0 _) ?_|refine uw (h1 _) ?_|refine uw (h2 _) ?_|refine uw (h3 _) ?_|fail
end
end Go.Proofs.YtgfjihpbphplhaaGreat

namespace Go.Proofs.YtgfjihpbphplhaaGreat
open Go.Kern
set_option maxRecDepth 100000
set_option maxHeartbeats 4000000
attribute [local irreducible] af W
attribute [local go_sem] pO
theorem lM {σ X:aa} {q o:Nat} {N x:Ob} (h:∀c y,σ c=some y→X c=some y) (hq:σ q=none):aa.Sub (σ.put o x) ((X.put q N).put o x):=fun c y hy=>by
 simp only[aa.put] at hy ⊢
 split
 ·rename_i e;rw[if_pos e] at hy;exact hy
 ·rename_i e;rw[if_neg e] at hy
  split
  ·rename_i e2;rw[e2,hq] at hy;cases hy
  ·exact h _ _ hy
theorem r9 (s:ByteArray) (hs:s.size≤1000):A4 s 0:=by
 intro p hp o σ
 refine jj ?_
 have h1:∀σ:aa,af Tryz.prog 290 [.ptr o 0 0,.int .i64 2] (σ.put o (pO s p)) (fun r t=>r= .bK []∧t=σ.put o (pO s (dR 2 p))):=fun σ=>gz s p 2 o σ
 simp only[dE]
 refine ai [.tmp 4] 53 Tryz.func288 (by rfl) rfl rfl rfl rfl ?_
 repeat' first|refine zw ?_|refine zy fun nu _ _=>?_|refine zc rfl (fun h=>?_) fun h=>?_|refine zi (fun h=>?_) fun h=>?_|exact .intro|refine uw (h1 _) ?_|fail
section
variable (s:ByteArray) (hs:s.size≤1000)
include hs
theorem sa (n:Nat) (hn:n≤7) (hch:A4 s n):A4 s (n+1):=by
  intro p hp o σ
  refine jj ?_
  have hl:=c8 s
  have hd:(9-((n+1:Nat):Int))=8-n:=by omega
  rw[hd]
  simp only[dE]
  obtain⟨ch,hchE⟩:∃f,dE (B s) n=f:=⟨_,rfl⟩
  have hmo:=eL (B s) n
  have hit:∀ (p:PS),p.at_≤(B s).length→∀ (σ:aa),af Tryz.prog 323 [.ptr o 0 0,.int .i64 (8-n)] (σ.put o (pO s p)) (fun r t=>r=tD∧t=σ.put o (pO s (iz (B s) ch p))):=fun p hp σ=>by
    rw[←hchE];exact vw s hs n (by omega) hch p hp o σ
  rw[hchE] at hmo ⊢
  refine ai [.tmp 4] 53 Tryz.func288 (by rfl) rfl rfl rfl rfl ?_
  (have kM:Mu [14]:=⟨⟩;repeat' first|refine zw ?_|refine ry [14] c0 fun nu _ _=>?_|refine zc rfl (fun h=>?_) fun h=>?_|refine zi (fun h=>?_) fun h=>?_|exact .intro|fail);all_goals clear kM
  intro q hq
  have hqo:=aP hq
  have sw:=az hqo
  have ot:=aq hqo
  rw[ot] at hq
  simp only[sw]
  (have kX:=g9 @sw @ot;repeat' first|refine zw ?_|refine zy fun nu _ _=>?_|refine zc rfl (fun h=>?_) fun h=>?_|refine zi (fun h=>?_) fun h=>?_|exact .intro|fail);all_goals clear kX
  refine ak (fun x:Lp=>[(0,.ptr o 0 0),(1,.int .i64 (8-n)),(5,.ptr q 0 0)]) (fun x=>(x.τ.put q (cO 2 false .nil [] x.k x.rows)).put o (pO s x.p))
    (fun x=>x.p.at_≤(B s).length∧dg (B s) ch x.fuel x.p=dg (B s) ch ((B s).length+2) p∧x.rows.length+x.fuel=(B s).length+2∧(B s).length<x.p.at_+x.fuel∧aO 1 x.rows=true∧(∀c y,σ c=some y→x.τ c=some y)∧ud σ x.τ q o 347 1 x.k x.rows) (fun x=>x.fuel)
    ⟨(B s).length+2,p,.nil,[],σ⟩ ⟨hp,rfl,by simp,by simp only;omega,by rfl,fun _ _ h=>h,.inr (.inl ⟨rfl,rfl⟩)⟩ (Env.ab (by simp[Env.Has,Env.get])) (by simp only[pO,cO];exact aa.Sub.refl _) ?_
  rintro⟨fuel,p5,k,rows,τ⟩ ⟨i1,i2,i3,i4,i5,i6,i7⟩
  simp only at i1 i2 i3 i4 i5 i6 i7 ⊢
  rw[←i2]
  obtain⟨f,rfl⟩:∃f,fuel=f+1:=⟨fuel-1,by omega⟩
  obtain⟨N,hN⟩:∃N,cO 2 false .nil [] k rows=N:=⟨_,rfl⟩
  rw[hN]
  (have kM:Mu [16]:=⟨⟩;repeat' first|refine zw ?_|refine ry [16] c0 fun nu _ _=>?_|refine zc rfl (fun h=>?_) fun h=>?_|refine zi (fun h=>?_) fun h=>?_|exact .intro|fail);all_goals clear kM
  intro r hr
  have hro:=aP hr
  rw[aq hro] at hr
  have hrq:=aP hr
  have swr:=az hro
  have otr:=aq hro
  obtain⟨τ1,hτ1⟩:∃t,τ.put q N=t:=⟨_,rfl⟩
  rw[hτ1] at hr ⊢
  simp only[swr]
  (have kX:=g9 @swr @otr;repeat' first|refine zw ?_|refine zy fun nu _ _=>?_|refine zc rfl (fun h=>?_) fun h=>?_|refine zi (fun h=>?_) fun h=>?_|exact .intro|fail);all_goals clear kX
  refine ak (fun y:Lp=>[(0,.ptr o 0 0),(1,.int .i64 (8-n)),(5,.ptr q 0 0),(6,.ptr r 0 0)]) (fun y=>(y.τ.put r (cO 1 false .nil [] y.k y.rows)).put o (pO s y.p))
    (fun y=>y.p.at_≤(B s).length∧jq (B s) ch y.fuel y.p=jq (B s) ch ((B s).length+2) p5∧y.rows.length+y.fuel=(B s).length+2∧(y.p.e=0→(B s).length<y.p.at_+y.fuel)∧aO 1 y.rows=true∧(∀c z,τ1 c=some z→y.τ c=some z)∧ud τ1 y.τ r o 347 1 y.k y.rows) (fun y=>y.fuel)
    ⟨(B s).length+2,p5,.nil,[],τ1⟩ ⟨i1,rfl,by simp,fun _=>by simp only;omega,by rfl,fun _ _ h=>h,.inr (.inl ⟨rfl,rfl⟩)⟩ (Env.ab (by simp[Env.Has,Env.get])) (by simp only[pO,cO];exact aa.Sub.refl _) ?_
  rintro⟨g,p6,k',rows',τ'⟩ ⟨j1,j2,j3,j4,j5,j6,j7⟩
  simp only at j1 j2 j3 j4 j5 j6 j7 ⊢
  have hq1:τ' q=some N:=j6 _ _ (by rw[←hτ1];exact ao _ _ _)
  have hq2:q≠r:=fun e=>by rw[←hτ1,←e,ao] at hr;cases hr
  have otq:=aq hq2
  obtain⟨at6,r6⟩:=p6
  simp only at j1 j4
  by_cases he:r6=0
  · subst he
    have hf:=j4 rfl
    obtain⟨g',rfl⟩:∃f,g=f+1:=⟨g-1,by omega⟩
    have hpk:=iU s hs ⟨at6,0⟩ j1 o
    have hsk:=dN (B s) j1
    have hsl:=gj (B s) at6
    obtain⟨a,ha⟩:∃a,aR (B s) at6=a:=⟨_,rfl⟩
    simp only[ha] at hpk hsk hsl
    have hb:=sf (nQ (B s) a)
    simp only[jq,ha,if_true] at j2
    simp only[cO]
    cases hbz:mA (nQ (B s) a) with
    | true=>
      rw[hbz] at hb
      rw[if_pos hbz] at j2
      have hit1:=hit ⟨a,0⟩ hsk
      have hl7:=(oX (B s) hmo).len ⟨a,0⟩ hsk
      have hgo:=y4 (B s) hmo ⟨a,0⟩ hsk
      obtain⟨p7,hp7⟩:∃x,iz (B s) ch ⟨a,0⟩=x:=⟨_,rfl⟩
      rw[hp7] at hl7 hgo j2
      simp only[hp7] at hit1
      (have kS:Sa 7:=⟨⟩;repeat' ((fail_if_success refine ss kS ?_);first|refine zw ?_|refine zy fun nu _ _=>?_|refine zc rfl (fun h=>?_) fun h=>?_|refine zi (fun h=>?_) fun h=>?_|exact .intro|refine uw (hpk _) ?_|refine us (hb) ?_|fail));all_goals clear kS
      refine jz (id:=7) [] ⟨[4],[7,9,12],[],[9],[],[7],o⟩ mx (by kernel_rfl) ⟨_,ao _ _ _⟩ ?_
      intro nu hnu hni
      have e9':=hnu 9 (by simp)
      have n9:=aP e9'
      rw[aq n9] at e9'
      have n9r:=aP e9'
      rw[aq n9r] at e9'
      have w9:=az n9
      have w9r:=az n9r
      have o9:=aq n9
      have o9r:=aq n9r
      rcases j7 with rfl|⟨rfl,rfl⟩|⟨t,rfl,ht,htr,hto,hts⟩
      · skip
        simp -dsimp (disch:=omega) only[go_sem,swr,otr,w9,w9r,o9,o9r,j5,bD n9r n9,eg hro]
        (have kX:=A3 @swr @otr @w9 @w9r @o9 @o9r @j5 (bD n9r n9) (eg hro);repeat' first|refine zw ?_|refine zy fun nu _ _=>?_|refine zc rfl (fun h=>?_) fun h=>?_|refine And.intro (show dF _ _ by simp only[bO,dh,cM,swr,otr,w9,w9r,o9,o9r,j5,bD n9r n9,eg hro]) ?_|refine zi (fun h=>?_) fun h=>?_|exact .intro|refine uw (hit1 _) ?_|fail);all_goals clear kX
        refine⟨⟨g',p7,.tip (nu 9),rows'++[tD],τ'.put (nu 9) (.tip (rows'++[tD]).length 347 1)⟩,by simp,⟨hl7,j2,by simp at j3 ⊢;omega,fun h0=>by have:=hgo h0 rfl;simp only at this ⊢;omega,by simp only[aZ,j5];rfl,ax j6 (cX j6 e9'),.inr (.inr ⟨(nu 9),rfl,ao _ _ _,n9r,n9,cX j6 e9'⟩)⟩,Env.ab (by simp[Env.Has,Env.get]),by simp only[pO,List.nil_append];exact aa.Sub.refl _⟩
      · skip
        simp -dsimp (disch:=omega) only[go_sem,swr,otr,w9,w9r,o9,o9r,j5,bD n9r n9,eg hro]
        (have kX:=A3 @swr @otr @w9 @w9r @o9 @o9r @j5 (bD n9r n9) (eg hro);repeat' first|refine zw ?_|refine zy fun nu _ _=>?_|refine zc rfl (fun h=>?_) fun h=>?_|refine And.intro (show dF _ _ by simp only[bO,dh,cM,swr,otr,w9,w9r,o9,o9r,j5,bD n9r n9,eg hro]) ?_|refine zi (fun h=>?_) fun h=>?_|exact .intro|refine uw (hit1 _) ?_|fail);all_goals clear kX
        refine⟨⟨g',p7,.tip (nu 9),[]++[tD],τ'.put (nu 9) (.tip ([]++[tD]).length 347 1)⟩,by simp,⟨hl7,j2,by simp at j3 ⊢;omega,fun h0=>by have:=hgo h0 rfl;simp only at this ⊢;omega,by simp only[aZ,j5];rfl,ax j6 (cX j6 e9'),.inr (.inr ⟨(nu 9),rfl,ao _ _ _,n9r,n9,cX j6 e9'⟩)⟩,Env.ab (by simp[Env.Has,Env.get]),by simp only[pO,List.nil_append];exact aa.Sub.refl _⟩
      · have wt:=az hto
        have wtr:=az htr
        have ott:=aq hto
        have ottr:=aq htr
        simp -dsimp (disch:=omega) only[go_sem,swr,otr,wt,wtr,ott,ottr,ht,j5,bD htr hto,eg hro]
        (have kX:=sx @swr @otr @wt @wtr @ott @ottr @ht @j5 (bD htr hto) (eg hro);repeat' first|refine zw ?_|refine zy fun nu _ _=>?_|refine zc rfl (fun h=>?_) fun h=>?_|refine And.intro (show dF _ _ by simp only[bO,dh,cM,swr,otr,wt,wtr,ott,ottr,ht,j5,bD htr hto,eg hro]) ?_|refine zi (fun h=>?_) fun h=>?_|exact .intro|refine uw (hit1 _) ?_|fail);all_goals clear kX
        refine⟨⟨g',p7,.tip t,rows'++[tD],τ'.put t (.tip (rows'++[tD]).length 347 1)⟩,by simp,⟨hl7,j2,by simp at j3 ⊢;omega,fun h0=>by have:=hgo h0 rfl;simp only at this ⊢;omega,by simp only[aZ,j5];rfl,ax j6 hts,.inr (.inr ⟨t,rfl,ao _ _ _,htr,hto,hts⟩)⟩,Env.ab (by simp[Env.Has,Env.get]),by simp only[pO,List.nil_append];exact aa.Sub.refl _⟩
    | false=>
      rw[hbz] at hb
      rw[if_neg (by rw[hbz];simp)] at j2
      (have kS:Sa 8:=⟨⟩;repeat' ((fail_if_success refine ss kS ?_);first|refine zw ?_|refine zy fun nu _ _=>?_|refine zc rfl (fun h=>?_) fun h=>?_|refine zi (fun h=>?_) fun h=>?_|exact .intro|refine uw (hpk _) ?_|refine us (hb) ?_|fail));all_goals clear kS
      have hr2:jq (B s) ch ((B s).length+2) p5=⟨a,0⟩:=j2.symm
      have tk:=bR s hs ⟨a,0⟩ hsk 124 o
      have hl8:=(aB (B s) 124).len ⟨a,0⟩ hsk
      have hte:=fun h=>hZ (B s) (c:=124) (p:=⟨a,0⟩) h
      have hrm:=(kb (B s) hmo ((B s).length+2)).le p5 i1
      obtain⟨b8,p8,hp8⟩:∃b8 p8,aE (B s) 124 ⟨a,0⟩=(b8,p8):=⟨_,_,rfl⟩
      rw[hr2] at hrm
      simp only[hp8] at tk hl8 hte hrm
      have k5:∀c y,σ c=some y→τ1 c=some y:=by rw[←hτ1];exact ax i6 hq
      have k6:∀c y,σ c=some y→τ' c=some y:=fun c y h=>j6 c y (k5 c y h)
      obtain⟨R,hR⟩:∃x,cO 1 false .nil [] k' rows'=x:=⟨_,rfl⟩
      have k7:∀c y,σ c=some y→(τ'.put r R) c=some y:=ax k6 (cX k5 hr)
      simp only[cO] at hR
      rw[hR]
      rw[←hN] at hq1
      simp only[cO] at hq1
      rcases i7 with rfl|⟨rfl,rfl⟩|⟨t,rfl,ht,htq,hto,hts⟩
      · skip
        (have kX:=nO @ot @otq @hq1 @i5;have kS:Sa 9:=⟨⟩;repeat' ((fail_if_success refine ss kS ?_);first|refine zw ?_|refine zy fun nu _ _=>?_|refine zc rfl (fun h=>?_) fun h=>?_|refine zi (fun h=>?_) fun h=>?_|exact .intro|fail));all_goals clear kX kS
        intro c hc
        have hco:=aP hc
        rw[aq hco] at hc
        have hcr:=aP hc
        rw[aq hcr] at hc
        have hqc:q≠c:=fun e=>by rw[←e,hq1] at hc;cases hc
        have hcσ:=cX k6 hc
        have hcq:c≠q:=fun e=>hqc e.symm
        have k8:=ax (x:= .tip (rows++[AV.ptr r 0 0]).length 347 1) k7 hcσ
        cases b8 with
        | true=>
          have haf:dg (B s) ch f p8=dg (B s) ch (f+1) p5:=by simp only[dg,hr2,hp8,if_true]
          simp -dsimp (disch:=omega) only[go_sem,sw,ot,otq,hq1,i5,az hco,aq hqc]
          (have kX:=qC @sw @ot @otq @hq1 @i5 (az hco) (aq hqc);repeat' first|refine zw ?_|refine zy fun nu _ _=>?_|refine zc rfl (fun h=>?_) fun h=>?_|refine zi (fun h=>?_) fun h=>?_|exact .intro|refine uw (tk _) ?_|fail);all_goals clear kX
          refine⟨⟨f,p8,.tip c,rows++[.ptr r 0 0],(τ'.put r R).put c (.tip (rows++[AV.ptr r 0 0]).length 347 1)⟩,by simp,⟨hl8,by first|exact haf|exact haf.trans i2,by simp at i3 ⊢;omega,by have:=(hte rfl).2.2;simp only at this hrm ⊢;omega,by simp only[aZ,i5];rfl,k8,.inr (.inr ⟨c,rfl,ao _ _ _,hcq,hco,hcσ⟩)⟩,Env.ab (by simp[Env.Has,Env.get]),by simp only[pO,cO,List.nil_append];exact aa.Sub.refl _⟩
        | false=>
          have haf:dg (B s) ch (f+1) p5=p8:=by simp only[dg,hr2,hp8,Bool.false_eq_true,if_false]
          rw[haf]
          simp -dsimp (disch:=omega) only[go_sem,sw,ot,otq,hq1,i5,az hco,aq hqc]
          (have kX:=qC @sw @ot @otq @hq1 @i5 (az hco) (aq hqc);repeat' first|refine zw ?_|refine zy fun nu _ _=>?_|refine zc rfl (fun h=>?_) fun h=>?_|refine zi (fun h=>?_) fun h=>?_|exact .intro|refine uw (tk _) ?_|fail);all_goals clear kX
          all_goals exact lM k8 hq
      · skip
        (have kX:=nO @ot @otq @hq1 @i5;have kS:Sa 9:=⟨⟩;repeat' ((fail_if_success refine ss kS ?_);first|refine zw ?_|refine zy fun nu _ _=>?_|refine zc rfl (fun h=>?_) fun h=>?_|refine zi (fun h=>?_) fun h=>?_|exact .intro|fail));all_goals clear kX kS
        intro c hc
        have hco:=aP hc
        rw[aq hco] at hc
        have hcr:=aP hc
        rw[aq hcr] at hc
        have hqc:q≠c:=fun e=>by rw[←e,hq1] at hc;cases hc
        have hcσ:=cX k6 hc
        have hcq:c≠q:=fun e=>hqc e.symm
        have k8:=ax (x:= .tip ([]++[AV.ptr r 0 0]).length 347 1) k7 hcσ
        cases b8 with
        | true=>
          have haf:dg (B s) ch f p8=dg (B s) ch (f+1) p5:=by simp only[dg,hr2,hp8,if_true]
          simp -dsimp (disch:=omega) only[go_sem,sw,ot,otq,hq1,i5,az hco,aq hqc]
          (have kX:=qC @sw @ot @otq @hq1 @i5 (az hco) (aq hqc);repeat' first|refine zw ?_|refine zy fun nu _ _=>?_|refine zc rfl (fun h=>?_) fun h=>?_|refine zi (fun h=>?_) fun h=>?_|exact .intro|refine uw (tk _) ?_|fail);all_goals clear kX
          refine⟨⟨f,p8,.tip c,[]++[.ptr r 0 0],(τ'.put r R).put c (.tip ([]++[AV.ptr r 0 0]).length 347 1)⟩,by simp,⟨hl8,by first|exact haf|exact haf.trans i2,by simp at i3 ⊢;omega,by have:=(hte rfl).2.2;simp only at this hrm ⊢;omega,by simp only[aZ,i5];rfl,k8,.inr (.inr ⟨c,rfl,ao _ _ _,hcq,hco,hcσ⟩)⟩,Env.ab (by simp[Env.Has,Env.get]),by simp only[pO,cO,List.nil_append];exact aa.Sub.refl _⟩
        | false=>
          have haf:dg (B s) ch (f+1) p5=p8:=by simp only[dg,hr2,hp8,Bool.false_eq_true,if_false]
          rw[haf]
          simp -dsimp (disch:=omega) only[go_sem,sw,ot,otq,hq1,i5,az hco,aq hqc]
          (have kX:=qC @sw @ot @otq @hq1 @i5 (az hco) (aq hqc);repeat' first|refine zw ?_|refine zy fun nu _ _=>?_|refine zc rfl (fun h=>?_) fun h=>?_|refine zi (fun h=>?_) fun h=>?_|exact .intro|refine uw (tk _) ?_|fail);all_goals clear kX
          all_goals exact lM k8 hq
      · have ht1:τ1 t=some (.tip rows.length 347 1):=by rw[←hτ1,aq htq];exact ht
        have htr:t≠r:=fun e=>by rw[e,hr] at ht1;cases ht1
        have ht2:=j6 _ _ ht1
        have hqt:q≠t:=fun e=>htq e.symm
        have hcσ:=hts
        have hcq:=htq
        have hco:=hto
        have k8:=ax (x:= .tip (rows++[AV.ptr r 0 0]).length 347 1) k7 hcσ
        cases b8 with
        | true=>
          have haf:dg (B s) ch f p8=dg (B s) ch (f+1) p5:=by simp only[dg,hr2,hp8,if_true]
          (have kX:=sx @sw @ot @otq @hq1 @i5 (az hto) (aq hto) (aq htr) @ht2 (aq hqt);repeat' first|refine zw ?_|refine zy fun nu _ _=>?_|refine zc rfl (fun h=>?_) fun h=>?_|refine zi (fun h=>?_) fun h=>?_|exact .intro|refine uw (tk _) ?_|fail);all_goals clear kX
          refine⟨⟨f,p8,.tip t,rows++[.ptr r 0 0],(τ'.put r R).put t (.tip (rows++[AV.ptr r 0 0]).length 347 1)⟩,by simp,⟨hl8,by first|exact haf|exact haf.trans i2,by simp at i3 ⊢;omega,by have:=(hte rfl).2.2;simp only at this hrm ⊢;omega,by simp only[aZ,i5];rfl,k8,.inr (.inr ⟨t,rfl,ao _ _ _,hcq,hco,hcσ⟩)⟩,Env.ab (by simp[Env.Has,Env.get]),by simp only[pO,cO,List.nil_append];exact aa.Sub.refl _⟩
        | false=>
          have haf:dg (B s) ch (f+1) p5=p8:=by simp only[dg,hr2,hp8,Bool.false_eq_true,if_false]
          rw[haf]
          (have kX:=sx @sw @ot @otq @hq1 @i5 (az hto) (aq hto) (aq htr) @ht2 (aq hqt);repeat' first|refine zw ?_|refine zy fun nu _ _=>?_|refine zc rfl (fun h=>?_) fun h=>?_|refine zi (fun h=>?_) fun h=>?_|exact .intro|refine uw (tk _) ?_|fail);all_goals clear kX
          all_goals exact lM k8 hq
  · have hz:jq (B s) ch g ⟨at6,r6⟩=⟨at6,r6⟩:=by
      cases g with
      |zero=>rfl
      |succ n=>rw[jq,if_neg he]
    rw[hz] at j2
    simp only[cO]
    (have kX:=@he;have kS:Sa 8:=⟨⟩;repeat' ((fail_if_success refine ss kS ?_);first|refine zw ?_|refine zy fun nu _ _=>?_|refine zc rfl (fun h=>?_) fun h=>?_|refine zi (fun h=>?_) fun h=>?_|exact .intro|fail));all_goals clear kX kS
    have hr2:jq (B s) ch ((B s).length+2) p5=⟨at6,r6⟩:=j2.symm
    have tk:=bR s hs ⟨at6,r6⟩ j1 124 o
    have hl8:=(aB (B s) 124).len ⟨at6,r6⟩ j1
    have hte:=fun h=>hZ (B s) (c:=124) (p:=⟨at6,r6⟩) h
    have hrm:=(kb (B s) hmo ((B s).length+2)).le p5 i1
    obtain⟨b8,p8,hp8⟩:∃b8 p8,aE (B s) 124 ⟨at6,r6⟩=(b8,p8):=⟨_,_,rfl⟩
    rw[hr2] at hrm
    simp only[hp8] at tk hl8 hte hrm
    have k5:∀c y,σ c=some y→τ1 c=some y:=by rw[←hτ1];exact ax i6 hq
    have k6:∀c y,σ c=some y→τ' c=some y:=fun c y h=>j6 c y (k5 c y h)
    obtain⟨R,hR⟩:∃x,cO 1 false .nil [] k' rows'=x:=⟨_,rfl⟩
    have k7:∀c y,σ c=some y→(τ'.put r R) c=some y:=ax k6 (cX k5 hr)
    simp only[cO] at hR
    rw[hR]
    rw[←hN] at hq1
    simp only[cO] at hq1
    rcases i7 with rfl|⟨rfl,rfl⟩|⟨t,rfl,ht,htq,hto,hts⟩
    · skip
      (have kX:=nO @ot @otq @hq1 @i5;have kS:Sa 9:=⟨⟩;repeat' ((fail_if_success refine ss kS ?_);first|refine zw ?_|refine zy fun nu _ _=>?_|refine zc rfl (fun h=>?_) fun h=>?_|refine zi (fun h=>?_) fun h=>?_|exact .intro|fail));all_goals clear kX kS
      intro c hc
      have hco:=aP hc
      rw[aq hco] at hc
      have hcr:=aP hc
      rw[aq hcr] at hc
      have hqc:q≠c:=fun e=>by rw[←e,hq1] at hc;cases hc
      have hcσ:=cX k6 hc
      have hcq:c≠q:=fun e=>hqc e.symm
      have k8:=ax (x:= .tip (rows++[AV.ptr r 0 0]).length 347 1) k7 hcσ
      cases b8 with
      | true=>
        have haf:dg (B s) ch f p8=dg (B s) ch (f+1) p5:=by simp only[dg,hr2,hp8,if_true]
        simp -dsimp (disch:=omega) only[go_sem,sw,ot,otq,hq1,i5,az hco,aq hqc]
        (have kX:=qC @sw @ot @otq @hq1 @i5 (az hco) (aq hqc);repeat' first|refine zw ?_|refine zy fun nu _ _=>?_|refine zc rfl (fun h=>?_) fun h=>?_|refine zi (fun h=>?_) fun h=>?_|exact .intro|refine uw (tk _) ?_|fail);all_goals clear kX
        refine⟨⟨f,p8,.tip c,rows++[.ptr r 0 0],(τ'.put r R).put c (.tip (rows++[AV.ptr r 0 0]).length 347 1)⟩,by simp,⟨hl8,by first|exact haf|exact haf.trans i2,by simp at i3 ⊢;omega,by have:=(hte rfl).2.2;simp only at this hrm ⊢;omega,by simp only[aZ,i5];rfl,k8,.inr (.inr ⟨c,rfl,ao _ _ _,hcq,hco,hcσ⟩)⟩,Env.ab (by simp[Env.Has,Env.get]),by simp only[pO,cO,List.nil_append];exact aa.Sub.refl _⟩
      | false=>
        have haf:dg (B s) ch (f+1) p5=p8:=by simp only[dg,hr2,hp8,Bool.false_eq_true,if_false]
        rw[haf]
        simp -dsimp (disch:=omega) only[go_sem,sw,ot,otq,hq1,i5,az hco,aq hqc]
        (have kX:=qC @sw @ot @otq @hq1 @i5 (az hco) (aq hqc);repeat' first|refine zw ?_|refine zy fun nu _ _=>?_|refine zc rfl (fun h=>?_) fun h=>?_|refine zi (fun h=>?_) fun h=>?_|exact .intro|refine uw (tk _) ?_|fail);all_goals clear kX
        all_goals exact lM k8 hq
    · skip
      (have kX:=nO @ot @otq @hq1 @i5;have kS:Sa 9:=⟨⟩;repeat' ((fail_if_success refine ss kS ?_);first|refine zw ?_|refine zy fun nu _ _=>?_|refine zc rfl (fun h=>?_) fun h=>?_|refine zi (fun h=>?_) fun h=>?_|exact .intro|fail));all_goals clear kX kS
      intro c hc
      have hco:=aP hc
      rw[aq hco] at hc
      have hcr:=aP hc
      rw[aq hcr] at hc
      have hqc:q≠c:=fun e=>by rw[←e,hq1] at hc;cases hc
      have hcσ:=cX k6 hc
      have hcq:c≠q:=fun e=>hqc e.symm
      have k8:=ax (x:= .tip ([]++[AV.ptr r 0 0]).length 347 1) k7 hcσ
      cases b8 with
      | true=>
        have haf:dg (B s) ch f p8=dg (B s) ch (f+1) p5:=by simp only[dg,hr2,hp8,if_true]
        simp -dsimp (disch:=omega) only[go_sem,sw,ot,otq,hq1,i5,az hco,aq hqc]
        (have kX:=qC @sw @ot @otq @hq1 @i5 (az hco) (aq hqc);repeat' first|refine zw ?_|refine zy fun nu _ _=>?_|refine zc rfl (fun h=>?_) fun h=>?_|refine zi (fun h=>?_) fun h=>?_|exact .intro|refine uw (tk _) ?_|fail);all_goals clear kX
        refine⟨⟨f,p8,.tip c,[]++[.ptr r 0 0],(τ'.put r R).put c (.tip ([]++[AV.ptr r 0 0]).length 347 1)⟩,by simp,⟨hl8,by first|exact haf|exact haf.trans i2,by simp at i3 ⊢;omega,by have:=(hte rfl).2.2;simp only at this hrm ⊢;omega,by simp only[aZ,i5];rfl,k8,.inr (.inr ⟨c,rfl,ao _ _ _,hcq,hco,hcσ⟩)⟩,Env.ab (by simp[Env.Has,Env.get]),by simp only[pO,cO,List.nil_append];exact aa.Sub.refl _⟩
      | false=>
        have haf:dg (B s) ch (f+1) p5=p8:=by simp only[dg,hr2,hp8,Bool.false_eq_true,if_false]
        rw[haf]
        simp -dsimp (disch:=omega) only[go_sem,sw,ot,otq,hq1,i5,az hco,aq hqc]
        (have kX:=qC @sw @ot @otq @hq1 @i5 (az hco) (aq hqc);repeat' first|refine zw ?_|refine zy fun nu _ _=>?_|refine zc rfl (fun h=>?_) fun h=>?_|refine zi (fun h=>?_) fun h=>?_|exact .intro|refine uw (tk _) ?_|fail);all_goals clear kX
        all_goals exact lM k8 hq
    · have ht1:τ1 t=some (.tip rows.length 347 1):=by rw[←hτ1,aq htq];exact ht
      have htr:t≠r:=fun e=>by rw[e,hr] at ht1;cases ht1
      have ht2:=j6 _ _ ht1
      have hqt:q≠t:=fun e=>htq e.symm
      have hcσ:=hts
      have hcq:=htq
      have hco:=hto
      have k8:=ax (x:= .tip (rows++[AV.ptr r 0 0]).length 347 1) k7 hcσ
      cases b8 with
      | true=>
        have haf:dg (B s) ch f p8=dg (B s) ch (f+1) p5:=by simp only[dg,hr2,hp8,if_true]
        (have kX:=sx @sw @ot @otq @hq1 @i5 (az hto) (aq hto) (aq htr) @ht2 (aq hqt);repeat' first|refine zw ?_|refine zy fun nu _ _=>?_|refine zc rfl (fun h=>?_) fun h=>?_|refine zi (fun h=>?_) fun h=>?_|exact .intro|refine uw (tk _) ?_|fail);all_goals clear kX
        refine⟨⟨f,p8,.tip t,rows++[.ptr r 0 0],(τ'.put r R).put t (.tip (rows++[AV.ptr r 0 0]).length 347 1)⟩,by simp,⟨hl8,by first|exact haf|exact haf.trans i2,by simp at i3 ⊢;omega,by have:=(hte rfl).2.2;simp only at this hrm ⊢;omega,by simp only[aZ,i5];rfl,k8,.inr (.inr ⟨t,rfl,ao _ _ _,hcq,hco,hcσ⟩)⟩,Env.ab (by simp[Env.Has,Env.get]),by simp only[pO,cO,List.nil_append];exact aa.Sub.refl _⟩
      | false=>
        have haf:dg (B s) ch (f+1) p5=p8:=by simp only[dg,hr2,hp8,Bool.false_eq_true,if_false]
        rw[haf]
        (have kX:=sx @sw @ot @otq @hq1 @i5 (az hto) (aq hto) (aq htr) @ht2 (aq hqt);repeat' first|refine zw ?_|refine zy fun nu _ _=>?_|refine zc rfl (fun h=>?_) fun h=>?_|refine zi (fun h=>?_) fun h=>?_|exact .intro|refine uw (tk _) ?_|fail);all_goals clear kX
        all_goals exact lM k8 hq
end
end Go.Proofs.YtgfjihpbphplhaaGreat

namespace Go.Proofs.YtgfjihpbphplhaaGreat
open Go.Kern
set_option maxRecDepth 100000
set_option maxHeartbeats 4000000
attribute [local irreducible] af W
attribute [local go_sem] pO
theorem nF (s:ByteArray) (hs:s.size≤1000):∀n,n≤8→A4 s n
 |0,_=>r9 s hs
 |n+1,h=>sa s hs n (by omega) (nF s hs n (by omega))
section
variable (s:ByteArray) (hs:s.size≤1000)
include hs
theorem sV (σ:aa):
  af Tryz.prog 225 [.str s] σ (fun r t=>(∃x,r= .bK [x,.int .i64 (ij (B s))])∧t=σ):=by
 have hl:=c8 s
 by_cases hlong:64<(B s).length
 ·have hE:ij (B s)=2:=by rw[ij,if_pos hlong]
  rw[hE]
  refine ai [.tmp 2,.tmp 3] 64 Tryz.func225 (by rfl) rfl rfl rfl rfl ?_
  repeat' first|refine zw ?_|refine zy fun nu _ _=>?_|refine zc rfl (fun h=>?_) fun h=>?_|refine zi (fun h=>?_) fun h=>?_|exact .intro|fail
  exact⟨_,aa.Sub.refl _,⟨_,rfl⟩,rfl⟩
 ·have h1:∀o (σ:aa),_:=fun o σ=>bR s hs ⟨0,0⟩ (Nat.zero_le _) 94 o σ
  have hl1:=(aB (B s) 94).len ⟨0,0⟩ (Nat.zero_le _)
  obtain⟨b1,p1,hp1⟩:∃b1 p1,aE (B s) 94 ⟨0,0⟩=(b1,p1):=⟨_,_,rfl⟩
  simp only[hp1] at h1 hl1
  have h2:=fun o=>nF s hs 8 (Nat.le_refl _) p1 hl1 o
  have hl2:=(eL (B s) 8).len p1 hl1
  obtain⟨p2,hp2⟩:∃x,dE (B s) 8 p1=x:=⟨_,rfl⟩
  simp only[hp2] at h2 hl2
  have h3:=fun o=>bR s hs p2 hl2 36 o
  have hl3:=(aB (B s) 36).len p2 hl2
  obtain⟨b3,p3,hp3⟩:∃b1 p1,aE (B s) 36 p2=(b1,p1):=⟨_,_,rfl⟩
  simp only[hp3] at h3 hl3
  have h4:=fun o=>iU s hs p3 hl3 o
  have hE:ij (B s)=if p3.e=0 then(if aR (B s) p3.at_<(B s).length then 4 else 0) else p3.e:=by
   rw[ij,if_neg hlong];simp only[hp1,hp2,hp3]
  have h89:(9-((8:Nat):Int))=1:=by omega
  simp only[h89] at h2
  have h5:∀ (o:Nat) (q:PS) (σ:aa),af Tryz.prog 290 [.ptr o 0 0,.int .i64 4] (σ.put o (pO s q)) (fun r t=>r= .bK []∧t=σ.put o (pO s (dR 4 q))):=fun o q σ=>gz s q 4 o σ
  obtain⟨a3,e3⟩:=p3
  simp only at hE h4 hl3
  have hsk:=dN (B s) hl3
  obtain⟨a4,ha4⟩:∃x,aR (B s) a3=x:=⟨_,rfl⟩
  simp only[ha4] at hE h4 hsk
  rw[hE]
  by_cases he:e3=0
  ·subst he
   rw[if_pos rfl]
   by_cases hlt:a4<(B s).length
   ·rw[if_pos hlt]
    refine ai [.tmp 2,.tmp 3] 64 Tryz.func225 (by rfl) rfl rfl rfl rfl ?_
    (have kM:Mu [11,15]:=⟨⟩;repeat' first|refine zw ?_|refine ry [11,15] c0 fun nu _ _=>?_|refine zc rfl (fun h=>?_) fun h=>?_|refine zi (fun h=>?_) fun h=>?_|exact .intro|fail);all_goals clear kM
    intro o ho
    (have kM:Mu [11,15]:=⟨⟩;repeat' first|refine zw ?_|refine ry [11,15] c0 fun nu _ _=>?_|refine zc rfl (fun h=>?_) fun h=>?_|refine zi (fun h=>?_) fun h=>?_|exact .intro|refine uw (h1 o _) ?_|fail);all_goals clear kM
    intro x hx
    have hxo:=aP hx
    rw[aq hxo] at hx
    have sw:=az hxo
    have ot:=aq hxo
    simp only[sw]
    (have kX:=g9 @sw @ot;repeat' first|refine zw ?_|refine ry (id:=10) [] (cq [3]) fun nu _ _=>?_|refine zy fun nu _ _=>?_|refine zc rfl (fun h=>?_) fun h=>?_|refine zi (fun h=>?_) fun h=>?_|exact .intro|refine uw (h2 o _) ?_|refine uw (h3 o _) ?_|refine uw (h4 o _) ?_|refine uw (h5 o ⟨a4,0⟩ _) ?_|fail);all_goals clear kX
    all_goals exact⟨_,ax (ax (fun _ _ h=>h) hx) ho,⟨_,rfl⟩,rfl⟩
   ·rw[if_neg hlt]
    have hc0:nQ (B s) a4=0:=if_neg hlt
    refine ai [.tmp 2,.tmp 3] 64 Tryz.func225 (by rfl) rfl rfl rfl rfl ?_
    (have kM:Mu [11,15]:=⟨⟩;repeat' first|refine zw ?_|refine ry [11,15] c0 fun nu _ _=>?_|refine zc rfl (fun h=>?_) fun h=>?_|refine zi (fun h=>?_) fun h=>?_|exact .intro|fail);all_goals clear kM
    intro o ho
    (have kM:Mu [11,15]:=⟨⟩;repeat' first|refine zw ?_|refine ry [11,15] c0 fun nu _ _=>?_|refine zc rfl (fun h=>?_) fun h=>?_|refine zi (fun h=>?_) fun h=>?_|exact .intro|refine uw (h1 o _) ?_|fail);all_goals clear kM
    intro x hx
    have hxo:=aP hx
    rw[aq hxo] at hx
    have sw:=az hxo
    have ot:=aq hxo
    simp only[sw]
    (have kX:=g8 @sw @ot @hc0;repeat' first|refine zw ?_|refine ry (id:=10) [] (cq [3]) fun nu _ _=>?_|refine zy fun nu _ _=>?_|refine zc rfl (fun h=>?_) fun h=>?_|refine zi (fun h=>?_) fun h=>?_|exact .intro|refine uw (h2 o _) ?_|refine uw (h3 o _) ?_|refine uw (h4 o _) ?_|refine uw (h5 o ⟨a4,0⟩ _) ?_|fail);all_goals clear kX
    all_goals exact⟨_,ax (ax (fun _ _ h=>h) hx) ho,⟨_,rfl⟩,rfl⟩
  ·rw[if_neg he]
   refine ai [.tmp 2,.tmp 3] 64 Tryz.func225 (by rfl) rfl rfl rfl rfl ?_
   (have kM:Mu [11,15]:=⟨⟩;repeat' first|refine zw ?_|refine ry [11,15] c0 fun nu _ _=>?_|refine zc rfl (fun h=>?_) fun h=>?_|refine zi (fun h=>?_) fun h=>?_|exact .intro|fail);all_goals clear kM
   intro o ho
   (have kM:Mu [11,15]:=⟨⟩;repeat' first|refine zw ?_|refine ry [11,15] c0 fun nu _ _=>?_|refine zc rfl (fun h=>?_) fun h=>?_|refine zi (fun h=>?_) fun h=>?_|exact .intro|refine uw (h1 o _) ?_|fail);all_goals clear kM
   intro x hx
   have hxo:=aP hx
   rw[aq hxo] at hx
   have sw:=az hxo
   have ot:=aq hxo
   simp only[sw]
   (have kX:=g8 @sw @ot @he;repeat' first|refine zw ?_|refine ry (id:=10) [] (cq [3]) fun nu _ _=>?_|refine zy fun nu _ _=>?_|refine zc rfl (fun h=>?_) fun h=>?_|refine zi (fun h=>?_) fun h=>?_|exact .intro|refine uw (h2 o _) ?_|refine uw (h3 o _) ?_|refine uw (h4 o _) ?_|refine uw (h5 o ⟨a4,0⟩ _) ?_|fail);all_goals clear kX
   all_goals exact⟨_,ax (ax (fun _ _ h=>h) hx) ho,⟨_,rfl⟩,rfl⟩
end
end Go.Proofs.YtgfjihpbphplhaaGreat

namespace Go.Proofs.YtgfjihpbphplhaaGreat
open Go.Kern
theorem uc {P:Program} {f:FuncId} {args:List AV} {σ τ:aa} {y:AV} (h:af P f args σ (fun r t=>(∃x,r= .bK [x,y])∧t=τ)):af P f args σ (fun r t=>r= .bK [.any,y]∧t=τ):=by
  refine⟨h.1,?_⟩
  refine fun g w vs hl hr hc=>(h.2 g w vs hl hr hc).mono ?_
  rintro e w' ⟨v,he,g',r,σ',h1,h2,h3,⟨x,rfl⟩,h5⟩
  refine⟨v,he,g',_,σ',h1,h2,?_,rfl,h5⟩
  cases h3 with
  | bK hl h=>
    refine .bK hl fun i c v hc hv=>?_
    match i with
    |0=>simp at hc;subst hc;exact .any _
    |1=>exact h 1 c v hc hv
    |i+2=>simp at hc
set_option maxRecDepth 100000
set_option maxHeartbeats 4000000
attribute [local irreducible] af W
theorem sW (s:ByteArray) (hs:s.size≤1000):Pure Tryz.prog 225 [.str s] (.bK [.any,.int .i64 (ij (B s))]):=fun σ=>uc (sV s hs σ)
def gG (m:Ch):Bool:=(decide (m.path.size=0)||(decide (ij (B m.path)=0)&&lu m.path))&&(mH m.list&&((decide (m.c.asn=0)&&decide (m.c.n=0))||gL m.c))
theorem rA (m:Ch) (hp:m.path.size≤1000) (hlst:m.list.size≤1000):Pure Tryz.prog 165 [vG m] (.bool (gG m)):=by
 intro σ
 have h1:=sW m.path hp
 have h2:=oa m.path (by omega)
 have h3:=lj m.list (by omega)
 have h4:=iF m.c
 by_cases hz:m.path.size=0
 ·have hm:=(lI m.path).2 hz
  have hv:gG m=(mH m.list&&((decide (m.c.asn=0)&&decide (m.c.n=0))||gL m.c)):=by simp[gG,hz]
  rw[hv]
  refine ah [.tmp 2] 36 Tryz.func165 (by rfl) rfl rfl rfl rfl ?_
  (have kX:=g8 @vG.eq_1 @aY.eq_1 @hm;repeat' first|refine zw ?_|refine zy fun nu _ _=>?_|refine zc rfl (fun h=>?_) fun h=>?_|refine zi (fun h=>?_) fun h=>?_|exact .intro|refine us (h3) ?_|refine us (h4) ?_|fail);all_goals clear kX
  all_goals (first|simp only[*,Bool.true_and,Bool.false_and,Bool.false_or,Bool.true_or])
 ·have hm:¬m.path=⟨#[]⟩:=fun k=>hz ((lI m.path).1 k)
  by_cases he:ij (B m.path)=0
  ·have hv:gG m=(lu m.path&&(mH m.list&&((decide (m.c.asn=0)&&decide (m.c.n=0))||gL m.c))):=by simp[gG,hz,he]
   rw[hv]
   rw[he] at h1
   refine ah [.tmp 2] 36 Tryz.func165 (by rfl) rfl rfl rfl rfl ?_
   (have kX:=g8 @vG.eq_1 @aY.eq_1 @hm;repeat' first|refine zw ?_|refine zy fun nu _ _=>?_|refine zc rfl (fun h=>?_) fun h=>?_|refine zi (fun h=>?_) fun h=>?_|exact .intro|refine us (h1) ?_|refine us (h2) ?_|refine us (h3) ?_|refine us (h4) ?_|fail);all_goals clear kX
   all_goals (first|simp only[*,Bool.true_and,Bool.false_and,Bool.false_or,Bool.true_or])
  ·have hv:gG m=false:=by simp[gG,hz,he]
   rw[hv]
   refine ah [.tmp 2] 36 Tryz.func165 (by rfl) rfl rfl rfl rfl ?_
   (have kX:=nO @vG.eq_1 @aY.eq_1 @hm @he;repeat' first|refine zw ?_|refine zy fun nu _ _=>?_|refine zc rfl (fun h=>?_) fun h=>?_|refine zi (fun h=>?_) fun h=>?_|exact .intro|refine us (h1) ?_|refine us (h2) ?_|refine us (h3) ?_|refine us (h4) ?_|fail);all_goals clear kX
end Go.Proofs.YtgfjihpbphplhaaGreat

namespace Go.Proofs.YtgfjihpbphplhaaGreat
open Go.Kern
set_option maxRecDepth 100000
set_option maxHeartbeats 4000000
attribute [local irreducible] af W
def rH (n:Int):Ob:= .arr 3 [.int .i64 n]
def rI (last n:Int):Int:=if last<(if 65535<n then 65535 else n) then(if 65535<n then 65535 else n) else last
def tP (last:Int) (c:hJ):Bool:=bJ c.n (last+1) 65535&&(gG c.m&&qp c.s)
theorem pX (c:hJ) (hc:c.s.Fits) (hp:c.m.path.size≤1000) (hm:c.m.list.size≤1000) (last:Int) (h0:0≤last) (h1:last≤65535) (o:Nat) (σ:aa):
  af Tryz.prog 163 [aM c,.ptr o 0 0] (σ.put o (rH last)) (fun r t=>r= .bool (tP last c)∧t=σ.put o (rH (rI last c.n))):=by
 have w1:=dM c.n (last+1) 65535
 have w2:=rA c.m hp hm
 have w3:=sb c.s hc
 obtain⟨b1,hb1⟩:∃b,bJ c.n (last+1) 65535=b:=⟨_,rfl⟩
 obtain⟨b2,hb2⟩:∃b,gG c.m=b:=⟨_,rfl⟩
 obtain⟨b3,hb3⟩:∃b,qp c.s=b:=⟨_,rfl⟩
 simp only[tP,hb1,hb2,hb3] at w1 w2 w3 ⊢
 refine ai [.tmp 3] 26 Tryz.func163 (by rfl) rfl rfl rfl rfl ?_
 (have kX:=uS @aM.eq_1 @vG.eq_1 @AJ.eq_1 @aY.eq_1 @rH.eq_1;repeat' first|refine zw ?_|refine zy fun nu _ _=>?_|refine zc rfl (fun h=>?_) fun h=>?_|refine zi (fun h=>?_) fun h=>?_|exact .intro|refine us (w1) ?_|refine us (w2) ?_|refine us (w3) ?_|fail);all_goals clear kX
 all_goals (simp only[*,Bool.true_and,Bool.false_and];exact⟨_,aa.Sub.refl _,trivial,rfl⟩)
end Go.Proofs.YtgfjihpbphplhaaGreat

namespace Go.Proofs.YtgfjihpbphplhaaGreat
open Go.Kern
set_option maxRecDepth 100000
set_option maxHeartbeats 4000000
attribute [local irreducible] af W
def yw:Type:= {n:Int//0≤n∧n≤65535}
theorem xj {n m:Int} (h:0≤n∧n≤65535):0≤rI n m∧rI n m≤65535:=by
 unfold rI;split<;>split<;>omega
def uM (st:yw) (c:hJ):Bool×yw:=(tP st.1 c,⟨rI st.1 c.n,xj st.2⟩)
def kC (m:bS):Bool:=(bW 16 uM ⟨0,by omega⟩ m.l).1
structure bS.Fits (m:bS):Prop where
 len:m.l.length<4611686018427387904
 cls:∀c,c∈m.l→c.s.Fits∧c.m.path.size≤1000∧c.m.list.size≤1000
 name:m.name.size≤9223372036854775807
theorem rB (m:bS) (hm:m.Fits):Pure Tryz.prog 111 [ba m] (.bool (kC m)):=by
 intro σ
 refine ah [.tmp 2] 8 Tryz.func111 (by rfl) rfl rfl rfl rfl ?_
 (have kS:Sa 2:=⟨⟩;repeat' ((fail_if_success refine ss kS ?_);first|refine zw ?_|refine zy fun nu _ _=>?_|refine zc rfl (fun h=>?_) fun h=>?_|refine zi (fun h=>?_) fun h=>?_|exact .intro|fail));all_goals clear kS
 intro o ho
 have hc:=zB 163 [.ptr o 0 0] (fun st:yw=>σ.put o (rH st.1)) uM m.k m.l 16 hm.len (fun st c hx=>pX c (hm.cls c hx).1 (hm.cls c hx).2.1 (hm.cls c hx).2.2 st.1 st.2.1 st.2.2 o σ) ⟨0,by omega⟩
 unfold rH at hc
 repeat' first|refine zw ?_|refine zy fun nu _ _=>?_|refine zc rfl (fun h=>?_) fun h=>?_|refine zi (fun h=>?_) fun h=>?_|exact .intro|refine uw (hc) ?_|fail
 all_goals (first|exact⟨_,aw (aa.Sub.refl _) ho _,rfl,rfl⟩|exact aw (aa.Sub.refl _) ho _|exact⟨rfl,aw (aa.Sub.refl _) ho _⟩)
def kf (p q:gU):Bool:=decide (p.a=q.a)&&decide (p.b=q.b)
def oy (v:gU):Int→List gU→Int
 |_,[]=> -1
 |i,x::r=>if kf v x=true then i else oy v (i+1) r
theorem vy (v:gU) (l:List gU) (i:Nat) (h:i<l.length) (k:Int):oy v k (l.drop i)=if kf v (l.getD i default)=true then k else oy v (k+1) (l.drop (i+1)):=by
 rw[List.drop_eq_getElem_cons h,oy]
 simp[List.getD_eq_getElem?_getD,h]
theorem rL (v:gU):∀ (l:List gU) (k:Int),0≤k→decide (0≤oy v k l)=l.any (kf v)
  | [],k,_=>rfl
  | x::l,k,h=>by
    have ih:=rL v l (k+1) (by omega)
    by_cases hx:kf v x=true
    · simp only[oy,List.any_cons,hx,if_true,h,decide_true,Bool.true_or]
    · simp only[oy,List.any_cons,hx,if_false,Bool.false_or];exact ih
theorem vx (k:SK) (l:List gU) (hl:l.length<4611686018427387904) (v:gU):Pure Tryz.prog 235 [.sl k (aj aS l),aS v] (.int .i64 (oy v 0 l)):=by
 intro σ
 refine ah [.tmp 4] 19 Tryz.func235 (by rfl) rfl rfl rfl rfl ?_
 repeat' first|refine zw ?_|refine zy fun nu _ _=>?_|refine zc rfl (fun h=>?_) fun h=>?_|refine zi (fun h=>?_) fun h=>?_|exact .intro|fail
 refine ak (fun i:Nat=>[(0,.sl k (aj aS l)),(3,.ip (aS v) 0),(7,.int .i64 l.length),(8,.int .i64 i)]) (fun _=>σ) (fun i=>i≤l.length∧oy v 0 l=oy v i (l.drop i)) (fun i=>l.length-i) 0 ⟨Nat.zero_le _,rfl⟩ (Env.ab (by simp[Env.Has,Env.get,aS])) (aa.Sub.refl _) ?_
 rintro i ⟨hi,hor⟩
 by_cases hlt:i<l.length
 ·have ho:=vy v l i hlt i
  repeat' first|refine zw ?_|refine zy fun nu _ _=>?_|refine zc rfl (fun h=>?_) fun h=>?_|refine zi (fun h=>?_) fun h=>?_|exact .intro|fail
  ·rw[hor,ho,if_pos (by simpa [kf,dL,pb] using h)]
  ·rw[if_neg (by simpa [kf,dL,pb] using h)] at ho
   exact⟨i+1,by omega,⟨by omega,by rw[hor,ho];rfl⟩,Env.ab (by simp[Env.Has,Env.get,aS]),aa.Sub.refl _⟩
 ·have hi':i=l.length:=by omega
  subst hi'
  repeat' first|refine zw ?_|refine zy fun nu _ _=>?_|refine zc rfl (fun h=>?_) fun h=>?_|refine zi (fun h=>?_) fun h=>?_|exact .intro|fail
  rw[hor,List.drop_length];rfl
theorem vL (k:SK) (l:List gU) (hl:l.length<4611686018427387904) (v:gU):Pure Tryz.prog 171 [.sl k (aj aS l),aS v] (.bool (l.any (kf v))):=by
 intro σ
 have h:=vx k l hl v
 refine ah [.tmp 4] 9 Tryz.func171 (by rfl) rfl rfl rfl rfl ?_
 repeat' first|refine zw ?_|refine zy fun nu _ _=>?_|refine zc rfl (fun h=>?_) fun h=>?_|refine zi (fun h=>?_) fun h=>?_|exact .intro|refine us (h) ?_|fail
 rw[rL v l 0 (Int.le_refl _)]
def lY:List gU→List gU→Bool
 |_,[]=>true
 |pre,p::r=> !(pre.any (kf p))&&lY (pre++[p]) r
theorem tM (l:List gU) (i:Nat) (h:i<l.length):lY (l.take i) (l.drop i)=(!((l.take i).any (kf (l.getD i default)))&&lY (l.take (i+1)) (l.drop (i+1))):=by
 rw[List.drop_eq_getElem_cons h,lY,List.take_succ_eq_append_getElem h]
 simp[List.getD_eq_getElem?_getD,h]
def mY (n:jm):Bool:=mH n.imp&&mH n.exp
theorem rq (n:jm) (h1:n.imp.size≤9223372036854775807) (h2:n.exp.size≤9223372036854775807):Pure Tryz.prog 173 [aT n] (.bool (mY n)):=by
 intro σ
 have h3:=lj n.imp h1
 have h4:=lj n.exp h2
 refine ah [.tmp 2] 11 Tryz.func173 (by rfl) rfl rfl rfl rfl ?_
 repeat' first|refine zw ?_|refine zy fun nu _ _=>?_|refine zc rfl (fun h=>?_) fun h=>?_|refine zi (fun h=>?_) fun h=>?_|exact .intro|refine us (h3) ?_|refine us (h4) ?_|fail
 all_goals simp_all[mY]
def m8 (x:gB):Bool:=bJ x.cost 0 65536
theorem rD (x:gB):Pure Tryz.prog 176 [aW x] (.bool (m8 x)):=by
 intro σ
 refine ah [.tmp 2] 6 Tryz.func176 (by rfl) rfl rfl rfl rfl ?_
 repeat' first|refine zw ?_|refine zy fun nu _ _=>?_|refine zc rfl (fun h=>?_) fun h=>?_|refine zi (fun h=>?_) fun h=>?_|exact .intro|refine us (dM _ _ _) ?_|fail
 rfl
structure bX.Fits (r:bX):Prop where
 name:r.name.size≤9223372036854775807
 nets:r.nets.length<4611686018427387904
 nbrs:r.nbrs.length<4611686018427387904
 links:r.links.length<4611686018427387904
 nbr:∀n,n∈r.nbrs→n.name.size≤9223372036854775807∧n.imp.size≤9223372036854775807∧n.exp.size≤9223372036854775807
 link:∀n,n∈r.links→n.name.size≤9223372036854775807
def gC (r:bX):Bool:=bJ r.asn 1 65535&&(bJ r.id 1 65535&&(cB 16 ig r.nets&&(lY [] r.nets&&(cB 16 mY r.nbrs&&(cB 16 m8 r.links&&(aN [] (r.nbrs.map (·.name))&&aN [] (r.links.map (·.name))))))))
theorem qV (r:bX) (hr:r.Fits):Pure Tryz.prog 113 [aC r] (.bool (gC r)):=by
 intro σ
 have hln:=hr.nets
 have g1:=dM r.asn 1 65535
 have f2:=dM r.id 1 65535
 have f3:=xu 170 [] ig r.kN r.nets 16 hr.nets (fun p _=>lO p)
 have f4:=xv 173 [] mY r.kB r.nbrs 16 hr.nbrs (fun n hn=>rq n (hr.nbr n hn).2.1 (hr.nbr n hn).2.2)
 have f5:=xy 176 [] m8 r.kL r.links 16 hr.links (fun n _=>rD n)
 have f6:=Ag r.kB r.nbrs hr.nbrs (fun n hn=>(hr.nbr n hn).1)
 have f7:=Aj r.kL r.links hr.links (fun n hn=>hr.link n hn)
 obtain⟨b1,hb1⟩:∃b,bJ r.asn 1 65535=b:=⟨_,rfl⟩
 obtain⟨b2,hb2⟩:∃b,bJ r.id 1 65535=b:=⟨_,rfl⟩
 obtain⟨b3,hb3⟩:∃b,cB 16 ig r.nets=b:=⟨_,rfl⟩
 obtain⟨b4,hb4⟩:∃b,cB 16 mY r.nbrs=b:=⟨_,rfl⟩
 obtain⟨b5,hb5⟩:∃b,cB 16 m8 r.links=b:=⟨_,rfl⟩
 obtain⟨b6,hb6⟩:∃b,aN [] (r.nbrs.map (·.name))=b:=⟨_,rfl⟩
 obtain⟨b7,hb7⟩:∃b,aN [] (r.links.map (·.name))=b:=⟨_,rfl⟩
 simp only[gC,hb1,hb2,hb3,hb4,hb5,hb6,hb7] at g1 f2 f3 f4 f5 f6 f7 ⊢
 rcases Bool.eq_false_or_eq_true b1 with rfl|rfl
 ·rcases Bool.eq_false_or_eq_true b2 with rfl|rfl
  ·rcases Bool.eq_false_or_eq_true b3 with rfl|rfl
   ·skip
    refine ah [.tmp 2] 54 Tryz.func113 (by rfl) rfl rfl rfl rfl ?_
    repeat' first|refine zw ?_|refine zy fun nu _ _=>?_|refine zc rfl (fun h=>?_) fun h=>?_|refine zi (fun h=>?_) fun h=>?_|exact .intro|refine us (g1) ?_|refine us (f2) ?_|refine us (f3) ?_|fail
    refine ak (fun i:Nat=>[(1,.ip (aC r) 0),(22,.sl r.kN (aj aS r.nets)),(23,.int .i64 r.nets.length),(24,.int .i64 i)]) (fun _=>σ) (fun i=>i≤r.nets.length∧lY [] r.nets=lY (r.nets.take i) (r.nets.drop i)) (fun i=>r.nets.length-i) 0 ⟨Nat.zero_le _,rfl⟩ (Env.ab (by simp[Env.Has,Env.get,aC])) (aa.Sub.refl _) ?_
    rintro i ⟨hi,hor⟩
    by_cases hlt:i<r.nets.length
    ·have ho:=tM r.nets i hlt
     have hc:=vL r.kN.cut (r.nets.take i) (by rw[List.length_take];have:=hr.nets;omega) (r.nets.getD i default)
     repeat' first|refine zw ?_|refine zy fun nu _ _=>?_|refine zc rfl (fun h=>?_) fun h=>?_|refine zi (fun h=>?_) fun h=>?_|exact .intro|fail
     intro o1 ho1
     have ho1':=ho1
     have hrow:aO 2 (aj aS r.nets)=true:=cW 2 aS (fun _=>rfl) r.nets
     (have kX:=g9 @lk @hrow;repeat' first|refine zw ?_|refine ry (id:=6) [] (cq [1,4]) fun nu _ _=>?_|refine zy fun nu _ _=>?_|refine zc rfl (fun h=>?_) fun h=>?_|refine zi (fun h=>?_) fun h=>?_|exact .intro|refine us (hc) ?_|fail);all_goals clear kX
     ·exact⟨by rw[hor,ho,h];rfl,aw (aa.Sub.refl _) ho1' _⟩
     ·exact⟨i+1,by omega,⟨by omega,by rw[hor,ho,h];rfl⟩,Env.ab (by simp[Env.Has,Env.get,aC]),aw (aa.Sub.refl _) ho1' _⟩
    ·have hi':i=r.nets.length:=by omega
     subst hi'
     have hd:lY [] r.nets=true:=by rw[hor,List.drop_length];rfl
     rw[hd]
     repeat' first|refine zw ?_|refine zy fun nu _ _=>?_|refine zc rfl (fun h=>?_) fun h=>?_|refine zi (fun h=>?_) fun h=>?_|exact .intro|refine us (f4) ?_|refine us (f5) ?_|refine us (f6) ?_|refine us (f7) ?_|fail
     all_goals (simp only[*,Bool.true_and,Bool.false_and])
   ·skip
    refine ah [.tmp 2] 54 Tryz.func113 (by rfl) rfl rfl rfl rfl ?_
    repeat' first|refine zw ?_|refine zy fun nu _ _=>?_|refine zc rfl (fun h=>?_) fun h=>?_|refine zi (fun h=>?_) fun h=>?_|exact .intro|refine us (g1) ?_|refine us (f2) ?_|refine us (f3) ?_|fail
  ·skip
   refine ah [.tmp 2] 54 Tryz.func113 (by rfl) rfl rfl rfl rfl ?_
   repeat' first|refine zw ?_|refine zy fun nu _ _=>?_|refine zc rfl (fun h=>?_) fun h=>?_|refine zi (fun h=>?_) fun h=>?_|exact .intro|refine us (g1) ?_|refine us (f2) ?_|fail
 ·skip
  refine ah [.tmp 2] 54 Tryz.func113 (by rfl) rfl rfl rfl rfl ?_
  repeat' first|refine zw ?_|refine zy fun nu _ _=>?_|refine zc rfl (fun h=>?_) fun h=>?_|refine zi (fun h=>?_) fun h=>?_|exact .intro|refine us (g1) ?_|fail
def m5 (x:cC):Bool:=decide (ke x.l=0)
theorem rC (x:cC) (h:x.l.length<4611686018427387904):Pure Tryz.prog 108 [bd x] (.bool (m5 x)):=by
 intro σ
 have h1:=pL x.k x.l h
 refine ah [.tmp 2] 7 Tryz.func108 (by rfl) rfl rfl rfl rfl ?_
 repeat' first|refine zw ?_|refine zy fun nu _ _=>?_|refine zc rfl (fun h=>?_) fun h=>?_|refine zi (fun h=>?_) fun h=>?_|exact .intro|refine us (h1) ?_|fail
 rfl
structure fN.Fits (c:fN):Prop where
 lists:c.lists.length<4611686018427387904
 maps:c.maps.length<4611686018427387904
 routers:c.routers.length<4611686018427387904
 lst:∀x,x∈c.lists→x.l.length<4611686018427387904∧x.name.size≤9223372036854775807
 map:∀x,x∈c.maps→x.Fits
 rtr:∀x,x∈c.routers→x.Fits
def cL (c:fN):Bool:=cB 16 m5 c.lists&&(cB 16 kC c.maps&&(cB 8 gC c.routers&&(aN [] (c.lists.map (·.name))&&(aN [] (c.maps.map (·.name))&&aN [] (c.routers.map (·.name))))))
theorem sc (c:fN) (hc:c.Fits):Pure Tryz.prog 67 [aX c] (.bool (cL c)):=by
 intro σ
 have f1:=xx 108 [] m5 c.kL c.lists 16 hc.lists (fun x hx=>rC x (hc.lst x hx).1)
 have f2:=xw 111 [] kC c.kM c.maps 16 hc.maps (fun x hx=>rB x (hc.map x hx))
 have f3:=xt 113 [] gC c.kR c.routers 8 hc.routers (fun x hx=>qV x (hc.rtr x hx))
 have f4:=Ai c.kL c.lists hc.lists (fun x hx=>(hc.lst x hx).2)
 have f5:=Ah c.kM c.maps hc.maps (fun x hx=>(hc.map x hx).name)
 have f6:=Af c.kR c.routers hc.routers (fun x hx=>(hc.rtr x hx).name)
 obtain⟨b1,hb1⟩:∃b,cB 16 m5 c.lists=b:=⟨_,rfl⟩
 obtain⟨b2,hb2⟩:∃b,cB 16 kC c.maps=b:=⟨_,rfl⟩
 obtain⟨b3,hb3⟩:∃b,cB 8 gC c.routers=b:=⟨_,rfl⟩
 obtain⟨b4,hb4⟩:∃b,aN [] (c.lists.map (·.name))=b:=⟨_,rfl⟩
 obtain⟨b5,hb5⟩:∃b,aN [] (c.maps.map (·.name))=b:=⟨_,rfl⟩
 obtain⟨b6,hb6⟩:∃b,aN [] (c.routers.map (·.name))=b:=⟨_,rfl⟩
 simp only[cL,hb1,hb2,hb3,hb4,hb5,hb6] at f1 f2 f3 f4 f5 f6 ⊢
 refine ah [.tmp 2] 33 Tryz.func67 (by rfl) rfl rfl rfl rfl ?_
 repeat' first|refine zw ?_|refine zy fun nu _ _=>?_|refine zc rfl (fun h=>?_) fun h=>?_|refine zi (fun h=>?_) fun h=>?_|exact .intro|refine us (f1) ?_|refine us (f2) ?_|refine us (f3) ?_|refine us (f4) ?_|refine us (f5) ?_|refine us (f6) ?_|fail
 all_goals (simp only[*,Bool.true_and,Bool.false_and])
end Go.Proofs.YtgfjihpbphplhaaGreat

namespace Go.Proofs.YtgfjihpbphplhaaGreat
open Go.Kern Go.RowKit Go.ChangeShapes
def gU.Ok (p:gU):Prop:=0≤p.a∧p.a<4294967296
structure fN.Wf (c:fN):Prop where
 rules:∀x,x∈c.lists→∀r,r∈x.l→r.p.Ok
 nets:∀x,x∈c.routers→∀p,p∈x.nets→p.Ok
 nbrs:∀x,x∈c.routers→∀n,n∈x.nbrs→n.name.size≤9223372036854775807∧n.imp.size≤9223372036854775807∧n.exp.size≤9223372036854775807
 links:∀x,x∈c.routers→∀n,n∈x.links→n.name.size≤9223372036854775807
theorem lJ {α:Type} {m:Int} {q:α→Bool} {l:List α}:cB m q l=true↔(l.length:Int)≤m∧∀x,x∈l→q x=true:=by
 simp[cB]
theorem within_iff {n a b:Int}:bJ n a b=true↔a≤n∧n≤b:=by simp[bJ]
theorem fP:∀ (l pre:List ByteArray),aN pre l=true→∀s,s∈l→kr s=true
  | [],_,_,s,hs=>by simp at hs
  | x::l,pre,h,s,hs=>by
    simp only[aN,Bool.and_eq_true] at h
    rcases List.mem_cons.1 hs with rfl|hs
    · exact h.1.2
    · exact fP l _ h.2 s hs
structure fN.M (c:fN):Prop where
 lists:∀x,x∈c.lists→m5 x=true∧kr x.name=true
 maps:∀x,x∈c.maps→kC x=true∧kr x.name=true
 routers:∀x,x∈c.routers→gC x=true∧kr x.name=true
theorem lB {c:fN} (h:cL c=true):c.M:=by
 simp only[cL,Bool.and_eq_true,lJ] at h
 obtain⟨⟨_,a⟩,⟨_,b⟩,⟨_,d⟩,e,f,g⟩:=h
 exact⟨fun x hx=>⟨a x hx,fP _ _ e x.name (List.mem_map.2 ⟨x,hx,rfl⟩)⟩,fun x hx=>⟨b x hx,fP _ _ f x.name (List.mem_map.2 ⟨x,hx,rfl⟩)⟩,fun x hx=>⟨d x hx,fP _ _ g x.name (List.mem_map.2 ⟨x,hx,rfl⟩)⟩⟩
def hJ.S (c:hJ):Prop:=c.m.list.size≤100∧c.m.path.size≤100∧c.s.add.length≤20∧c.s.del.length≤20∧c.s.pre.length≤30
def cC.S (x:cC):Prop:=x.name.size≤100∧x.l.length≤20
def bS.S0 (x:bS):Prop:=x.name.size≤100∧x.l.length≤20
def bS.S (x:bS):Prop:=x.S0∧∀c,c∈x.l→c.S
def bX.S (x:bX):Prop:=x.name.size≤100∧x.nets.length≤20∧x.nbrs.length≤20∧x.links.length≤20
structure fN.S (c:fN):Prop where
 len:c.lists.length≤20∧c.maps.length≤20∧c.routers.length≤12
 lists:∀x,x∈c.lists→x.S
 maps:∀x,x∈c.maps→x.S
 routers:∀x,x∈c.routers→x.S
theorem jX {α:Type} [Inhabited α] {P:α→Prop} {l:List α} {i:Nat} (h:i<l.length) (h1:∀x,x∈l.take i→P x) (h2:P (l.getD i default)):∀x,x∈l.take (i+1)→P x:=by
 intro x hx
 rw[List.take_succ_eq_append_getElem h] at hx
 rcases List.mem_append.1 hx with hx|hx
 ·exact h1 x hx
 ·have:x=l.getD i default:=by simpa [List.getD_eq_getElem?_getD,h] using hx
  rw[this];exact h2
theorem qf (c:fN) (hS:c.S) (hW:c.Wf):c.Fits:=by
 obtain⟨⟨a1,a2,a3⟩,a4,a5,a6⟩:=hS
 refine⟨by omega,by omega,by omega,fun x hx=>?_,fun x hx=>?_,fun x hx=>?_⟩
 ·obtain⟨b1,b2⟩:=a4 x hx
  exact⟨by omega,by omega⟩
 ·obtain⟨⟨b1,b2⟩,b3⟩:=a5 x hx
  refine⟨by omega,fun y hy=>?_,by omega⟩
  obtain⟨d1,d2,d3,d4,d5⟩:=b3 y hy
  exact⟨⟨by omega,by omega,by omega⟩,by omega,by omega⟩
 ·obtain⟨b1,b2,b3,b4⟩:=a6 x hx
  exact⟨by omega,by omega,by omega,by omega,hW.nbrs x hx,hW.links x hx⟩
def ur:Sh:= .cons (.int .u32) (.cons fB .nil)
def wJ:Sh:= .cons ur (.cons fB (.cons fB (.cons .bool .nil)))
def o6:Sh:= .cons fB (.cons fB .nil)
def B2:Sh:= .cons .str (.cons .str (.cons o6 .nil))
def Cc:Sh:= .cons fB (.cons fB (.cons fB (.cons (.sl o6 true) (.cons (.sl o6 true) (.cons .bool (.cons (.sl fB false) .nil))))))
def xS:Sh:= .cons fB (.cons .bool (.cons B2 (.cons Cc .nil)))
def xc:Sh:= .cons .str (.cons (.sl xS true) .nil)
def xd:Sh:= .cons .str (.cons (.sl wJ true) .nil)
def w8:Sh:= .cons .str (.cons .str (.cons .str (.cons .bool .nil)))
def xf:Sh:= .cons .str (.cons fB .nil)
def wG:Sh:= .cons .str (.cons fB (.cons fB (.cons (.sl ur true) (.cons (.sl w8 true) (.cons (.sl xf true) .nil)))))
def uN:Sh:= .cons (.sl xd true) (.cons (.sl xc true) (.cons (.sl wG true) .nil))
theorem zN:(uN.qB Tryz.prog).1 26=true:=by kernel_rfl
theorem own:ownKnob Tryz.prog.godebug=none:=by kernel_rfl
theorem laid:laidOutB Tryz.prog=true:=by kernel_rfl
theorem uX:Tryz.prog.readableRec 26=true∧26<Tryz.prog.types.size:=⟨by kernel_rfl,of_decide_eq_true (by kernel_rfl)⟩
theorem ga {α:Type} {e:Sh} {ag:Bool} (f:α→AV) (Pr:α→Prop) (hf:∀y,e.ok y→∃a,fq ag y=f a∧Pr a) {l:List AV} (h:(Sh.sl e ag).ok l):∃ (k:SK) (zs:List α),l=[.sl k (aj f zs)]∧∀z,z∈zs→Pr z:=by
  have gen:∀ys:List (List AV),(∀y,y∈ys→e.ok y)→∃zs:List α,ys.map (fq ag)=zs.map f∧∀z,z∈zs→Pr z:=by
    intro ys
    induction ys with
    |nil=>exact fun _=>⟨[],rfl,fun z hz=>by simp at hz⟩
    | cons y ys ih=>
      intro h
      obtain⟨a,ha,hp⟩:=hf y (h y List.mem_cons_self)
      obtain⟨zs,h1,h2⟩:=ih fun y hy=>h y (List.mem_cons_of_mem _ hy)
      exact⟨a::zs,by rw[List.map_cons,h1,ha];rfl,fun z hz=>by
        rcases List.mem_cons.1 hz with rfl|hz
        · exact hp
        · exact h2 z hz⟩
  obtain⟨k,ys,rfl,h1,h2⟩:=h
  obtain⟨zs,h3,h4⟩:=gen ys h2
  exact⟨k,zs,by rw[h3];rfl,h4⟩
theorem wU {l:List AV} (h:ur.ok l):∃p:gU,AV.agg l=aS p∧p.Ok:=by
 obtain⟨x1,r1,rfl,⟨a,rfl,wa⟩,x2,r2,rfl,⟨b,rfl,_⟩,rfl⟩:=h
 refine⟨⟨a,b⟩,rfl,?_⟩
 simp[Lit.wf,IntKind.min,IntKind.max] at wa
 show 0≤a∧a<4294967296
 simp[IntKind.signed,IntKind.bits] at wa
 omega
theorem Ao {l:List AV} (h:wJ.ok l):∃r:yA,AV.agg l=bA r∧r.p.Ok:=by
 obtain⟨x0,r0,rfl,h0,x1,r1,rfl,⟨ge,rfl,_⟩,x2,r2,rfl,⟨le,rfl,_⟩,x3,r3,rfl,⟨b,rfl⟩,rfl⟩:=h
 obtain⟨p,hp,ho⟩:=wU h0
 simp only[aS,AV.agg.injEq] at hp
 subst hp
 exact⟨⟨p,ge,le,b⟩,rfl,ho⟩
theorem tN {l:List AV} (h:o6.ok l):∃c:nP,AV.agg l=aY c∧True:=by
 obtain⟨x1,r1,rfl,⟨a,rfl,_⟩,x2,r2,rfl,⟨b,rfl,_⟩,rfl⟩:=h
 exact⟨⟨a,b⟩,rfl,trivial⟩
theorem zM {l:List AV} (h:xS.ok l):∃c:hJ,AV.agg l=aM c∧True:=by
 obtain⟨x1,r1,rfl,⟨n,rfl,_⟩,x2,r2,rfl,⟨b,rfl⟩,x3,r3,rfl,⟨m1,q1,rfl,⟨ml,rfl,_⟩,m2,q2,rfl,⟨mp,rfl,_⟩,m3,q3,rfl,h3,rfl⟩,x4,r4,rfl,hs,rfl⟩:=h
 obtain⟨mc,hmc,_⟩:=tN h3
 simp only[aY,AV.agg.injEq] at hmc
 subst hmc
 obtain⟨s1,t1,rfl,⟨pref,rfl,_⟩,s2,t2,rfl,⟨med,rfl,_⟩,s3,t3,rfl,⟨org,rfl,_⟩,s4,t4,rfl,h4,s5,t5,rfl,h5,s6,t6,rfl,⟨clr,rfl⟩,s7,t7,rfl,h7,rfl⟩:=hs
 obtain⟨kA,add,rfl,_⟩:=ga (ag:=true) (e:=o6) aY (fun _=>True) (fun y hy=>tN hy) h4
 obtain⟨kD,del,rfl,_⟩:=ga (ag:=true) (e:=o6) aY (fun _=>True) (fun y hy=>tN hy) h5
 obtain⟨kP,pre,rfl,_⟩:=yK h7
 exact⟨⟨n,b,⟨ml,mp,mc⟩,⟨pref,med,org,kA,add,kD,del,clr,kP,pre⟩⟩,rfl,trivial⟩
theorem Au {l:List AV} (h:xc.ok l):∃m:bS,AV.agg l=ba m∧True:=by
 obtain⟨x1,r1,rfl,⟨s,rfl,_⟩,x2,r2,rfl,h2,rfl⟩:=h
 obtain⟨k,zs,rfl,_⟩:=ga (ag:=true) (e:=xS) aM (fun _=>True) (fun y hy=>zM hy) h2
 exact⟨⟨s,k,zs⟩,rfl,trivial⟩
theorem Av {l:List AV} (h:xd.ok l):∃m:cC,AV.agg l=bd m∧∀r,r∈m.l→r.p.Ok:=by
 obtain⟨x1,r1,rfl,⟨s,rfl,_⟩,x2,r2,rfl,h2,rfl⟩:=h
 obtain⟨k,zs,rfl,hz⟩:=ga (ag:=true) (e:=wJ) bA (fun r=>r.p.Ok) (fun y hy=>Ao hy) h2
 exact⟨⟨s,k,zs⟩,rfl,hz⟩
theorem As {l:List AV} (h:w8.ok l):∃n:jm,AV.agg l=aT n∧(n.name.size≤9223372036854775807∧n.imp.size≤9223372036854775807∧n.exp.size≤9223372036854775807):=by
 obtain⟨x1,r1,rfl,⟨a,rfl,wa⟩,x2,r2,rfl,⟨b,rfl,wb⟩,x3,r3,rfl,⟨c,rfl,wc⟩,x4,r4,rfl,⟨d,rfl⟩,rfl⟩:=h
 exact⟨⟨a,b,c,d⟩,rfl,wa,wb,wc⟩
theorem Aw {l:List AV} (h:xf.ok l):∃n:gB,AV.agg l=aW n∧n.name.size≤9223372036854775807:=by
 obtain⟨x1,r1,rfl,⟨a,rfl,wa⟩,x2,r2,rfl,⟨b,rfl,_⟩,rfl⟩:=h
 exact⟨⟨a,b⟩,rfl,wa⟩
structure bX.Wf (x:bX):Prop where
 nets:∀p,p∈x.nets→p.Ok
 nbrs:∀n,n∈x.nbrs→n.name.size≤9223372036854775807∧n.imp.size≤9223372036854775807∧n.exp.size≤9223372036854775807
 links:∀n,n∈x.links→n.name.size≤9223372036854775807
theorem An {l:List AV} (h:wG.ok l):∃n:bX,AV.agg l=aC n∧n.Wf:=by
 obtain⟨x1,r1,rfl,⟨a,rfl,wa⟩,x2,r2,rfl,⟨b,rfl,_⟩,x3,r3,rfl,⟨c,rfl,_⟩,x4,r4,rfl,h4,x5,r5,rfl,h5,x6,r6,rfl,h6,rfl⟩:=h
 obtain⟨k4,z4,rfl,p4⟩:=ga (ag:=true) (e:=ur) aS gU.Ok (fun y hy=>wU hy) h4
 obtain⟨k5,z5,rfl,p5⟩:=ga (ag:=true) (e:=w8) aT (fun n=>n.name.size≤9223372036854775807∧n.imp.size≤9223372036854775807∧n.exp.size≤9223372036854775807) (fun y hy=>As hy) h5
 obtain⟨k6,z6,rfl,p6⟩:=ga (ag:=true) (e:=xf) aW (fun n=>n.name.size≤9223372036854775807) (fun y hy=>Aw hy) h6
 exact⟨⟨a,b,c,k4,z4,k5,z5,k6,z6⟩,rfl,p4,p5,p6⟩
theorem AL {l:List AV} (h:uN.ok l):∃c:fN,AV.agg l=aX c∧c.Wf:=by
 obtain⟨x4,r4,rfl,h4,x5,r5,rfl,h5,x6,r6,rfl,h6,rfl⟩:=h
 obtain⟨k4,z4,rfl,p4⟩:=ga (ag:=true) (e:=xd) bd (fun m=>∀r,r∈m.l→r.p.Ok) (fun y hy=>Av hy) h4
 obtain⟨k5,z5,rfl,_⟩:=ga (ag:=true) (e:=xc) ba (fun _=>True) (fun y hy=>Au hy) h5
 obtain⟨k6,z6,rfl,p6⟩:=ga (ag:=true) (e:=wG) aC bX.Wf (fun y hy=>An hy) h6
 exact⟨⟨k4,z4,k5,z5,k6,z6⟩,rfl,p4,fun x hx=>(p6 x hx).nets,fun x hx=>(p6 x hx).nbrs,fun x hx=>(p6 x hx).links⟩
theorem xY {H:Type} {enc:TypeId×Value→H} {W:World} {v:Value} {d:DataW H} {p:List MemPlace} (h:DataW.Trod enc Tryz.prog W 0 (fun _=>true) true 26 v d p):
  ∃c:fN,c.Wf∧R (yz W) (aX c) v:=by
 obtain⟨fuel,hf⟩:=h
 obtain⟨l,hl,hr⟩:=(uN.read).1 _ _ _ _ zN hf
 obtain⟨c,hc,hw⟩:=AL hl
 refine⟨c,hw,?_⟩
 rw[←hc]
 have h3:l.length=3:=by have:=uN.mh hl;exact this
 rcases oB (v:=v) with ⟨cs,rfl⟩|h1
 ·exact .agg (by simpa [Value.cells] using hr.1) (by simpa [Value.cells] using hr.2)
 ·have:=hr.1
  rw[h1,h3] at this
  cases this
set_option maxRecDepth 100000
set_option maxHeartbeats 4000000
attribute [local irreducible] af W
theorem sJ (c:fN) (σ:aa):af Tryz.prog 29 [aX c] σ (fun r t=>(r= .bool false∨(r= .bool true∧c.S))∧t=σ):=by
 refine ai [.tmp 2] 210 Tryz.func29 (by rfl) rfl rfl rfl rfl ?_
 by_cases g0:c.lists.length≤20∧c.maps.length≤20∧c.routers.length≤12
 ·obtain⟨l1,l2,l3⟩:=g0
  repeat' first|refine zw ?_|refine zy fun nu _ _=>?_|refine zc rfl (fun h=>?_) fun h=>?_|refine zi (fun h=>?_) fun h=>?_|exact .intro|fail
  refine ak (fun i:Nat=>[(1,.ip (aX c) 0),(3,.int .i64 i)]) (fun _=>σ) (fun i=>i≤c.lists.length∧∀x,x∈c.lists.take i→cC.S x) (fun i=>c.lists.length-i) 0 ⟨Nat.zero_le _,fun x hx=>by simp at hx⟩ (Env.ab (by simp[Env.Has,Env.get,aX])) (aa.Sub.refl _) ?_
  rintro i ⟨hi,hor⟩
  by_cases hlt:i<c.lists.length
  ·obtain⟨x,hx⟩:∃x,c.lists.getD i default=x:=⟨_,rfl⟩
   by_cases hs:x.S
   ·obtain⟨p1,p2⟩:=hs
    (have kX:=@hx;repeat' first|refine zw ?_|refine zy fun nu _ _=>?_|refine zc rfl (fun h=>?_) fun h=>?_|refine zi (fun h=>?_) fun h=>?_|exact .intro|fail);all_goals clear kX
    exact⟨i+1,by omega,⟨by omega,jX hlt hor (hx▸⟨p1,p2⟩)⟩,Env.ab (by simp[Env.Has,Env.get,aX]),aa.Sub.refl _⟩
   ·unfold cC.S at hs
    (have kX:=@hx;have kS:Sa 5:=⟨⟩;repeat' ((fail_if_success refine ss kS ?_);first|refine zw ?_|refine zy fun nu _ _=>?_|refine zc rfl (fun h=>?_) fun h=>?_|refine zi (fun h=>?_) fun h=>?_|exact .intro|fail));all_goals clear kX kS
    all_goals first|exact⟨_,aa.Sub.refl _,rfl⟩|exact⟨_,aa.Sub.refl _,.inl rfl,rfl⟩|exact aa.Sub.refl _
  ·have hi':i=c.lists.length:=by omega
   subst hi'
   rw[List.take_length] at hor
   have hL:=hor
   clear hor
   repeat' first|refine zw ?_|refine zy fun nu _ _=>?_|refine zc rfl (fun h=>?_) fun h=>?_|refine zi (fun h=>?_) fun h=>?_|exact .intro|fail
   refine ak (fun i:Nat=>[(1,.ip (aX c) 0),(4,.int .i64 i)]) (fun _=>σ) (fun i=>i≤c.maps.length∧∀x,x∈c.maps.take i→bS.S x) (fun i=>c.maps.length-i) 0 ⟨Nat.zero_le _,fun x hx=>by simp at hx⟩ (Env.ab (by simp[Env.Has,Env.get,aX])) (aa.Sub.refl _) ?_
   rintro i ⟨hi,hor⟩
   by_cases hlt:i<c.maps.length
   ·obtain⟨x,hx⟩:∃x,c.maps.getD i default=x:=⟨_,rfl⟩
    by_cases hs:x.S0
    ·have hs':=hs
     obtain⟨p1,p2⟩:=hs
     (have kX:=@hx;repeat' first|refine zw ?_|refine zy fun nu _ _=>?_|refine zc rfl (fun h=>?_) fun h=>?_|refine zi (fun h=>?_) fun h=>?_|exact .intro|fail);all_goals clear kX
     refine ak (fun j:Nat=>[(1,.ip (aX c) 0),(4,.int .i64 i),(5,.int .i64 j)]) (fun _=>σ) (fun j=>j≤x.l.length∧∀y,y∈x.l.take j→hJ.S y) (fun j=>x.l.length-j) 0 ⟨Nat.zero_le _,fun x hx=>by simp at hx⟩ (Env.ab (by simp[Env.Has,Env.get,aX])) (aa.Sub.refl _) ?_
     rintro j ⟨hj,hoj⟩
     by_cases hlj:j<x.l.length
     ·obtain⟨y,hy⟩:∃y,x.l.getD j default=y:=⟨_,rfl⟩
      by_cases hs:y.S
      ·obtain⟨u1,u2,u3,u4,u5⟩:=hs
       (have kX:=g9 @hx @hy;have kS:Sa 17:=⟨⟩;repeat' ((fail_if_success refine ss kS ?_);first|refine zw ?_|refine zy fun nu _ _=>?_|refine zc rfl (fun h=>?_) fun h=>?_|refine zi (fun h=>?_) fun h=>?_|exact .intro|fail));all_goals clear kX kS
       intro o1 ho1
       (have kX:=g9 @hx @hy;repeat' first|refine zw ?_|refine zy fun nu _ _=>?_|refine zc rfl (fun h=>?_) fun h=>?_|refine zi (fun h=>?_) fun h=>?_|exact .intro|fail);all_goals clear kX
       exact⟨j+1,by omega,⟨by omega,jX hlj hoj (hy▸⟨u1,u2,u3,u4,u5⟩)⟩,Env.ab (by simp[Env.Has,Env.get,aX]),aw (aa.Sub.refl _) ho1 _⟩
      ·unfold hJ.S at hs
       (have kX:=g9 @hx @hy;have kS:Sa 17:=⟨⟩;repeat' ((fail_if_success refine ss kS ?_);first|refine zw ?_|refine zy fun nu _ _=>?_|refine zc rfl (fun h=>?_) fun h=>?_|refine zi (fun h=>?_) fun h=>?_|exact .intro|fail));all_goals clear kX kS
       intro o1 ho1
       (have kX:=g9 @hx @hy;have kS:Sa 15:=⟨⟩;repeat' ((fail_if_success refine ss kS ?_);first|refine zw ?_|refine zy fun nu _ _=>?_|refine zc rfl (fun h=>?_) fun h=>?_|refine zi (fun h=>?_) fun h=>?_|exact .intro|fail));all_goals clear kX kS
       all_goals first|exact aw (aa.Sub.refl _) ho1 _|exact⟨_,aw (aa.Sub.refl _) ho1 _,rfl⟩|exact⟨_,aw (aa.Sub.refl _) ho1 _,.inl rfl,rfl⟩
     ·have hj':j=x.l.length:=by omega
      subst hj'
      rw[List.take_length] at hoj
      (have kX:=@hx;repeat' first|refine zw ?_|refine zy fun nu _ _=>?_|refine zc rfl (fun h=>?_) fun h=>?_|refine zi (fun h=>?_) fun h=>?_|exact .intro|fail);all_goals clear kX
      exact⟨i+1,by omega,⟨by omega,jX hlt hor (hx▸⟨hs',hoj⟩)⟩,Env.ab (by simp[Env.Has,Env.get,aX]),aa.Sub.refl _⟩
    ·unfold bS.S0 at hs
     (have kX:=@hx;have kS:Sa 13:=⟨⟩;repeat' ((fail_if_success refine ss kS ?_);first|refine zw ?_|refine zy fun nu _ _=>?_|refine zc rfl (fun h=>?_) fun h=>?_|refine zi (fun h=>?_) fun h=>?_|exact .intro|fail));all_goals clear kX kS
     all_goals first|exact⟨_,aa.Sub.refl _,rfl⟩|exact⟨_,aa.Sub.refl _,.inl rfl,rfl⟩|exact aa.Sub.refl _
   ·have hi':i=c.maps.length:=by omega
    subst hi'
    rw[List.take_length] at hor
    have hM:=hor
    clear hor
    repeat' first|refine zw ?_|refine zy fun nu _ _=>?_|refine zc rfl (fun h=>?_) fun h=>?_|refine zi (fun h=>?_) fun h=>?_|exact .intro|fail
    refine ak (fun i:Nat=>[(1,.ip (aX c) 0),(7,.int .i64 i)]) (fun _=>σ) (fun i=>i≤c.routers.length∧∀x,x∈c.routers.take i→bX.S x) (fun i=>c.routers.length-i) 0 ⟨Nat.zero_le _,fun x hx=>by simp at hx⟩ (Env.ab (by simp[Env.Has,Env.get,aX])) (aa.Sub.refl _) ?_
    rintro i ⟨hi,hor⟩
    by_cases hlt:i<c.routers.length
    ·obtain⟨x,hx⟩:∃x,c.routers.getD i default=x:=⟨_,rfl⟩
     (have kX:=@hx;have kS:Sa 23:=⟨⟩;repeat' ((fail_if_success refine ss kS ?_);first|refine zw ?_|refine zy fun nu _ _=>?_|refine zc rfl (fun h=>?_) fun h=>?_|refine zi (fun h=>?_) fun h=>?_|exact .intro|fail));all_goals clear kX kS
     intro o1 ho1
     (have kX:=@hx;have kS:Sa 23:=⟨⟩;repeat' ((fail_if_success refine ss kS ?_);first|refine zw ?_|refine zy fun nu _ _=>?_|refine zc rfl (fun h=>?_) fun h=>?_|refine zi (fun h=>?_) fun h=>?_|exact .intro|fail));all_goals clear kX kS
     by_cases hs:x.S
     ·obtain⟨p1,p2,p3,p4⟩:=hs
      (have kX:=@hx;have kS:Sa 26:=⟨⟩;repeat' ((fail_if_success refine ss kS ?_);first|refine zw ?_|refine zy fun nu _ _=>?_|refine zc rfl (fun h=>?_) fun h=>?_|refine zi (fun h=>?_) fun h=>?_|exact .intro|fail));all_goals clear kX kS
      refine ak (fun j:Nat=>[(1,.ip (aX c) 0),(7,.int .i64 i),(8,.ptr o1 0 0),(9,.int .i64 j)]) (fun _=>σ.put o1 (.arr 66 [aC x])) (fun j=>j≤x.nbrs.length) (fun j=>x.nbrs.length-j) 0 (Nat.zero_le _) (Env.ab (by simp[Env.Has,Env.get,aX])) (sub_eq (by simp[aC])) ?_
      rintro j hj
      by_cases hlj:j<x.nbrs.length
      ·skip
       (have kX:=@aC.eq_1;repeat' first|refine zw ?_|refine ry (id:=28) [] (cq [1,5,8,12,16,20]) fun nu _ _=>?_|refine zy fun nu _ _=>?_|refine zc rfl (fun h=>?_) fun h=>?_|refine zi (fun h=>?_) fun h=>?_|exact .intro|fail);all_goals clear kX
       ·first|exact aw (aa.Sub.refl _) ho1 _|exact⟨_,aw (aa.Sub.refl _) ho1 _,rfl⟩|exact⟨_,aw (aa.Sub.refl _) ho1 _,.inl rfl,rfl⟩
       ·exact⟨j+1,by omega,(by omega),Env.ab (by simp[Env.Has,Env.get,aX]),aa.Sub.refl _⟩
      ·have hj':j=x.nbrs.length:=by omega
       subst hj'
       (have kX:=@aC.eq_1;repeat' first|refine zw ?_|refine zy fun nu _ _=>?_|refine zc rfl (fun h=>?_) fun h=>?_|refine zi (fun h=>?_) fun h=>?_|exact .intro|fail);all_goals clear kX
       refine ak (fun j:Nat=>[(1,.ip (aX c) 0),(7,.int .i64 i),(8,.ptr o1 0 0),(10,.int .i64 j)]) (fun _=>σ.put o1 (.arr 66 [aC x])) (fun j=>j≤x.links.length) (fun j=>x.links.length-j) 0 (Nat.zero_le _) (Env.ab (by simp[Env.Has,Env.get,aX])) (sub_eq (by simp[aC])) ?_
       rintro j hj
       by_cases hlj:j<x.links.length
       ·skip
        (have kX:=@aC.eq_1;repeat' first|refine zw ?_|refine ry (id:=28) [] (cq [1,5,8,12,16,20]) fun nu _ _=>?_|refine zy fun nu _ _=>?_|refine zc rfl (fun h=>?_) fun h=>?_|refine zi (fun h=>?_) fun h=>?_|exact .intro|fail);all_goals clear kX
        ·first|exact aw (aa.Sub.refl _) ho1 _|exact⟨_,aw (aa.Sub.refl _) ho1 _,rfl⟩|exact⟨_,aw (aa.Sub.refl _) ho1 _,.inl rfl,rfl⟩
        ·exact⟨j+1,by omega,(by omega),Env.ab (by simp[Env.Has,Env.get,aX]),aa.Sub.refl _⟩
       ·have hj':j=x.links.length:=by omega
        subst hj'
        (have kX:=@aC.eq_1;repeat' first|refine zw ?_|refine zy fun nu _ _=>?_|refine zc rfl (fun h=>?_) fun h=>?_|refine zi (fun h=>?_) fun h=>?_|exact .intro|fail);all_goals clear kX
        exact⟨i+1,by omega,⟨by omega,jX hlt hor (hx▸⟨p1,p2,p3,p4⟩)⟩,Env.ab (by simp[Env.Has,Env.get,aX]),aw (aa.Sub.refl _) ho1 _⟩
     ·unfold bX.S at hs
      (have kX:=@hx;have kS:Sa 25:=⟨⟩;repeat' ((fail_if_success refine ss kS ?_);first|refine zw ?_|refine zy fun nu _ _=>?_|refine zc rfl (fun h=>?_) fun h=>?_|refine zi (fun h=>?_) fun h=>?_|exact .intro|fail));all_goals clear kX kS
      all_goals first|exact aw (aa.Sub.refl _) ho1 _|exact⟨_,aw (aa.Sub.refl _) ho1 _,rfl⟩|exact⟨_,aw (aa.Sub.refl _) ho1 _,.inl rfl,rfl⟩
    ·have hi':i=c.routers.length:=by omega
     subst hi'
     rw[List.take_length] at hor
     repeat' first|refine zw ?_|refine zy fun nu _ _=>?_|refine zc rfl (fun h=>?_) fun h=>?_|refine zi (fun h=>?_) fun h=>?_|exact .intro|fail
     first|exact⟨⟨l1,l2,l3⟩,hL,hM,hor⟩|exact⟨_,aa.Sub.refl _,⟨⟨l1,l2,l3⟩,hL,hM,hor⟩,rfl⟩|exact⟨_,aa.Sub.refl _,.inr ⟨⟨l1,l2,l3⟩,hL,hM,hor⟩,rfl⟩|exact .inr ⟨⟨l1,l2,l3⟩,hL,hM,hor⟩|exact⟨_,aa.Sub.refl _,.inr ⟨rfl,⟨l1,l2,l3⟩,hL,hM,hor⟩,rfl⟩
 ·skip
  (have kS:Sa 3:=⟨⟩;repeat' ((fail_if_success refine ss kS ?_);first|refine zw ?_|refine zy fun nu _ _=>?_|refine zc rfl (fun h=>?_) fun h=>?_|refine zi (fun h=>?_) fun h=>?_|exact .intro|fail));all_goals clear kS
  all_goals first|exact⟨_,aa.Sub.refl _,rfl⟩|exact⟨_,aa.Sub.refl _,.inl rfl,rfl⟩
end Go.Proofs.YtgfjihpbphplhaaGreat

namespace Go.Proofs.YtgfjihpbphplhaaGreat
open Go.Kern Go.RowKit
structure l5 where
 r:ByteArray
 n:ByteArray
 e:Int
def bl:l5:=⟨⟨#[]⟩,⟨#[]⟩,0⟩
def fM (f:l5):AV:= .agg [.str f.r,.str f.n,.int .i64 f.e]
def yC (f:l5):Prop:=f=bl∨f.e≠0
def bG:List l5→l5
 | []=>bl
 |f::l=>if f.e=0 then bG l else f
theorem jd:∀{l:List l5},(∀f,f∈l→yC f)→yC (bG l)
  | [],_=> .inl rfl
  | f::l,h=>by
    unfold bG
    split
    · exact jd fun g hg=>h g (List.mem_cons_of_mem _ hg)
    · exact .inr (by assumption)
theorem eJ:∀{l:List l5},(∀f,f∈l→yC f)→bG l=bl→∀f,f∈l→f=bl
  | [],_,_,f,hf=>by cases hf
  | g::l,h,he,f,hf=>by
    unfold bG at he
    split at he
    · rename_i q
      rcases List.mem_cons.1 hf with rfl|hf
      · rcases h f List.mem_cons_self with h|h
        · exact h
        · exact absurd q h
      · exact eJ (fun g hg=>h g (List.mem_cons_of_mem _ hg)) he f hf
    · rename_i q
      rw[he] at q;exact absurd rfl q
theorem eC (l m:List l5):bG (l++m)=if (bG l).e=0 then bG m else bG l:=by
  induction l with
  |nil=>simp[bG,bl]
  | cons f l ih=>
    simp only[List.cons_append,bG]
    by_cases h:f.e=0
    · simp only[h,if_true];exact ih
    · simp only[h,if_false]
theorem eK {α:Type} [Inhabited α] (g:α→l5) (l:List α) (i:Nat) (h:i<l.length):bG ((l.drop i).map g)=if (g (l.getD i default)).e=0 then bG ((l.drop (i+1)).map g) else g (l.getD i default):=by
 rw[List.drop_eq_getElem_cons h,List.map_cons,bG]
 simp[List.getD_eq_getElem?_getD,h]
def iB (s:ByteArray):List ByteArray→Option Nat
 | []=>none
 |t::l=>if t=s then some 0 else(iB s l).map (·+1)
theorem di {s:ByteArray}:∀{l:List ByteArray} {i:Nat},iB s l=some i→i<l.length∧l.getD i ⟨#[]⟩=s
  | [],i,h=>by cases h
  | t::l,i,h=>by
    unfold iB at h
    split at h
    · rename_i e;injection h with h;subst h;exact⟨by simp,e⟩
    · obtain⟨j,hj,rfl⟩:=Option.map_eq_some_iff.1 h
      have:=di hj
      exact⟨by simpa using this.1,by simpa using this.2⟩
theorem oY {s:ByteArray}:∀{l:List ByteArray},iB s l=none↔s∉l
  | []=>by simp[iB]
  | t::l=>by
    have ih:=oY (s:=s) (l:=l)
    unfold iB
    split
    · rename_i e;subst e;simp
    · rename_i e
      rw[Option.map_eq_none_iff,ih,List.mem_cons]
      constructor
      · rintro h (h2|h2)
        · exact e h2.symm
        · exact h h2
      · exact fun h h2=>h (.inr h2)
def sh (l:List ByteArray) (k:Nat):List (AV×AV):=(l.zipIdx k).map fun p=>(.str p.1,.int .i64 (p.2:Int))
theorem nJ:∀ (l:List ByteArray) (k:Nat),dJ .str (sh l k)=true:=fun l k=>by
 simp[dJ,sh,aH]
theorem nK (s:ByteArray):∀ (l:List ByteArray) (k:Nat),(sh l k).find? (fun e=>dv (.str s) e.1)=(iB s l).map fun i=>(AV.str s,AV.int .i64 ((k+i:Nat):Int))
  | [],k=>rfl
  | t::l,k=>by
    have ih:=nK s l (k+1)
    simp only[sh,List.zipIdx_cons,List.map_cons,List.find?_cons,dv,iB] at ih ⊢
    by_cases h:t=s
    · subst h;simp
    · have h2:¬s=t:=fun e=>h e.symm
      simp only[h,h2,decide_false,if_false]
      rw[ih,Option.map_map]
      congr 1
      funext i
      simp only[Function.comp]
      rw[show k+1+i=k+(i+1) by omega]
theorem sg (s:ByteArray):∀ (l:List ByteArray) (k:Nat),s∉l→dq (.str s) (.int .i64 ((k+l.length:Nat):Int)) (sh l k)=sh (l++[s]) k
  | [],k,_=>by simp[sh,dq]
  | t::l,k,h=>by
    have ih:=sg s l (k+1) (fun h2=>h (List.mem_cons_of_mem _ h2))
    have h1:dv (.str s) (AV.str t)=false:=decide_eq_false (fun e=>h (by rw[e];exact List.mem_cons_self))
    simp only[sh,List.zipIdx_cons,List.map_cons,List.cons_append,dq,h1,List.length_cons] at ih ⊢
    rw[show k+(l.length+1)=k+1+l.length by omega,ih]
    rfl
def fz (r:bX) (s:ByteArray):Option gB:=r.links.find? fun l=>decide (l.name=s)
def kq (r:bX) (s:ByteArray):Option jm:=r.nbrs.find? fun l=>decide (l.name=s)
theorem lE {α:Type} [Inhabited α] (q:α→Bool):∀ (l:List α) (k:Int),0≤k→(l.find? q=none∧(bE (fun(_:Unit) x=>(q x,())) () k l).1= -1)∨(∃i,i<l.length∧l.find? q=some (l.getD i default)∧(bE (fun(_:Unit) x=>(q x,())) () k l).1=k+(i:Int))
  | [],k,_=> .inl ⟨rfl,rfl⟩
  | x::l,k,hk=>by
    by_cases h:q x=true
    · refine .inr ⟨0,by simp,by simp[h],?_⟩
      simp only[bE,h,if_true];omega
    · have hf:(x::l).find? q=l.find? q:=by simp[h]
      have hi:(bE (fun(_:Unit) x=>(q x,())) () k (x::l)).1=(bE (fun(_:Unit) x=>(q x,())) () (k+1) l).1:=by simp only[bE];rw[if_neg (by simpa using h)]
      rcases lE q l (k+1) (by omega) with ⟨h1,h2⟩|⟨i,h1,h2,h3⟩
      · exact .inl ⟨by rw[hf,h1],by rw[hi,h2]⟩
      · exact .inr ⟨i+1,by simpa using h1,by rw[hf,h2];rfl,by rw[hi,h3];omega⟩
def ja (maps:List bS) (s:ByteArray):Bool:=decide (s=⟨#[]⟩)||maps.any fun m=>decide (m.name=s)
def qq (lists:List cC) (c:hJ):Bool:= !decide (c.m.list=⟨#[]⟩)&& !(lists.any fun l=>decide (l.name=c.m.list))
def eu (lists:List cC) (c:hJ):l5:=if qq lists c=true then⟨⟨#[]⟩,c.m.list,8⟩ else bl
def gH (lists:List cC) (m:bS):l5:=bG (m.l.map (eu lists))
def rk:bX:=⟨⟨#[]⟩,0,0,.nil,[],.nil,[],.nil,[]⟩
def bZ (rs:List bX) (r:bX) (s:ByteArray):bX×Int:=
 match iB s (rs.map (·.name)) with
 |none=>(rk,8)
 |some i=>if s=r.name then(rk,9) else(rs.getD i default,0)
def eP (maps:List bS) (rs:List bX) (r:bX) (x:jm):l5:=
 if (bZ rs r x.name).2≠0 then⟨r.name,x.name,(bZ rs r x.name).2⟩
 else if ja maps x.imp=false then⟨r.name,x.imp,8⟩
 else if ja maps x.exp=false then⟨r.name,x.exp,8⟩
 else if x.client=true∧(bZ rs r x.name).1.asn≠r.asn then⟨r.name,x.name,12⟩
 else if (kq (bZ rs r x.name).1 r.name).isSome=false then⟨r.name,x.name,10⟩ else bl
def xg (rs:List bX) (r:bX) (x:gB):Int:=
 if (bZ rs r x.name).2≠0 then(bZ rs r x.name).2
 else if (bZ rs r x.name).1.asn≠r.asn then 12
 else match fz (bZ rs r x.name).1 r.name with
  |none=>10
  |some y=>if y.cost=x.cost then 0 else 10
def dH (rs:List bX) (r:bX) (x:gB):l5:=if xg rs r x≠0 then⟨r.name,x.name,xg rs r x⟩ else bl
def dt (maps:List bS) (rs:List bX) (i:Nat):l5:=
 let r:=rs.getD i default
 if ((rs.take i).any fun x=>decide (x.id=r.id))=true then⟨r.name,r.name,6⟩
 else bG (r.nbrs.map (eP maps rs r)++r.links.map (dH rs r))
def iI (lists:List cC) (maps:List bS) (rs:List bX):l5:=bG (maps.map (gH lists)++(List.range rs.length).map (dt maps rs))
theorem vO (lists:List cC) (c:hJ):yC (eu lists c):=by
 unfold eu
 split
 ·exact .inr (by simp)
 ·exact .inl rfl
theorem iW (lists:List cC) (m:bS):yC (gH lists m):=jd fun f hf=>by
 obtain⟨c,_,rfl⟩:=List.mem_map.1 hf;exact vO _ _
theorem iV (maps:List bS) (rs:List bX) (r:bX) (x:jm):yC (eP maps rs r x):=by
 unfold eP
 split
 ·rename_i h;exact .inr h
 ·split
  ·exact .inr (by simp)
  ·split
   ·exact .inr (by simp)
   ·split
    ·exact .inr (by simp)
    ·split
     ·exact .inr (by simp)
     ·exact .inl rfl
theorem iX (rs:List bX) (r:bX) (x:gB):yC (dH rs r x):=by
 unfold dH
 split
 ·rename_i h;exact .inr h
 ·exact .inl rfl
theorem iS (maps:List bS) (rs:List bX) (i:Nat):yC (dt maps rs i):=by
 unfold dt
 simp only
 split
 ·exact .inr (by simp)
 ·refine jd fun f hf=>?_
  rcases List.mem_append.1 hf with hf|hf
  ·obtain⟨c,_,rfl⟩:=List.mem_map.1 hf;exact iV _ _ _ _
  ·obtain⟨c,_,rfl⟩:=List.mem_map.1 hf;exact iX _ _ _
theorem vP (lists:List cC) (maps:List bS) (rs:List bX):yC (iI lists maps rs):=jd fun f hf=>by
 rcases List.mem_append.1 hf with hf|hf
 ·obtain⟨c,_,rfl⟩:=List.mem_map.1 hf;exact iW _ _
 ·obtain⟨c,_,rfl⟩:=List.mem_map.1 hf;exact iS _ _ _
end Go.Proofs.YtgfjihpbphplhaaGreat

namespace Go.Proofs.YtgfjihpbphplhaaGreat
open Go.Kern Go.RowKit
theorem y8 (fi:Nat) (cs:List AV) (q:jm→Bool) (k:SK) (l:List jm) (hl:l.length<4611686018427387904) (hf:∀x:jm,x∈l→Pure Tryz.prog fi (aT x::cs) (.bool (q x))):
  Pure Tryz.prog 298 [.sl k (aj aT l),.fn fi cs] (.int .i64 (bE (fun(_:Unit) x=>(q x,())) () 0 l).1):=fun σ=>uC fi cs (fun _:Unit=>σ) (fun _ x=>(q x,())) k l hl (fun _ x hx=>hf x hx σ) ()
theorem y9 (fi:Nat) (cs:List AV) (q:gB→Bool) (k:SK) (l:List gB) (hl:l.length<4611686018427387904) (hf:∀x:gB,x∈l→Pure Tryz.prog fi (aW x::cs) (.bool (q x))):
  Pure Tryz.prog 130 [.sl k (aj aW l),.fn fi cs] (.int .i64 (bE (fun(_:Unit) x=>(q x,())) () 0 l).1):=fun σ=>uD fi cs (fun _:Unit=>σ) (fun _ x=>(q x,())) k l hl (fun _ x hx=>hf x hx σ) ()
theorem zF (fi:Nat) (cs:List AV) (q:bS→Bool) (k:SK) (l:List bS) (hl:l.length<4611686018427387904) (hf:∀x:bS,x∈l→Pure Tryz.prog fi (ba x::cs) (.bool (q x))):
  Pure Tryz.prog 160 [.sl k (aj ba l),.fn fi cs] (.bool (l.any q)):=fun σ=>by
 rw[←fj]
 exact uJ fi cs (fun _:Unit=>σ) (fun _ x=>(q x,())) k l hl (fun _ x hx=>hf x hx σ) ()
theorem zG (fi:Nat) (cs:List AV) (q:cC→Bool) (k:SK) (l:List cC) (hl:l.length<4611686018427387904) (hf:∀x:cC,x∈l→Pure Tryz.prog fi (bd x::cs) (.bool (q x))):
  Pure Tryz.prog 157 [.sl k (aj bd l),.fn fi cs] (.bool (l.any q)):=fun σ=>by
 rw[←fj]
 exact uK fi cs (fun _:Unit=>σ) (fun _ x=>(q x,())) k l hl (fun _ x hx=>hf x hx σ) ()
theorem zE (fi:Nat) (cs:List AV) (q:bX→Bool) (k:SK) (l:List bX) (hl:l.length<4611686018427387904) (hf:∀x:bX,x∈l→Pure Tryz.prog fi (aC x::cs) (.bool (q x))):
  Pure Tryz.prog 167 [.sl k (aj aC l),.fn fi cs] (.bool (l.any q)):=fun σ=>by
 rw[←fj]
 exact uI fi cs (fun _:Unit=>σ) (fun _ x=>(q x,())) k l hl (fun _ x hx=>hf x hx σ) ()
set_option maxRecDepth 100000
set_option maxHeartbeats 4000000
attribute [local irreducible] af W
theorem sZ (x:jm) (s:ByteArray):Pure Tryz.prog 301 [aT x,.ip (.str s) 0] (.bool (decide (x.name=s))):=by
 intro σ
 refine ah [.tmp 3] 8 Tryz.func301 (by rfl) rfl rfl rfl rfl ?_
 repeat' first|refine zw ?_|refine zy fun nu _ _=>?_|refine zc rfl (fun h=>?_) fun h=>?_|refine zi (fun h=>?_) fun h=>?_|exact .intro|fail
theorem tj (x:gB) (s:ByteArray):Pure Tryz.prog 131 [aW x,.ip (.str s) 0] (.bool (decide (x.name=s))):=by
 intro σ
 refine ah [.tmp 3] 8 Tryz.func131 (by rfl) rfl rfl rfl rfl ?_
 repeat' first|refine zw ?_|refine zy fun nu _ _=>?_|refine zc rfl (fun h=>?_) fun h=>?_|refine zi (fun h=>?_) fun h=>?_|exact .intro|fail
def wZ:jm:=⟨⟨#[]⟩,⟨#[]⟩,⟨#[]⟩,false⟩
def w4:gB:=⟨⟨#[]⟩,0⟩
def xq (o:Option jm):AV:= .bK [aT (o.getD wZ),.bool o.isSome]
def qi (o:Option gB):AV:= .bK [aW (o.getD w4),.bool o.isSome]
theorem oh (r:bX) (s:ByteArray) (hl:r.nbrs.length<4611686018427387904):Pure Tryz.prog 243 [aC r,.str s] (xq (kq r s)):=by
 intro σ
 have hx:=y8 301 [.ip (.str s) 0] (fun x=>decide (x.name=s)) r.kB r.nbrs hl (fun x _=>sZ x s)
 rcases lE (fun x:jm=>decide (x.name=s)) r.nbrs 0 (Int.le_refl _) with ⟨h1,h2⟩|⟨i,h1,h2,h3⟩
 ·rw[h2] at hx
  rw[kq,h1]
  refine ah [.cell 4 145,.tmp 5] 19 Tryz.func243 (by rfl) rfl rfl rfl rfl ?_
  repeat' first|refine zw ?_|refine zy fun nu _ _=>?_|refine zc rfl (fun h=>?_) fun h=>?_|refine zi (fun h=>?_) fun h=>?_|exact .intro|fail
  intro o ho
  replace ho:=eU.mk ho
  repeat' first|refine zh ?_|(refine al ?_;intro b hb)|refine zy fun nu _ _=>?_|refine zc rfl (fun h=>?_) fun h=>?_|refine zi (fun h=>?_) fun h=>?_|exact .intro|refine us (hx) ?_|fail
  exact⟨rfl,an ho.h⟩
 ·rw[h3] at hx
  rw[kq,h2]
  simp only[Int.zero_add] at hx
  refine ah [.cell 4 145,.tmp 5] 19 Tryz.func243 (by rfl) rfl rfl rfl rfl ?_
  repeat' first|refine zw ?_|refine zy fun nu _ _=>?_|refine zc rfl (fun h=>?_) fun h=>?_|refine zi (fun h=>?_) fun h=>?_|exact .intro|fail
  intro o ho
  replace ho:=eU.mk ho
  repeat' first|refine zh ?_|(refine al ?_;intro b hb)|refine zy fun nu _ _=>?_|refine zc rfl (fun h=>?_) fun h=>?_|refine zi (fun h=>?_) fun h=>?_|exact .intro|refine us (hx) ?_|fail
  exact⟨rfl,an ho.h⟩
theorem oV (r:bX) (s:ByteArray) (hl:r.links.length<4611686018427387904):Pure Tryz.prog 76 [aC r,.str s] (qi (fz r s)):=by
 intro σ
 have hx:=y9 131 [.ip (.str s) 0] (fun x=>decide (x.name=s)) r.kL r.links hl (fun x _=>tj x s)
 rcases lE (fun x:gB=>decide (x.name=s)) r.links 0 (Int.le_refl _) with ⟨h1,h2⟩|⟨i,h1,h2,h3⟩
 ·rw[h2] at hx
  rw[fz,h1]
  refine ah [.cell 4 68,.tmp 5] 19 Tryz.func76 (by rfl) rfl rfl rfl rfl ?_
  repeat' first|refine zw ?_|refine zy fun nu _ _=>?_|refine zc rfl (fun h=>?_) fun h=>?_|refine zi (fun h=>?_) fun h=>?_|exact .intro|fail
  intro o ho
  replace ho:=eU.mk ho
  repeat' first|refine zh ?_|(refine al ?_;intro b hb)|refine zy fun nu _ _=>?_|refine zc rfl (fun h=>?_) fun h=>?_|refine zi (fun h=>?_) fun h=>?_|exact .intro|refine us (hx) ?_|fail
  exact⟨rfl,an ho.h⟩
 ·rw[h3] at hx
  rw[fz,h2]
  simp only[Int.zero_add] at hx
  refine ah [.cell 4 68,.tmp 5] 19 Tryz.func76 (by rfl) rfl rfl rfl rfl ?_
  repeat' first|refine zw ?_|refine zy fun nu _ _=>?_|refine zc rfl (fun h=>?_) fun h=>?_|refine zi (fun h=>?_) fun h=>?_|exact .intro|fail
  intro o ho
  replace ho:=eU.mk ho
  repeat' first|refine zh ?_|(refine al ?_;intro b hb)|refine zy fun nu _ _=>?_|refine zc rfl (fun h=>?_) fun h=>?_|refine zi (fun h=>?_) fun h=>?_|exact .intro|refine us (hx) ?_|fail
  exact⟨rfl,an ho.h⟩
structure Nt where
 kL:SK
 lists:List cC
 kM:SK
 maps:List bS
 kR:SK
 rs:List bX
def cG (x:Nt) (at_ ps:AV):Ob:= .arr 127 [.agg [.sl x.kL (aj bd x.lists),.sl x.kM (aj ba x.maps),.sl x.kR (aj aC x.rs),at_,ps]]
structure Nt.Ck (x:Nt):Prop where
 lists:x.lists.length<1000000
 maps:x.maps.length<1000000
 rs:x.rs.length<1000000
 cls:∀m,m∈x.maps→m.l.length<1000000
 nbrs:∀r,r∈x.rs→r.nbrs.length<1000000
 links:∀r,r∈x.rs→r.links.length<1000000
theorem ta (x:bS) (s:ByteArray):Pure Tryz.prog 300 [ba x,.ip (.str s) 0] (.bool (decide (x.name=s))):=by
 intro σ
 refine ah [.tmp 3] 8 Tryz.func300 (by rfl) rfl rfl rfl rfl ?_
 repeat' first|refine zw ?_|refine zy fun nu _ _=>?_|refine zc rfl (fun h=>?_) fun h=>?_|refine zi (fun h=>?_) fun h=>?_|exact .intro|fail
theorem rM (x:Nt) (hx:x.Ck) (s:ByteArray) (no:Nat) (at_ ps:AV) (σ:aa) (hn:σ no=some (cG x at_ ps)):af Tryz.prog 242 [.ptr no 0 0,.str s] σ (fun r t=>r= .bool (ja x.maps s)∧t=σ):=by
 have hc:=zF 300 [.ip (.str s) 0] (fun m=>decide (m.name=s)) x.kM x.maps (by have:=hx.maps;omega) (fun m _=>ta m s)
 unfold cG at hn
 unfold ja
 by_cases h:s=⟨#[]⟩
 ·skip
  refine ah [.tmp 4] 16 Tryz.func242 (by rfl) rfl rfl rfl rfl ?_
  (have kX:=g9 @hn @h;repeat' first|refine zw ?_|refine zy fun nu _ _=>?_|refine zc rfl (fun h=>?_) fun h=>?_|refine zi (fun h=>?_) fun h=>?_|exact .intro|refine us (hc) ?_|fail);all_goals clear kX
  all_goals simp[h]
 ·skip
  refine ah [.tmp 4] 16 Tryz.func242 (by rfl) rfl rfl rfl rfl ?_
  (have kX:=g9 @hn @h;repeat' first|refine zw ?_|refine zy fun nu _ _=>?_|refine zc rfl (fun h=>?_) fun h=>?_|refine zi (fun h=>?_) fun h=>?_|exact .intro|refine us (hc) ?_|fail);all_goals clear kX
  all_goals simp[h]
theorem tf (x:cC) (s:ByteArray):Pure Tryz.prog 182 [bd x,.ip (.str s) 0] (.bool (decide (x.name=s))):=by
 intro σ
 refine ah [.tmp 3] 8 Tryz.func182 (by rfl) rfl rfl rfl rfl ?_
 repeat' first|refine zw ?_|refine zy fun nu _ _=>?_|refine zc rfl (fun h=>?_) fun h=>?_|refine zi (fun h=>?_) fun h=>?_|exact .intro|fail
end Go.Proofs.YtgfjihpbphplhaaGreat

namespace Go.Proofs.YtgfjihpbphplhaaGreat
open Go.Kern Go.RowKit
attribute [go_sem] fM
abbrev nk (f:l5):Ob:= .arr 51 [fM f]
set_option maxRecDepth 100000
set_option maxHeartbeats 4000000
attribute [local irreducible] af W
section
variable (x:Nt) (hx:x.Ck) (no mo:Nat) (ps:AV) (σ:aa) (hn:σ no=some (cG x (.map mo) ps)) (hm:σ mo=some (.map (sh (x.rs.map (·.name)) 0)))
include hx hn
theorem oj (m:bS) (hml:m.l.length<1000000):af Tryz.prog 125 [.ptr no 0 0,ba m] σ (fun r t=>r=fM (gH x.lists m)∧t=σ):=by
  unfold cG at hn
  refine ah [.cell 4 51] 34 Tryz.func125 (by rfl) rfl rfl rfl rfl ?_
  repeat' first|refine zw ?_|refine zy fun nu _ _=>?_|refine zc rfl (fun h=>?_) fun h=>?_|refine zi (fun h=>?_) fun h=>?_|exact .intro|fail
  intro o ho
  have kn:=aD hn ho
  replace ho:=eU.mk ho
  (have kX:=@kn;repeat' first|refine zh ?_|(refine al ?_;intro b hb)|refine zy fun nu _ _=>?_|refine zc rfl (fun h=>?_) fun h=>?_|refine zi (fun h=>?_) fun h=>?_|exact .intro|fail);all_goals clear kX
  refine ak (fun i:Nat=>[(0,.ptr no 0 0),(3,.ip (ba m) 0),(4,.ptr o 0 0),(9,.sl m.k (aj aM m.l)),(10,.int .i64 m.l.length),(11,.int .i64 i)]) (fun _=>σ.put o (nk bl)) (fun i=>i≤m.l.length∧gH x.lists m=bG ((m.l.drop i).map (eu x.lists))) (fun i=>m.l.length-i) 0 ⟨Nat.zero_le _,rfl⟩ (Env.ab (by simp[Env.Has,Env.get,Env.aG,ba,aC,aT,aW,aM,bd,aX,aS,bA,aY])) (aa.Sub.refl _) ?_
  rintro i ⟨hi,hor⟩
  by_cases hlt:i<m.l.length
  · have ho':=eK (eu x.lists) m.l i hlt
    obtain⟨c,hc⟩:∃c,m.l.getD i default=c:=⟨_,rfl⟩
    rw[hc] at ho'
    have hcon:=zG 182 [.ip (.str c.m.list) 0] (fun l=>decide (l.name=c.m.list)) x.kL x.lists (by have:=hx.lists;omega) (fun l _=>tf l c.m.list)
    obtain⟨b,hb⟩:∃b,(x.lists.any fun l=>decide (l.name=c.m.list))=b:=⟨_,rfl⟩
    rw[hb] at hcon
    have go:eu x.lists c=bl→gH x.lists m=bG ((m.l.drop (i+1)).map (eu x.lists)):=fun h=>by rw[hor,ho',h];rfl
    by_cases h1:c.m.list=⟨#[]⟩
    · have hz:eu x.lists c=bl:=by simp[eu,qq,h1]
      (have kX:=g8 @kn @hc @h1;repeat' first|refine zh ?_|(refine al ?_;intro b hb)|refine zy fun nu _ _=>?_|refine zc rfl (fun h=>?_) fun h=>?_|refine zi (fun h=>?_) fun h=>?_|exact .intro|fail);all_goals clear kX
      exact⟨i+1,by omega,⟨by omega,go hz⟩,(Env.ab (by simp[Env.Has,Env.get,Env.aG,ba,aC,aT,aW,aM,bd,aX,aS,bA,aY])),aa.Sub.refl _⟩
    · cases b with
      | true=>
        have hz:eu x.lists c=bl:=by simp[eu,qq,hb]
        (have kX:=g8 @kn @hc @h1;repeat' first|refine zh ?_|(refine al ?_;intro b hb)|refine zy fun nu _ _=>?_|refine zc rfl (fun h=>?_) fun h=>?_|refine zi (fun h=>?_) fun h=>?_|exact .intro|refine us (hcon) ?_|fail);all_goals clear kX
        exact⟨i+1,by omega,⟨by omega,go hz⟩,(Env.ab (by simp[Env.Has,Env.get,Env.aG,ba,aC,aT,aW,aM,bd,aX,aS,bA,aY])),aa.Sub.refl _⟩
      | false=>
        have hz:eu x.lists c=⟨⟨#[]⟩,c.m.list,8⟩:=by simp[eu,qq,hb,h1]
        rw[hor,ho',hz]
        (have kX:=g8 @kn @hc @h1;repeat' first|refine zh ?_|(refine al ?_;intro b hb)|refine zy fun nu _ _=>?_|refine zc rfl (fun h=>?_) fun h=>?_|refine zi (fun h=>?_) fun h=>?_|exact .intro|refine us (hcon) ?_|fail);all_goals clear kX
        exact⟨rfl,an ho.h⟩
  · have hi':i=m.l.length:=by omega
    subst hi'
    rw[hor,List.drop_length]
    (have kX:=@kn;repeat' first|refine zh ?_|(refine al ?_;intro b hb)|refine zy fun nu _ _=>?_|refine zc rfl (fun h=>?_) fun h=>?_|refine zi (fun h=>?_) fun h=>?_|exact .intro|fail);all_goals clear kX
    exact⟨rfl,an ho.h⟩
include hm
theorem mW (r:bX) (s:ByteArray):af Tryz.prog 241 [.ptr no 0 0,aC r,.str s] σ (fun v t=>v= .bK [aC (bZ x.rs r s).1,.int .i64 (bZ x.rs r s).2]∧t=σ):=by
  unfold cG at hn
  have hk:=nJ (x.rs.map (·.name)) 0
  have hf:=nK s (x.rs.map (·.name)) 0
  have zz:aC rk= .agg [.str ⟨#[]⟩,.int .i64 0,.int .i64 0,.sl .nil [],.sl .nil [],.sl .nil []]:=rfl
  cases hq:iB s (x.rs.map (·.name)) with
  | none=>
    have hv:bZ x.rs r s=(rk,8):=by unfold bZ;rw[hq]
    rw[hq] at hf
    simp only[Option.map_none] at hf
    rw[hv,zz]
    refine ah [.cell 6 66,.tmp 7] 37 Tryz.func241 (by rfl) rfl rfl rfl rfl ?_
    repeat' first|refine zw ?_|refine zy fun nu _ _=>?_|refine zc rfl (fun h=>?_) fun h=>?_|refine zi (fun h=>?_) fun h=>?_|exact .intro|fail
    intro o ho
    have kn:=aD hn ho
    have km:=aD hm ho
    replace ho:=eU.mk ho
    (have kX:=nO @kn @km @hk @hf;repeat' first|refine zh ?_|(refine al ?_;intro b hb)|refine zy fun nu _ _=>?_|refine zc rfl (fun h=>?_) fun h=>?_|refine zi (fun h=>?_) fun h=>?_|exact .intro|fail);all_goals clear kX
    (first|exact an ho.h|exact⟨rfl,an ho.h⟩|exact aa.Sub.refl _)
  | some i=>
    have hi:=(di hq).1
    rw[List.length_map] at hi
    rw[hq] at hf
    simp only[Option.map_some,Nat.zero_add] at hf
    have hrs:=hx.rs
    by_cases h1:s=r.name
    · have hv:bZ x.rs r s=(rk,9):=by unfold bZ;rw[hq];simp only[h1,if_true]
      rw[hv,zz]
      subst h1
      refine ah [.cell 6 66,.tmp 7] 37 Tryz.func241 (by rfl) rfl rfl rfl rfl ?_
      repeat' first|refine zw ?_|refine zy fun nu _ _=>?_|refine zc rfl (fun h=>?_) fun h=>?_|refine zi (fun h=>?_) fun h=>?_|exact .intro|fail
      intro o ho
      have kn:=aD hn ho
      have km:=aD hm ho
      replace ho:=eU.mk ho
      (have kX:=nO @kn @km @hk @hf;repeat' first|refine zh ?_|(refine al ?_;intro b hb)|refine zy fun nu _ _=>?_|refine zc rfl (fun h=>?_) fun h=>?_|refine zi (fun h=>?_) fun h=>?_|exact .intro|fail);all_goals clear kX
      (first|exact an ho.h|exact⟨rfl,an ho.h⟩|exact aa.Sub.refl _)
    · have hv:bZ x.rs r s=(x.rs.getD i default,0):=by unfold bZ;rw[hq];simp only[h1,if_false]
      rw[hv]
      refine ah [.cell 6 66,.tmp 7] 37 Tryz.func241 (by rfl) rfl rfl rfl rfl ?_
      repeat' first|refine zw ?_|refine zy fun nu _ _=>?_|refine zc rfl (fun h=>?_) fun h=>?_|refine zi (fun h=>?_) fun h=>?_|exact .intro|fail
      intro o ho
      have kn:=aD hn ho
      have km:=aD hm ho
      replace ho:=eU.mk ho
      (have kX:=uS @kn @km @hk @hf @h1;repeat' first|refine zh ?_|(refine al ?_;intro b hb)|refine zy fun nu _ _=>?_|refine zc rfl (fun h=>?_) fun h=>?_|refine zi (fun h=>?_) fun h=>?_|exact .intro|fail);all_goals clear kX
      (first|exact an ho.h|exact⟨rfl,an ho.h⟩|exact aa.Sub.refl _)
theorem oi (r:bX) (y:jm):af Tryz.prog 184 [.ptr no 0 0,aC r,aT y] σ (fun v t=>v=fM (eP x.maps x.rs r y)∧t=σ):=by
  have ho1:=fun τ h1 h2=>mW x hx no mo ps τ h1 h2 r y.name
  have hm1:=fun s τ h1=>rM x hx s no (.map mo) ps τ h1
  obtain⟨o1,e1,hoe⟩:∃o1 e1,bZ x.rs r y.name=(o1,e1):=⟨_,_,rfl⟩
  have hmem:e1=0→o1∈x.rs:=fun h0=>by
    unfold bZ at hoe
    split at hoe
    · injection hoe with _ q;rw[h0] at q;cases q
    · split at hoe
      · injection hoe with _ q;rw[h0] at q;cases q
      · rename_i i hq _
        have:=(di hq).1
        rw[List.length_map] at this
        injection hoe with q _
        rw[←q,List.getD_eq_getElem?_getD,List.getElem?_eq_getElem this]
        exact List.getElem_mem this
  have hnb:=fun(h0:e1=0)=>oh o1 r.name (by have:=hx.nbrs o1 (hmem h0);omega)
  simp only[hoe] at ho1
  have hfb:xq (kq o1 r.name)= .bK [aT ((kq o1 r.name).getD wZ),.bool (kq o1 r.name).isSome]:=rfl
  rw[hfb] at hnb
  obtain⟨b0,hb0⟩:∃b,(kq o1 r.name).isSome=b:=⟨_,rfl⟩
  obtain⟨q0,hq0⟩:∃q,(kq o1 r.name).getD wZ=q:=⟨_,rfl⟩
  rw[hb0,hq0] at hnb
  obtain⟨b1,hb1⟩:∃b,ja x.maps y.imp=b:=⟨_,rfl⟩
  obtain⟨b2,hb2⟩:∃b,ja x.maps y.exp=b:=⟨_,rfl⟩
  have hm2:=hm1 y.imp
  have hm3:=hm1 y.exp
  rw[hb1] at hm2
  rw[hb2] at hm3
  obtain⟨F,hF⟩:∃F,eP x.maps x.rs r y=F:=⟨_,rfl⟩
  have hFF:=hF
  unfold eP at hF
  rw[hoe,hb0,hb1,hb2] at hF
  simp only at hF
  rw[hFF]
  refine ah [.cell 6 51] 77 Tryz.func184 (by rfl) rfl rfl rfl rfl ?_
  repeat' first|refine zw ?_|refine zy fun nu _ _=>?_|refine zc rfl (fun h=>?_) fun h=>?_|refine zi (fun h=>?_) fun h=>?_|exact .intro|fail
  intro o ho
  have kn:=aD hn ho
  have km:=aD hm ho
  replace ho:=eU.mk ho
  by_cases h0:e1=0
  · subst h0
    have hnb:=hnb rfl
    rw[if_neg (by simp)] at hF
    have gg0:([.str y.imp,.str y.exp]:List AV).getD 0 .any= .str y.imp:=rfl
    have gg1:([.str y.imp,.str y.exp]:List AV).getD 1 .any= .str y.exp:=rfl
    repeat' first|refine zh ?_|(refine al ?_;intro b hb)|refine zy fun nu _ _=>?_|refine zc rfl (fun h=>?_) fun h=>?_|refine zi (fun h=>?_) fun h=>?_|exact .intro|refine uw (ho1 _ (kn _) (km _)) ?_|fail
    refine ak (fun i:Nat=>[(0,.ptr no 0 0),(4,.ip (aC r) 0),(5,.ip (aT y) 0),(6,.ptr o 0 0),(7,.ip (aC o1) 0),(8,.int .i64 0),(33,.sl .full [.str y.imp,.str y.exp]),(34,.int .i64 2),(35,.int .i64 i)]) (fun _=>σ.put o (nk bl)) (fun i=>i≤2∧(0<i→b1=true)∧(1<i→b2=true)) (fun i=>2-i) 0 ⟨by omega,by omega,by omega⟩ (Env.ab (by simp[Env.Has,Env.get,Env.aG,ba,aC,aT,aW,aM,bd,aX,aS,bA,aY])) (aa.Sub.refl _) ?_
    rintro i ⟨hi,hi1,hi2⟩
    match i,hi with
    | 0,_=>
      cases b1 with
      | false=>
        rw[if_pos rfl] at hF
        subst hF
        (have kX:=@gg0;repeat' first|refine zh ?_|(refine al ?_;intro b hb)|refine zy fun nu _ _=>?_|refine zc rfl (fun h=>?_) fun h=>?_|refine zi (fun h=>?_) fun h=>?_|exact .intro|refine uw (hm2 _ (kn _)) ?_|fail);all_goals clear kX
        (first|exact an ho.h|exact⟨rfl,an ho.h⟩|exact aa.Sub.refl _)
      | true=>
        (have kX:=@gg0;repeat' first|refine zh ?_|(refine al ?_;intro b hb)|refine zy fun nu _ _=>?_|refine zc rfl (fun h=>?_) fun h=>?_|refine zi (fun h=>?_) fun h=>?_|exact .intro|refine uw (hm2 _ (kn _)) ?_|fail);all_goals clear kX
        exact⟨1,by omega,⟨by omega,fun _=>rfl,by omega⟩,(Env.ab (by simp[Env.Has,Env.get,Env.aG,ba,aC,aT,aW,aM,bd,aX,aS,bA,aY])),aa.Sub.refl _⟩
    | 1,_=>
      have hb1t:=hi1 (by omega)
      subst hb1t
      rw[if_neg (by simp)] at hF
      cases b2 with
      | false=>
        rw[if_pos rfl] at hF
        subst hF
        (have kX:=@gg1;repeat' first|refine zh ?_|(refine al ?_;intro b hb)|refine zy fun nu _ _=>?_|refine zc rfl (fun h=>?_) fun h=>?_|refine zi (fun h=>?_) fun h=>?_|exact .intro|refine uw (hm3 _ (kn _)) ?_|fail);all_goals clear kX
        (first|exact an ho.h|exact⟨rfl,an ho.h⟩|exact aa.Sub.refl _)
      | true=>
        (have kX:=@gg1;repeat' first|refine zh ?_|(refine al ?_;intro b hb)|refine zy fun nu _ _=>?_|refine zc rfl (fun h=>?_) fun h=>?_|refine zi (fun h=>?_) fun h=>?_|exact .intro|refine uw (hm3 _ (kn _)) ?_|fail);all_goals clear kX
        exact⟨2,by omega,⟨by omega,fun _=>rfl,fun _=>rfl⟩,(Env.ab (by simp[Env.Has,Env.get,Env.aG,ba,aC,aT,aW,aM,bd,aX,aS,bA,aY])),aa.Sub.refl _⟩
    | 2,_=>
      have hb1t:=hi1 (by omega)
      have hb2t:=hi2 (by omega)
      subst hb1t
      subst hb2t
      rw[if_neg (by simp),if_neg (by simp)] at hF
      cases hcl:y.client with
      | false=>
        rw[hcl,if_neg (by simp)] at hF
        cases b0 with
        | false=>
          rw[if_pos rfl] at hF
          subst hF
          (have kX:=@hcl;repeat' first|refine zh ?_|(refine al ?_;intro b hb)|refine zy fun nu _ _=>?_|refine zc rfl (fun h=>?_) fun h=>?_|refine zi (fun h=>?_) fun h=>?_|exact .intro|refine us (hnb) ?_|fail);all_goals clear kX
          (first|exact an ho.h|exact⟨rfl,an ho.h⟩|exact aa.Sub.refl _)
        | true=>
          rw[if_neg (by simp)] at hF
          subst hF
          (have kX:=@hcl;repeat' first|refine zh ?_|(refine al ?_;intro b hb)|refine zy fun nu _ _=>?_|refine zc rfl (fun h=>?_) fun h=>?_|refine zi (fun h=>?_) fun h=>?_|exact .intro|refine us (hnb) ?_|fail);all_goals clear kX
          (first|exact an ho.h|exact⟨rfl,an ho.h⟩|exact aa.Sub.refl _)
      | true=>
        rw[hcl] at hF
        by_cases ha:o1.asn=r.asn
        · rw[if_neg (by simp[ha])] at hF
          cases b0 with
          | false=>
            rw[if_pos rfl] at hF
            subst hF
            (have kX:=@hcl;repeat' first|refine zh ?_|(refine al ?_;intro b hb)|refine zy fun nu _ _=>?_|refine zc rfl (fun h=>?_) fun h=>?_|refine zi (fun h=>?_) fun h=>?_|exact .intro|refine us (hnb) ?_|fail);all_goals clear kX
            (first|exact an ho.h|exact⟨rfl,an ho.h⟩|exact aa.Sub.refl _)
          | true=>
            rw[if_neg (by simp)] at hF
            subst hF
            (have kX:=@hcl;repeat' first|refine zh ?_|(refine al ?_;intro b hb)|refine zy fun nu _ _=>?_|refine zc rfl (fun h=>?_) fun h=>?_|refine zi (fun h=>?_) fun h=>?_|exact .intro|refine us (hnb) ?_|fail);all_goals clear kX
            (first|exact an ho.h|exact⟨rfl,an ho.h⟩|exact aa.Sub.refl _)
        · rw[if_pos ⟨rfl,ha⟩] at hF
          subst hF
          (have kX:=@hcl;repeat' first|refine zh ?_|(refine al ?_;intro b hb)|refine zy fun nu _ _=>?_|refine zc rfl (fun h=>?_) fun h=>?_|refine zi (fun h=>?_) fun h=>?_|exact .intro|refine us (hnb) ?_|fail);all_goals clear kX
          (first|exact an ho.h|exact⟨rfl,an ho.h⟩|exact aa.Sub.refl _)
  · rw[if_pos h0] at hF
    subst hF
    (have kX:=@h0;repeat' first|refine zh ?_|(refine al ?_;intro b hb)|refine zy fun nu _ _=>?_|refine zc rfl (fun h=>?_) fun h=>?_|refine zi (fun h=>?_) fun h=>?_|exact .intro|refine uw (ho1 _ (kn _) (km _)) ?_|fail);all_goals clear kX
    (first|exact an ho.h|exact⟨rfl,an ho.h⟩|exact aa.Sub.refl _)
theorem oq (r:bX) (y:gB):af Tryz.prog 185 [.ptr no 0 0,aC r,aW y] σ (fun v t=>v=fM (dH x.rs r y)∧t=σ):=by
  have ho1:=fun τ h1 h2=>mW x hx no mo ps τ h1 h2 r y.name
  obtain⟨o1,e1,hoe⟩:∃o1 e1,bZ x.rs r y.name=(o1,e1):=⟨_,_,rfl⟩
  have hmem:o1.links.length<4611686018427387904:=by
    unfold bZ at hoe
    split at hoe
    · injection hoe with q _;rw[←q];decide
    · split at hoe
      · injection hoe with q _;rw[←q];decide
      · rename_i i hq _
        have:=(di hq).1
        rw[List.length_map] at this
        injection hoe with q _
        have hm:o1∈x.rs:=by
          rw[←q,List.getD_eq_getElem?_getD,List.getElem?_eq_getElem this]
          exact List.getElem_mem this
        have:=hx.links o1 hm
        omega
  have hnb:=oV o1 r.name hmem
  simp only[hoe] at ho1
  obtain⟨F,hF⟩:∃F,dH x.rs r y=F:=⟨_,rfl⟩
  have hFF:=hF
  unfold dH xg at hF
  rw[hoe] at hF
  simp only at hF
  rw[hFF]
  refine ah [.cell 6 51] 57 Tryz.func185 (by rfl) rfl rfl rfl rfl ?_
  repeat' first|refine zw ?_|refine zy fun nu _ _=>?_|refine zc rfl (fun h=>?_) fun h=>?_|refine zi (fun h=>?_) fun h=>?_|exact .intro|fail
  intro o ho
  have kn:=aD hn ho
  have km:=aD hm ho
  replace ho:=eU.mk ho
  cases hl:fz o1 r.name with
  | none=>
    rw[hl] at hnb hF
    have hfb:qi none= .bK [.agg [.str ⟨#[]⟩,.int .i64 0],.bool false]:=rfl
    rw[hfb] at hnb
    by_cases h0:e1=0
    · by_cases h1:o1.asn=r.asn
      · simp only[h0,h1,ne_eq,not_true_eq_false,if_false,if_true] at hF
        rw[if_pos (by decide)] at hF
        subst hF
        (have kX:=@h0;repeat' first|refine zh ?_|(refine al ?_;intro b hb)|refine zy fun nu _ _=>?_|refine zc rfl (fun h=>?_) fun h=>?_|refine zi (fun h=>?_) fun h=>?_|exact .intro|refine uw (ho1 _ (kn _) (km _)) ?_|refine us (hnb) ?_|fail);all_goals clear kX
        (first|exact an ho.h|exact⟨rfl,an ho.h⟩|exact aa.Sub.refl _)
      · simp only[h0,h1,ne_eq,not_true_eq_false,not_false_eq_true,if_false,if_true] at hF
        rw[if_pos (by decide)] at hF
        subst hF
        (have kX:=@h0;repeat' first|refine zh ?_|(refine al ?_;intro b hb)|refine zy fun nu _ _=>?_|refine zc rfl (fun h=>?_) fun h=>?_|refine zi (fun h=>?_) fun h=>?_|exact .intro|refine uw (ho1 _ (kn _) (km _)) ?_|refine us (hnb) ?_|fail);all_goals clear kX
        (first|exact an ho.h|exact⟨rfl,an ho.h⟩|exact aa.Sub.refl _)
    · simp only[h0,ne_eq,not_false_eq_true,if_true] at hF
      subst hF
      (have kX:=@h0;repeat' first|refine zh ?_|(refine al ?_;intro b hb)|refine zy fun nu _ _=>?_|refine zc rfl (fun h=>?_) fun h=>?_|refine zi (fun h=>?_) fun h=>?_|exact .intro|refine uw (ho1 _ (kn _) (km _)) ?_|refine us (hnb) ?_|fail);all_goals clear kX
      (first|exact an ho.h|exact⟨rfl,an ho.h⟩|exact aa.Sub.refl _)
  | some z=>
    rw[hl] at hnb hF
    have hfb:qi (some z)= .bK [aW z,.bool true]:=rfl
    rw[hfb] at hnb
    by_cases h0:e1=0
    · by_cases h1:o1.asn=r.asn
      · by_cases h2:z.cost=y.cost
        · simp only[h0,h1,h2,ne_eq,not_true_eq_false,if_false,if_true] at hF
          subst hF
          (have kX:=@h0;repeat' first|refine zh ?_|(refine al ?_;intro b hb)|refine zy fun nu _ _=>?_|refine zc rfl (fun h=>?_) fun h=>?_|refine zi (fun h=>?_) fun h=>?_|exact .intro|refine uw (ho1 _ (kn _) (km _)) ?_|refine us (hnb) ?_|fail);all_goals clear kX
          (first|exact an ho.h|exact⟨rfl,an ho.h⟩|exact aa.Sub.refl _)
        · simp only[h0,h1,h2,ne_eq,not_true_eq_false,if_false,if_true] at hF
          rw[if_pos (by decide)] at hF
          subst hF
          (have kX:=@h0;repeat' first|refine zh ?_|(refine al ?_;intro b hb)|refine zy fun nu _ _=>?_|refine zc rfl (fun h=>?_) fun h=>?_|refine zi (fun h=>?_) fun h=>?_|exact .intro|refine uw (ho1 _ (kn _) (km _)) ?_|refine us (hnb) ?_|fail);all_goals clear kX
          (first|exact an ho.h|exact⟨rfl,an ho.h⟩|exact aa.Sub.refl _)
      · simp only[h0,h1,ne_eq,not_true_eq_false,not_false_eq_true,if_false,if_true] at hF
        rw[if_pos (by decide)] at hF
        subst hF
        (have kX:=@h0;repeat' first|refine zh ?_|(refine al ?_;intro b hb)|refine zy fun nu _ _=>?_|refine zc rfl (fun h=>?_) fun h=>?_|refine zi (fun h=>?_) fun h=>?_|exact .intro|refine uw (ho1 _ (kn _) (km _)) ?_|refine us (hnb) ?_|fail);all_goals clear kX
        (first|exact an ho.h|exact⟨rfl,an ho.h⟩|exact aa.Sub.refl _)
    · simp only[h0,ne_eq,not_false_eq_true,if_true] at hF
      subst hF
      (have kX:=@h0;repeat' first|refine zh ?_|(refine al ?_;intro b hb)|refine zy fun nu _ _=>?_|refine zc rfl (fun h=>?_) fun h=>?_|refine zi (fun h=>?_) fun h=>?_|exact .intro|refine uw (ho1 _ (kn _) (km _)) ?_|refine us (hnb) ?_|fail);all_goals clear kX
      (first|exact an ho.h|exact⟨rfl,an ho.h⟩|exact aa.Sub.refl _)
end
theorem vz (y r:bX):Pure Tryz.prog 183 [aC y,.ip (aC r) 0] (.bool (decide (y.id=r.id))):=by
 intro σ
 refine ah [.tmp 3] 9 Tryz.func183 (by rfl) rfl rfl rfl rfl ?_
 repeat' first|refine zw ?_|refine zy fun nu _ _=>?_|refine zc rfl (fun h=>?_) fun h=>?_|refine zi (fun h=>?_) fun h=>?_|exact .intro|fail
end Go.Proofs.YtgfjihpbphplhaaGreat

namespace Go.Proofs.YtgfjihpbphplhaaGreat
open Go.Kern Go.RowKit
theorem yX:bl.r=⟨#[]⟩:=rfl
theorem yY:bl.n=⟨#[]⟩:=rfl
theorem kg:bl.e=0:=rfl
attribute [go_sem] yX yY kg
set_option maxRecDepth 100000
set_option maxHeartbeats 4000000
attribute [local irreducible] af W
section
variable (x:Nt) (hx:x.Ck) (no mo:Nat) (ps:AV) (σ:aa) (hn:σ no=some (cG x (.map mo) ps)) (hm:σ mo=some (.map (sh (x.rs.map (·.name)) 0)))
include hx hn hm
theorem nZ (i:Nat) (hi:i<x.rs.length):af Tryz.prog 126 [.ptr no 0 0,.int .i64 i] σ (fun v t=>v=fM (dt x.maps x.rs i)∧t=σ):=by
  obtain⟨r,hr⟩:∃r,x.rs.getD i default=r:=⟨_,rfl⟩
  have hrm:r∈x.rs:=by
    rw[←hr,List.getD_eq_getElem?_getD,List.getElem?_eq_getElem hi]
    exact List.getElem_mem hi
  have hN:=hx.nbrs r hrm
  have hL:=hx.links r hrm
  have hR:=hx.rs
  have fn:=fun y τ h1 h2=>oi x hx no mo ps τ h1 h2 r y
  have fl:=fun y τ h1 h2=>oq x hx no mo ps τ h1 h2 r y
  have hcon:=zE 183 [.ip (aC r) 0] (fun y=>decide (y.id=r.id)) x.kR.cut (x.rs.take i) (by rw[List.length_take];omega) (fun y _=>vz y r)
  obtain⟨b0,hb0⟩:∃b,((x.rs.take i).any fun y=>decide (y.id=r.id))=b:=⟨_,rfl⟩
  rw[hb0] at hcon
  have hrow:aO 6 (aj aC x.rs)=true:=cW 6 aC (fun _=>rfl) x.rs
  obtain⟨F,hF⟩:∃F,dt x.maps x.rs i=F:=⟨_,rfl⟩
  rw[hF]
  unfold dt at hF
  rw[hr] at hF
  simp only[hb0] at hF
  have hnu:=hn
  unfold cG at hnu
  refine ah [.cell 4 51] 67 Tryz.func126 (by rfl) rfl rfl rfl rfl ?_
  repeat' first|refine zw ?_|refine zy fun nu _ _=>?_|refine zc rfl (fun h=>?_) fun h=>?_|refine zi (fun h=>?_) fun h=>?_|exact .intro|fail
  intro o ho
  have kn:=aD hn ho
  have km:=aD hm ho
  have ku:=aD hnu ho
  replace ho:=eU.mk ho
  cases b0 with
  | true=>
    rw[if_pos rfl] at hF
    subst hF
    (have kX:=nO @ku @hr @lk @hrow;repeat' first|refine zh ?_|(refine al ?_;intro b hb)|refine zy fun nu _ _=>?_|refine zc rfl (fun h=>?_) fun h=>?_|refine zi (fun h=>?_) fun h=>?_|exact .intro|refine us (hcon) ?_|fail);all_goals clear kX
    (first|exact an ho.h|exact⟨rfl,an ho.h⟩|exact aa.Sub.refl _)
  | false=>
    rw[if_neg (by simp)] at hF
    (have kX:=nO @ku @hr @lk @hrow;repeat' first|refine zh ?_|(refine al ?_;intro b hb)|refine zy fun nu _ _=>?_|refine zc rfl (fun h=>?_) fun h=>?_|refine zi (fun h=>?_) fun h=>?_|exact .intro|refine us (hcon) ?_|fail);all_goals clear kX
    refine ak (fun j:Nat=>[(0,.ptr no 0 0),(1,.int .i64 i),(4,.ptr o 0 0),(5,.ip (aC r) 0),(35,.sl r.kB (aj aT r.nbrs)),(36,.int .i64 r.nbrs.length),(37,.int .i64 j)]) (fun _=>σ.put o (nk bl)) (fun j=>j≤r.nbrs.length∧F=bG ((r.nbrs.drop j).map (eP x.maps x.rs r)++r.links.map (dH x.rs r))) (fun j=>r.nbrs.length-j) 0 ⟨Nat.zero_le _,hF.symm⟩ (Env.ab (by simp[Env.Has,Env.get,Env.aG,ba,aC,aT,aW,aM,bd,aX,aS,bA,aY])) (aa.Sub.refl _) ?_
    rintro j ⟨hj,hoj⟩
    by_cases hlt:j<r.nbrs.length
    · obtain⟨y,hy⟩:∃y,r.nbrs.getD j default=y:=⟨_,rfl⟩
      have fy:=fn y
      have fok:=iV x.maps x.rs r y
      obtain⟨G,hG⟩:∃G,eP x.maps x.rs r y=G:=⟨_,rfl⟩
      have hstep:F=if G.e=0 then bG ((r.nbrs.drop (j+1)).map (eP x.maps x.rs r)++r.links.map (dH x.rs r)) else G:=by
        rw[hoj,eC,eK (eP x.maps x.rs r) r.nbrs j hlt,hy,hG,eC]
        by_cases hz:G.e=0
        · simp only[hz,if_true]
        · simp only[hz,if_false]
      rw[hG] at fy fok
      rcases fok with rfl|hz
      · rw[if_pos kg] at hstep
        (have kX:=@hy;repeat' first|refine zh ?_|(refine al ?_;intro b hb)|refine zy fun nu _ _=>?_|refine zc rfl (fun h=>?_) fun h=>?_|refine zi (fun h=>?_) fun h=>?_|exact .intro|refine uw (fy _ (kn _) (km _)) ?_|fail);all_goals clear kX
        exact⟨j+1,by omega,⟨by omega,hstep⟩,(Env.ab (by simp[Env.Has,Env.get,Env.aG,ba,aC,aT,aW,aM,bd,aX,aS,bA,aY])),aa.Sub.refl _⟩
      · rw[if_neg hz] at hstep
        subst hstep
        (have kX:=@hy;repeat' first|refine zh ?_|(refine al ?_;intro b hb)|refine zy fun nu _ _=>?_|refine zc rfl (fun h=>?_) fun h=>?_|refine zi (fun h=>?_) fun h=>?_|exact .intro|refine uw (fy _ (kn _) (km _)) ?_|fail);all_goals clear kX
        (first|exact an ho.h|exact⟨rfl,an ho.h⟩|exact aa.Sub.refl _)
    · have hj':j=r.nbrs.length:=by omega
      subst hj'
      rw[List.drop_length,List.map_nil,List.nil_append] at hoj
      clear hF
      have hF:=hoj
      clear hoj
      repeat' first|refine zh ?_|(refine al ?_;intro b hb)|refine zy fun nu _ _=>?_|refine zc rfl (fun h=>?_) fun h=>?_|refine zi (fun h=>?_) fun h=>?_|exact .intro|fail
      refine ak (fun j:Nat=>[(0,.ptr no 0 0),(1,.int .i64 i),(4,.ptr o 0 0),(5,.ip (aC r) 0),(51,.sl r.kL (aj aW r.links)),(52,.int .i64 r.links.length),(53,.int .i64 j)]) (fun _=>σ.put o (nk bl)) (fun j=>j≤r.links.length∧F=bG ((r.links.drop j).map (dH x.rs r))) (fun j=>r.links.length-j) 0 ⟨Nat.zero_le _,hF⟩ (Env.ab (by simp[Env.Has,Env.get,Env.aG,ba,aC,aT,aW,aM,bd,aX,aS,bA,aY])) (aa.Sub.refl _) ?_
      rintro j ⟨hj,hoj⟩
      by_cases hlt:j<r.links.length
      · obtain⟨y,hy⟩:∃y,r.links.getD j default=y:=⟨_,rfl⟩
        have fy:=fl y
        have fok:=iX x.rs r y
        obtain⟨G,hG⟩:∃G,dH x.rs r y=G:=⟨_,rfl⟩
        have hstep:F=if G.e=0 then bG ((r.links.drop (j+1)).map (dH x.rs r)) else G:=by
          rw[hoj,eK (dH x.rs r) r.links j hlt,hy,hG]
        rw[hG] at fy fok
        rcases fok with rfl|hz
        · rw[if_pos kg] at hstep
          (have kX:=@hy;repeat' first|refine zh ?_|(refine al ?_;intro b hb)|refine zy fun nu _ _=>?_|refine zc rfl (fun h=>?_) fun h=>?_|refine zi (fun h=>?_) fun h=>?_|exact .intro|refine uw (fy _ (kn _) (km _)) ?_|fail);all_goals clear kX
          exact⟨j+1,by omega,⟨by omega,hstep⟩,(Env.ab (by simp[Env.Has,Env.get,Env.aG,ba,aC,aT,aW,aM,bd,aX,aS,bA,aY])),aa.Sub.refl _⟩
        · rw[if_neg hz] at hstep
          subst hstep
          (have kX:=@hy;repeat' first|refine zh ?_|(refine al ?_;intro b hb)|refine zy fun nu _ _=>?_|refine zc rfl (fun h=>?_) fun h=>?_|refine zi (fun h=>?_) fun h=>?_|exact .intro|refine uw (fy _ (kn _) (km _)) ?_|fail);all_goals clear kX
          (first|exact an ho.h|exact⟨rfl,an ho.h⟩|exact aa.Sub.refl _)
      · have hj':j=r.links.length:=by omega
        subst hj'
        rw[List.drop_length,List.map_nil] at hoj
        subst hoj
        repeat' first|refine zh ?_|(refine al ?_;intro b hb)|refine zy fun nu _ _=>?_|refine zc rfl (fun h=>?_) fun h=>?_|refine zi (fun h=>?_) fun h=>?_|exact .intro|fail
        (first|exact an ho.h|exact⟨rfl,an ho.h⟩|exact aa.Sub.refl _)
theorem tI:af Tryz.prog 71 [.ptr no 0 0] σ (fun v t=>v=fM (iI x.lists x.maps x.rs)∧t=σ):=by
 have hM:=hx.maps
 have hR:=hx.rs
 have fm:=fun m h τ h1=>oj x hx no mo ps τ h1 m h
 have fr:=fun i hi τ h1 h2=>nZ x hx no mo ps τ h1 h2 i hi
 obtain⟨F,hF⟩:∃F,iI x.lists x.maps x.rs=F:=⟨_,rfl⟩
 rw[hF]
 unfold iI at hF
 have hnu:=hn
 unfold cG at hnu
 refine ah [.cell 2 51] 44 Tryz.func71 (by rfl) rfl rfl rfl rfl ?_
 repeat' first|refine zw ?_|refine zy fun nu _ _=>?_|refine zc rfl (fun h=>?_) fun h=>?_|refine zi (fun h=>?_) fun h=>?_|exact .intro|fail
 intro o ho
 have kn:=aD hn ho
 have km:=aD hm ho
 have ku:=aD hnu ho
 replace ho:=eU.mk ho
 (have kX:=@ku;repeat' first|refine zh ?_|(refine al ?_;intro b hb)|refine zy fun nu _ _=>?_|refine zc rfl (fun h=>?_) fun h=>?_|refine zi (fun h=>?_) fun h=>?_|exact .intro|fail);all_goals clear kX
 refine ak (fun j:Nat=>[(0,.ptr no 0 0),(2,.ptr o 0 0),(12,.sl x.kM (aj ba x.maps)),(13,.int .i64 x.maps.length),(14,.int .i64 j)]) (fun _=>σ.put o (nk bl)) (fun j=>j≤x.maps.length∧F=bG ((x.maps.drop j).map (gH x.lists)++(List.range x.rs.length).map (dt x.maps x.rs))) (fun j=>x.maps.length-j) 0 ⟨Nat.zero_le _,hF.symm⟩ (Env.ab (by simp[Env.Has,Env.get,Env.aG,ba,aC,aT,aW,aM,bd,aX,aS,bA,aY])) (aa.Sub.refl _) ?_
 rintro j ⟨hj,hoj⟩
 by_cases hlt:j<x.maps.length
 ·obtain⟨y,hy⟩:∃y,x.maps.getD j default=y:=⟨_,rfl⟩
  have hym:y∈x.maps:=by
   rw[←hy,List.getD_eq_getElem?_getD,List.getElem?_eq_getElem hlt]
   exact List.getElem_mem hlt
  have fy:=fm y (hx.cls y hym)
  have fok:=iW x.lists y
  obtain⟨G,hG⟩:∃G,gH x.lists y=G:=⟨_,rfl⟩
  have hstep:F=if G.e=0 then bG ((x.maps.drop (j+1)).map (gH x.lists)++(List.range x.rs.length).map (dt x.maps x.rs)) else G:=by
   rw[hoj,eC,eK (gH x.lists) x.maps j hlt,hy,hG,eC]
   by_cases hz:G.e=0
   ·simp only[hz,if_true]
   ·simp only[hz,if_false]
  rw[hG] at fy fok
  rcases fok with rfl|hz
  ·rw[if_pos kg] at hstep
   (have kX:=@hy;repeat' first|refine zh ?_|(refine al ?_;intro b hb)|refine zy fun nu _ _=>?_|refine zc rfl (fun h=>?_) fun h=>?_|refine zi (fun h=>?_) fun h=>?_|exact .intro|refine uw (fy _ (kn _)) ?_|fail);all_goals clear kX
   exact⟨j+1,by omega,⟨by omega,hstep⟩,(Env.ab (by simp[Env.Has,Env.get,Env.aG,ba,aC,aT,aW,aM,bd,aX,aS,bA,aY])),aa.Sub.refl _⟩
  ·rw[if_neg hz] at hstep
   subst hstep
   (have kX:=@hy;repeat' first|refine zh ?_|(refine al ?_;intro b hb)|refine zy fun nu _ _=>?_|refine zc rfl (fun h=>?_) fun h=>?_|refine zi (fun h=>?_) fun h=>?_|exact .intro|refine uw (fy _ (kn _)) ?_|fail);all_goals clear kX
   (first|exact an ho.h|exact⟨rfl,an ho.h⟩|exact aa.Sub.refl _)
 ·have hj':j=x.maps.length:=by omega
  subst hj'
  rw[List.drop_length,List.map_nil,List.nil_append] at hoj
  clear hF
  have hF:=hoj
  clear hoj
  (have kX:=@ku;repeat' first|refine zh ?_|(refine al ?_;intro b hb)|refine zy fun nu _ _=>?_|refine zc rfl (fun h=>?_) fun h=>?_|refine zi (fun h=>?_) fun h=>?_|exact .intro|fail);all_goals clear kX
  refine ak (fun j:Nat=>[(0,.ptr no 0 0),(2,.ptr o 0 0),(31,.int .i64 x.rs.length),(32,.int .i64 j)]) (fun _=>σ.put o (nk bl)) (fun j=>j≤x.rs.length∧F=bG (((List.range x.rs.length).drop j).map (dt x.maps x.rs))) (fun j=>x.rs.length-j) 0 ⟨Nat.zero_le _,hF⟩ (Env.ab (by simp[Env.Has,Env.get,Env.aG,ba,aC,aT,aW,aM,bd,aX,aS,bA,aY])) (aa.Sub.refl _) ?_
  rintro j ⟨hj,hoj⟩
  by_cases hlt:j<x.rs.length
  ·have fy:=fr j hlt
   have fok:=iS x.maps x.rs j
   obtain⟨G,hG⟩:∃G,dt x.maps x.rs j=G:=⟨_,rfl⟩
   have hstep:F=if G.e=0 then bG (((List.range x.rs.length).drop (j+1)).map (dt x.maps x.rs)) else G:=by
    rw[hoj,eK (dt x.maps x.rs) (List.range x.rs.length) j (by simpa using hlt)]
    have:(List.range x.rs.length).getD j default=j:=by simp[List.getD_eq_getElem?_getD,hlt]
    rw[this,hG]
   rw[hG] at fy fok
   rcases fok with rfl|hz
   ·rw[if_pos kg] at hstep
    repeat' first|refine zh ?_|(refine al ?_;intro b hb)|refine zy fun nu _ _=>?_|refine zc rfl (fun h=>?_) fun h=>?_|refine zi (fun h=>?_) fun h=>?_|exact .intro|refine uw (fy _ (kn _) (km _)) ?_|fail
    exact⟨j+1,by omega,⟨by omega,hstep⟩,(Env.ab (by simp[Env.Has,Env.get,Env.aG,ba,aC,aT,aW,aM,bd,aX,aS,bA,aY])),aa.Sub.refl _⟩
   ·rw[if_neg hz] at hstep
    subst hstep
    repeat' first|refine zh ?_|(refine al ?_;intro b hb)|refine zy fun nu _ _=>?_|refine zc rfl (fun h=>?_) fun h=>?_|refine zi (fun h=>?_) fun h=>?_|exact .intro|refine uw (fy _ (kn _) (km _)) ?_|fail
    (first|exact an ho.h|exact⟨rfl,an ho.h⟩|exact aa.Sub.refl _)
  ·have hj':j=x.rs.length:=by omega
   subst hj'
   rw[List.drop_of_length_le (by simp),List.map_nil] at hoj
   subst hoj
   repeat' first|refine zh ?_|(refine al ?_;intro b hb)|refine zy fun nu _ _=>?_|refine zc rfl (fun h=>?_) fun h=>?_|refine zi (fun h=>?_) fun h=>?_|exact .intro|fail
   (first|exact an ho.h|exact⟨rfl,an ho.h⟩|exact aa.Sub.refl _)
end
end Go.Proofs.YtgfjihpbphplhaaGreat

namespace Go.Proofs.YtgfjihpbphplhaaGreat
open Go.Kern Go.RowKit
def cK:SK→SK
 | .nil=> .nil
 |_=> .bf
theorem qG {σ:aa} {o:Nat} (h:σ o=none) (x:Ob):σ.Sub ((σ.put o x).drop o):=by rw[nD h];exact aa.Sub.refl _
theorem gM {k:SK} (h:k≠ .nil):cK k= .bf:=by cases k<;>first|rfl|exact absurd rfl h
theorem og {k:SK} (h:k≠ .nil):k.isNil=false:=by cases k<;>first|rfl|exact absurd rfl h
set_option maxRecDepth 100000
set_option maxHeartbeats 4000000
attribute [local irreducible] af W
theorem xU (k:SK) (l:List yA) (hl:l.length<1000000):Pure Tryz.prog 68 [.sl k (aj bA l)] (.sl (cK k) (aj bA l)):=by
 have hrow:aO 5 (aj bA l)=true:=cW 5 bA (fun _=>rfl) l
 intro σ
 by_cases hk:k= .nil
 ·subst hk
  have hz:af Tryz.prog 68 [.sl .nil []] σ (fun r t=>r= .sl .nil []∧t=σ):=by
   refine ah [.tmp 2] 8 Tryz.func68 (by rfl) rfl rfl rfl rfl ?_
   repeat' first|refine zw ?_|refine zy fun nu _ _=>?_|refine zc rfl (fun h=>?_) fun h=>?_|refine zi (fun h=>?_) fun h=>?_|exact .intro|fail
  by_cases h0:l=[]
  ·subst h0;exact hz
  ·exact dS hz (by simp[aj];exact h0)
 ·have hn:=og hk
  rw[gM hk]
  suffices h:af Tryz.prog 68 [.sl k (aj bA l)] σ (fun r t=>∃k',k'.isNil=false∧r= .sl k' (aj bA l)∧σ.Sub t) by
   refine dT h ?_
   rintro r t ⟨k',h1,rfl,h2⟩
   exact .bf k' _ rfl h1 ⟨σ,h2,rfl,rfl⟩
  by_cases h0:l=[]
  ·subst h0
   have hnl:aj bA ([]:List yA)=[]:=rfl
   rw[hnl]
   refine ai [.tmp 2] 8 Tryz.func68 (by rfl) rfl rfl rfl rfl ?_
   (have kX:=@hn;repeat' first|refine zw ?_|refine zy fun nu _ _=>?_|refine zc rfl (fun h=>?_) fun h=>?_|refine zi (fun h=>?_) fun h=>?_|exact .intro|fail);all_goals clear kX
   exact⟨_,aa.Sub.refl _,.full,rfl,rfl,aa.Sub.refl _⟩
  ·have hne:(aj bA l=[])=False:=eq_false (by simp[aj];exact h0)
   refine ai [.tmp 2] 8 Tryz.func68 (by rfl) rfl rfl rfl rfl ?_
   (have kX:=g8 @hn @hne @hrow;repeat' first|refine zw ?_|refine zy fun nu _ _=>?_|refine zc rfl (fun h=>?_) fun h=>?_|refine zi (fun h=>?_) fun h=>?_|exact .intro|fail);all_goals clear kX
   intro o ho
   repeat' first|refine zw ?_|refine zy fun nu _ _=>?_|refine zc rfl (fun h=>?_) fun h=>?_|refine zi (fun h=>?_) fun h=>?_|exact .intro|fail
   exact⟨_,aa.Sub.refl _,.tip o,rfl,rfl,an ho⟩
theorem r8 (k:SK) (l:List hJ) (hl:l.length<1000000):Pure Tryz.prog 120 [.sl k (aj aM l)] (.sl (cK k) (aj aM l)):=by
 have hrow:aO 13 (aj aM l)=true:=cW 13 aM (fun _=>rfl) l
 intro σ
 by_cases hk:k= .nil
 ·subst hk
  have hz:af Tryz.prog 120 [.sl .nil []] σ (fun r t=>r= .sl .nil []∧t=σ):=by
   refine ah [.tmp 2] 8 Tryz.func120 (by rfl) rfl rfl rfl rfl ?_
   repeat' first|refine zw ?_|refine zy fun nu _ _=>?_|refine zc rfl (fun h=>?_) fun h=>?_|refine zi (fun h=>?_) fun h=>?_|exact .intro|fail
  by_cases h0:l=[]
  ·subst h0;exact hz
  ·exact dS hz (by simp[aj];exact h0)
 ·have hn:=og hk
  rw[gM hk]
  suffices h:af Tryz.prog 120 [.sl k (aj aM l)] σ (fun r t=>∃k',k'.isNil=false∧r= .sl k' (aj aM l)∧σ.Sub t) by
   refine dT h ?_
   rintro r t ⟨k',h1,rfl,h2⟩
   exact .bf k' _ rfl h1 ⟨σ,h2,rfl,rfl⟩
  by_cases h0:l=[]
  ·subst h0
   have hnl:aj aM ([]:List hJ)=[]:=rfl
   rw[hnl]
   refine ai [.tmp 2] 8 Tryz.func120 (by rfl) rfl rfl rfl rfl ?_
   (have kX:=@hn;repeat' first|refine zw ?_|refine zy fun nu _ _=>?_|refine zc rfl (fun h=>?_) fun h=>?_|refine zi (fun h=>?_) fun h=>?_|exact .intro|fail);all_goals clear kX
   exact⟨_,aa.Sub.refl _,.full,rfl,rfl,aa.Sub.refl _⟩
  ·have hne:(aj aM l=[])=False:=eq_false (by simp[aj];exact h0)
   refine ai [.tmp 2] 8 Tryz.func120 (by rfl) rfl rfl rfl rfl ?_
   (have kX:=g8 @hn @hne @hrow;repeat' first|refine zw ?_|refine zy fun nu _ _=>?_|refine zc rfl (fun h=>?_) fun h=>?_|refine zi (fun h=>?_) fun h=>?_|exact .intro|fail);all_goals clear kX
   intro o ho
   repeat' first|refine zw ?_|refine zy fun nu _ _=>?_|refine zc rfl (fun h=>?_) fun h=>?_|refine zi (fun h=>?_) fun h=>?_|exact .intro|fail
   exact⟨_,aa.Sub.refl _,.tip o,rfl,rfl,an ho⟩
theorem rZ (k:SK) (l:List nP) (hl:l.length<1000000):Pure Tryz.prog 121 [.sl k (aj aY l)] (.sl (cK k) (aj aY l)):=by
 have hrow:aO 2 (aj aY l)=true:=cW 2 aY (fun _=>rfl) l
 intro σ
 by_cases hk:k= .nil
 ·subst hk
  have hz:af Tryz.prog 121 [.sl .nil []] σ (fun r t=>r= .sl .nil []∧t=σ):=by
   refine ah [.tmp 2] 8 Tryz.func121 (by rfl) rfl rfl rfl rfl ?_
   repeat' first|refine zw ?_|refine zy fun nu _ _=>?_|refine zc rfl (fun h=>?_) fun h=>?_|refine zi (fun h=>?_) fun h=>?_|exact .intro|fail
  by_cases h0:l=[]
  ·subst h0;exact hz
  ·exact dS hz (by simp[aj];exact h0)
 ·have hn:=og hk
  rw[gM hk]
  suffices h:af Tryz.prog 121 [.sl k (aj aY l)] σ (fun r t=>∃k',k'.isNil=false∧r= .sl k' (aj aY l)∧σ.Sub t) by
   refine dT h ?_
   rintro r t ⟨k',h1,rfl,h2⟩
   exact .bf k' _ rfl h1 ⟨σ,h2,rfl,rfl⟩
  by_cases h0:l=[]
  ·subst h0
   have hnl:aj aY ([]:List nP)=[]:=rfl
   rw[hnl]
   refine ai [.tmp 2] 8 Tryz.func121 (by rfl) rfl rfl rfl rfl ?_
   (have kX:=@hn;repeat' first|refine zw ?_|refine zy fun nu _ _=>?_|refine zc rfl (fun h=>?_) fun h=>?_|refine zi (fun h=>?_) fun h=>?_|exact .intro|fail);all_goals clear kX
   exact⟨_,aa.Sub.refl _,.full,rfl,rfl,aa.Sub.refl _⟩
  ·have hne:(aj aY l=[])=False:=eq_false (by simp[aj];exact h0)
   refine ai [.tmp 2] 8 Tryz.func121 (by rfl) rfl rfl rfl rfl ?_
   (have kX:=g8 @hn @hne @hrow;repeat' first|refine zw ?_|refine zy fun nu _ _=>?_|refine zc rfl (fun h=>?_) fun h=>?_|refine zi (fun h=>?_) fun h=>?_|exact .intro|fail);all_goals clear kX
   intro o ho
   repeat' first|refine zw ?_|refine zy fun nu _ _=>?_|refine zc rfl (fun h=>?_) fun h=>?_|refine zi (fun h=>?_) fun h=>?_|exact .intro|fail
   exact⟨_,aa.Sub.refl _,.tip o,rfl,rfl,an ho⟩
theorem xV (k:SK) (l:List gU) (hl:l.length<1000000):Pure Tryz.prog 122 [.sl k (aj aS l)] (.sl (cK k) (aj aS l)):=by
 have hrow:aO 2 (aj aS l)=true:=cW 2 aS (fun _=>rfl) l
 intro σ
 by_cases hk:k= .nil
 ·subst hk
  have hz:af Tryz.prog 122 [.sl .nil []] σ (fun r t=>r= .sl .nil []∧t=σ):=by
   refine ah [.tmp 2] 8 Tryz.func122 (by rfl) rfl rfl rfl rfl ?_
   repeat' first|refine zw ?_|refine zy fun nu _ _=>?_|refine zc rfl (fun h=>?_) fun h=>?_|refine zi (fun h=>?_) fun h=>?_|exact .intro|fail
  by_cases h0:l=[]
  ·subst h0;exact hz
  ·exact dS hz (by simp[aj];exact h0)
 ·have hn:=og hk
  rw[gM hk]
  suffices h:af Tryz.prog 122 [.sl k (aj aS l)] σ (fun r t=>∃k',k'.isNil=false∧r= .sl k' (aj aS l)∧σ.Sub t) by
   refine dT h ?_
   rintro r t ⟨k',h1,rfl,h2⟩
   exact .bf k' _ rfl h1 ⟨σ,h2,rfl,rfl⟩
  by_cases h0:l=[]
  ·subst h0
   have hnl:aj aS ([]:List gU)=[]:=rfl
   rw[hnl]
   refine ai [.tmp 2] 8 Tryz.func122 (by rfl) rfl rfl rfl rfl ?_
   (have kX:=@hn;repeat' first|refine zw ?_|refine zy fun nu _ _=>?_|refine zc rfl (fun h=>?_) fun h=>?_|refine zi (fun h=>?_) fun h=>?_|exact .intro|fail);all_goals clear kX
   exact⟨_,aa.Sub.refl _,.full,rfl,rfl,aa.Sub.refl _⟩
  ·have hne:(aj aS l=[])=False:=eq_false (by simp[aj];exact h0)
   refine ai [.tmp 2] 8 Tryz.func122 (by rfl) rfl rfl rfl rfl ?_
   (have kX:=g8 @hn @hne @hrow;repeat' first|refine zw ?_|refine zy fun nu _ _=>?_|refine zc rfl (fun h=>?_) fun h=>?_|refine zi (fun h=>?_) fun h=>?_|exact .intro|fail);all_goals clear kX
   intro o ho
   repeat' first|refine zw ?_|refine zy fun nu _ _=>?_|refine zc rfl (fun h=>?_) fun h=>?_|refine zi (fun h=>?_) fun h=>?_|exact .intro|fail
   exact⟨_,aa.Sub.refl _,.tip o,rfl,rfl,an ho⟩
theorem xW (k:SK) (l:List jm) (hl:l.length<1000000):Pure Tryz.prog 123 [.sl k (aj aT l)] (.sl (cK k) (aj aT l)):=by
 have hrow:aO 4 (aj aT l)=true:=cW 4 aT (fun _=>rfl) l
 intro σ
 by_cases hk:k= .nil
 ·subst hk
  have hz:af Tryz.prog 123 [.sl .nil []] σ (fun r t=>r= .sl .nil []∧t=σ):=by
   refine ah [.tmp 2] 8 Tryz.func123 (by rfl) rfl rfl rfl rfl ?_
   repeat' first|refine zw ?_|refine zy fun nu _ _=>?_|refine zc rfl (fun h=>?_) fun h=>?_|refine zi (fun h=>?_) fun h=>?_|exact .intro|fail
  by_cases h0:l=[]
  ·subst h0;exact hz
  ·exact dS hz (by simp[aj];exact h0)
 ·have hn:=og hk
  rw[gM hk]
  suffices h:af Tryz.prog 123 [.sl k (aj aT l)] σ (fun r t=>∃k',k'.isNil=false∧r= .sl k' (aj aT l)∧σ.Sub t) by
   refine dT h ?_
   rintro r t ⟨k',h1,rfl,h2⟩
   exact .bf k' _ rfl h1 ⟨σ,h2,rfl,rfl⟩
  by_cases h0:l=[]
  ·subst h0
   have hnl:aj aT ([]:List jm)=[]:=rfl
   rw[hnl]
   refine ai [.tmp 2] 8 Tryz.func123 (by rfl) rfl rfl rfl rfl ?_
   (have kX:=@hn;repeat' first|refine zw ?_|refine zy fun nu _ _=>?_|refine zc rfl (fun h=>?_) fun h=>?_|refine zi (fun h=>?_) fun h=>?_|exact .intro|fail);all_goals clear kX
   exact⟨_,aa.Sub.refl _,.full,rfl,rfl,aa.Sub.refl _⟩
  ·have hne:(aj aT l=[])=False:=eq_false (by simp[aj];exact h0)
   refine ai [.tmp 2] 8 Tryz.func123 (by rfl) rfl rfl rfl rfl ?_
   (have kX:=g8 @hn @hne @hrow;repeat' first|refine zw ?_|refine zy fun nu _ _=>?_|refine zc rfl (fun h=>?_) fun h=>?_|refine zi (fun h=>?_) fun h=>?_|exact .intro|fail);all_goals clear kX
   intro o ho
   repeat' first|refine zw ?_|refine zy fun nu _ _=>?_|refine zc rfl (fun h=>?_) fun h=>?_|refine zi (fun h=>?_) fun h=>?_|exact .intro|fail
   exact⟨_,aa.Sub.refl _,.tip o,rfl,rfl,an ho⟩
theorem xX (k:SK) (l:List gB) (hl:l.length<1000000):Pure Tryz.prog 124 [.sl k (aj aW l)] (.sl (cK k) (aj aW l)):=by
 have hrow:aO 2 (aj aW l)=true:=cW 2 aW (fun _=>rfl) l
 intro σ
 by_cases hk:k= .nil
 ·subst hk
  have hz:af Tryz.prog 124 [.sl .nil []] σ (fun r t=>r= .sl .nil []∧t=σ):=by
   refine ah [.tmp 2] 8 Tryz.func124 (by rfl) rfl rfl rfl rfl ?_
   repeat' first|refine zw ?_|refine zy fun nu _ _=>?_|refine zc rfl (fun h=>?_) fun h=>?_|refine zi (fun h=>?_) fun h=>?_|exact .intro|fail
  by_cases h0:l=[]
  ·subst h0;exact hz
  ·exact dS hz (by simp[aj];exact h0)
 ·have hn:=og hk
  rw[gM hk]
  suffices h:af Tryz.prog 124 [.sl k (aj aW l)] σ (fun r t=>∃k',k'.isNil=false∧r= .sl k' (aj aW l)∧σ.Sub t) by
   refine dT h ?_
   rintro r t ⟨k',h1,rfl,h2⟩
   exact .bf k' _ rfl h1 ⟨σ,h2,rfl,rfl⟩
  by_cases h0:l=[]
  ·subst h0
   have hnl:aj aW ([]:List gB)=[]:=rfl
   rw[hnl]
   refine ai [.tmp 2] 8 Tryz.func124 (by rfl) rfl rfl rfl rfl ?_
   (have kX:=@hn;repeat' first|refine zw ?_|refine zy fun nu _ _=>?_|refine zc rfl (fun h=>?_) fun h=>?_|refine zi (fun h=>?_) fun h=>?_|exact .intro|fail);all_goals clear kX
   exact⟨_,aa.Sub.refl _,.full,rfl,rfl,aa.Sub.refl _⟩
  ·have hne:(aj aW l=[])=False:=eq_false (by simp[aj];exact h0)
   refine ai [.tmp 2] 8 Tryz.func124 (by rfl) rfl rfl rfl rfl ?_
   (have kX:=g8 @hn @hne @hrow;repeat' first|refine zw ?_|refine zy fun nu _ _=>?_|refine zc rfl (fun h=>?_) fun h=>?_|refine zi (fun h=>?_) fun h=>?_|exact .intro|fail);all_goals clear kX
   intro o ho
   repeat' first|refine zw ?_|refine zy fun nu _ _=>?_|refine zc rfl (fun h=>?_) fun h=>?_|refine zi (fun h=>?_) fun h=>?_|exact .intro|fail
   exact⟨_,aa.Sub.refl _,.tip o,rfl,rfl,an ho⟩
theorem tQ (k:SK) (l:List Int) (hl:l.length<1000000):Pure Tryz.prog 60 [.sl k (ints l)] (.sl (cK k) (ints l)):=by
 have hrow:aO 1 (ints l)=true:=ib l
 intro σ
 by_cases hk:k= .nil
 ·subst hk
  have hz:af Tryz.prog 60 [.sl .nil []] σ (fun r t=>r= .sl .nil []∧t=σ):=by
   refine ah [.tmp 2] 8 Tryz.func60 (by rfl) rfl rfl rfl rfl ?_
   repeat' first|refine zw ?_|refine zy fun nu _ _=>?_|refine zc rfl (fun h=>?_) fun h=>?_|refine zi (fun h=>?_) fun h=>?_|exact .intro|fail
  by_cases h0:l=[]
  ·subst h0;exact hz
  ·exact dS hz (by simp[ints];exact h0)
 ·have hn:=og hk
  rw[gM hk]
  suffices h:af Tryz.prog 60 [.sl k (ints l)] σ (fun r t=>∃k',k'.isNil=false∧r= .sl k' (ints l)∧σ.Sub t) by
   refine dT h ?_
   rintro r t ⟨k',h1,rfl,h2⟩
   exact .bf k' _ rfl h1 ⟨σ,h2,rfl,rfl⟩
  by_cases h0:l=[]
  ·subst h0
   have hnl:ints ([]:List Int)=[]:=rfl
   rw[hnl]
   refine ai [.tmp 2] 8 Tryz.func60 (by rfl) rfl rfl rfl rfl ?_
   (have kX:=@hn;repeat' first|refine zw ?_|refine zy fun nu _ _=>?_|refine zc rfl (fun h=>?_) fun h=>?_|refine zi (fun h=>?_) fun h=>?_|exact .intro|fail);all_goals clear kX
   exact⟨_,aa.Sub.refl _,.full,rfl,rfl,aa.Sub.refl _⟩
  ·have hne:(ints l=[])=False:=eq_false (by simp[ints];exact h0)
   refine ai [.tmp 2] 8 Tryz.func60 (by rfl) rfl rfl rfl rfl ?_
   (have kX:=g8 @hn @hne @hrow;repeat' first|refine zw ?_|refine zy fun nu _ _=>?_|refine zc rfl (fun h=>?_) fun h=>?_|refine zi (fun h=>?_) fun h=>?_|exact .intro|fail);all_goals clear kX
   intro o ho
   repeat' first|refine zw ?_|refine zy fun nu _ _=>?_|refine zc rfl (fun h=>?_) fun h=>?_|refine zi (fun h=>?_) fun h=>?_|exact .intro|fail
   exact⟨_,aa.Sub.refl _,.tip o,rfl,rfl,an ho⟩
theorem AK (k:SK) (l:List hJ) (hk:k≠ .nil) (h0:l≠[]) (hl:l.length<1000000) (σ:aa):af Tryz.prog 120 [.sl k (aj aM l)] σ (fun r t=>∃o,σ o=none∧r= .ms o 13 0 l.length∧t=σ.put o (.arr 163 (aj aM l))):=by
 have hn:=og hk
 have hrow:aO 13 (aj aM l)=true:=cW 13 aM (fun _=>rfl) l
 have hne:(aj aM l=[])=False:=eq_false (by simp[aj];exact h0)
 refine ai [.tmp 2] 8 Tryz.func120 (by rfl) rfl rfl rfl rfl ?_
 (have kX:=g8 @hn @hne @hrow;have kM:Mu [7]:=⟨⟩;repeat' first|refine zw ?_|refine ry [7] c0 fun nu _ _=>?_|refine zc rfl (fun h=>?_) fun h=>?_|refine zi (fun h=>?_) fun h=>?_|exact .intro|fail);all_goals clear kX kM
 intro o ho
 repeat' first|refine zw ?_|refine zy fun nu _ _=>?_|refine zc rfl (fun h=>?_) fun h=>?_|refine zi (fun h=>?_) fun h=>?_|exact .intro|fail
 exact⟨_,aa.Sub.refl _,o,ho,rfl,rfl⟩
def cJ (r:bX):bX:= {r with kN:=cK r.kN,kB:=cK r.kB,kL:=cK r.kL}
def lZ (c:hJ):hJ:= {c with s:= {c.s with kA:=cK c.s.kA,kD:=cK c.s.kD,kP:=cK c.s.kP}}
theorem rY (r:bX) (h1:r.nets.length<1000000) (h2:r.nbrs.length<1000000) (h3:r.links.length<1000000):Pure Tryz.prog 70 [aC r] (aC (cJ r)):=by
 intro σ
 have c1:=xV r.kN r.nets h1
 have c2:=xW r.kB r.nbrs h2
 have c3:=xX r.kL r.links h3
 refine ah [.cell 2 66] 16 Tryz.func70 (by rfl) rfl rfl rfl rfl ?_
 (have kM:Mu [1]:=⟨⟩;repeat' first|refine zw ?_|refine ry [1] c0 fun nu _ _=>?_|refine zc rfl (fun h=>?_) fun h=>?_|refine zi (fun h=>?_) fun h=>?_|exact .intro|fail);all_goals clear kM
 intro b hb o ho
 have hbo:b≠o:=(aP ho).symm
 have t1:=aq hbo
 have sw:=az hbo
 have hso:σ o=none:=by rw[←ho,aq hbo.symm]
 replace hb:=eU.mk hb
 replace ho:=eU.mk ho
 (have kX:=g9 @t1 @sw;repeat' first|refine zh ?_|(refine al ?_;intro b hb)|refine ry (id:=1) [] (cw [1,4,7] [10,12,14] [] [] []) fun nu _ _=>?_|refine zy fun nu _ _=>?_|refine zc rfl (fun h=>?_) fun h=>?_|refine zi (fun h=>?_) fun h=>?_|exact .intro|refine us (c1) ?_|refine us (c2) ?_|refine us (c3) ?_|fail);all_goals clear kX
 exact⟨rfl,ax (ax (fun _ _ h=>h) hb.h) hso⟩
theorem wB {α:Type} {l:List α} {i:Nat} (h:i<l.length) (x:α):(l.set i x)[i]? =some x:=by simp[h]
def x7 (l:List hJ) (i:Nat):List hJ:=(l.take i).map lZ++l.drop i
theorem zQ (l:List hJ) (i:Nat):(x7 l i).length=l.length:=by simp[x7];omega
theorem AN {l:List hJ} {i:Nat} (h:i<l.length):(aj aM (x7 l i))[i]? =some (aM (l.getD i default)):=by
 have h1:((l.take i).map lZ).length=i:=by simp;omega
 rw[aj,List.getElem?_map,x7,List.getElem?_append_right (by omega),h1,Nat.sub_self,List.getElem?_drop]
 simp[List.getD_eq_getElem?_getD,h]
theorem zP {l:List hJ} {i:Nat} (h:i<l.length):(aj aM (x7 l i)).set i (aM (lZ (l.getD i default)))=aj aM (x7 l (i+1)):=by
 have h1:((l.take i).map lZ).length=i:=by simp;omega
 unfold aj
 rw[←List.map_set]
 congr 1
 unfold x7
 rw[List.set_append_right _ _ (by omega),h1,Nat.sub_self,List.drop_eq_getElem_cons h,List.set_cons_zero,List.take_succ_eq_append_getElem h,List.map_append]
 simp[List.getD_eq_getElem?_getD,h]
theorem xZ (k:SK) (l:List hJ) (hl:l.length<1000000) (hc:∀c,c∈l→c.s.add.length<1000000∧c.s.del.length<1000000∧c.s.pre.length<1000000):Pure Tryz.prog 69 [.sl k (aj aM l)] (.sl (cK k) (aj aM (l.map lZ))):=by
 intro σ
 by_cases hk:k= .nil
 ·subst hk
  have c1:=r8 .nil [] (by simp)
  have hz:af Tryz.prog 69 [.sl .nil []] σ (fun r t=>r= .sl .nil []∧t=σ):=by
   have hnl:aj aM ([]:List hJ)=[]:=rfl
   rw[hnl] at c1
   have hck:cK .nil= .nil:=rfl
   rw[hck] at c1
   refine ah [.tmp 2] 43 Tryz.func69 (by rfl) rfl rfl rfl rfl ?_
   repeat' first|refine zw ?_|refine zy fun nu _ _=>?_|refine zc rfl (fun h=>?_) fun h=>?_|refine zi (fun h=>?_) fun h=>?_|exact .intro|refine us (c1) ?_|fail
   refine ak (fun _:Unit=>[(3,.sl .nil []),(8,.sl .nil []),(9,.int .i64 0),(10,.int .i64 0)]) (fun _=>σ) (fun _=>True) (fun _=>0) () trivial (Env.ab (by simp[Env.Has,Env.get,Env.aG,ba,aC,aT,aW,aM,bd,aX,aS,bA,aY])) (aa.Sub.refl _) ?_
   rintro _ _
   repeat' first|refine zw ?_|refine zy fun nu _ _=>?_|refine zc rfl (fun h=>?_) fun h=>?_|refine zi (fun h=>?_) fun h=>?_|exact .intro|fail
  by_cases h0:l=[]
  ·subst h0;exact hz
  ·exact dS hz (by simp[aj];exact h0)
 ·rw[gM hk]
  by_cases h0:l=[]
  ·subst h0
   have c1:=r8 k [] (by simp)
   rw[gM hk] at c1
   have hnl:aj aM ([]:List hJ)=[]:=rfl
   rw[List.map_nil]
   rw[hnl] at c1 ⊢
   refine ah [.tmp 2] 43 Tryz.func69 (by rfl) rfl rfl rfl rfl ?_
   repeat' first|refine zw ?_|refine zy fun nu _ _=>?_|refine zc rfl (fun h=>?_) fun h=>?_|refine zi (fun h=>?_) fun h=>?_|exact .intro|refine us (c1) ?_|fail
   refine ak (fun _:Unit=>[(3,.sl .bf []),(8,.sl .bf []),(9,.int .i64 0),(10,.int .i64 0)]) (fun _=>σ) (fun _=>True) (fun _=>0) () trivial (Env.ab (by simp[Env.Has,Env.get,Env.aG,ba,aC,aT,aW,aM,bd,aX,aS,bA,aY])) (aa.Sub.refl _) ?_
   rintro _ _
   repeat' first|refine zw ?_|refine zy fun nu _ _=>?_|refine zc rfl (fun h=>?_) fun h=>?_|refine zi (fun h=>?_) fun h=>?_|exact .intro|fail
  ·suffices h:af Tryz.prog 69 [.sl k (aj aM l)] σ (fun r t=>∃o,σ o=none∧r= .ms o 13 0 l.length∧t=σ.put o (.arr 163 (aj aM (l.map lZ)))) by
    refine dT h ?_
    rintro r t ⟨o,h1,rfl,rfl⟩
    refine .Cr o 13 l.length _ _ rfl (ao _ _ _) (by simp[aj]) ⟨σ,qG h1 _,?_,rfl⟩
    rw[List.take_of_length_le (by simp[aj])]
   refine ai [.tmp 2] 43 Tryz.func69 (by rfl) rfl rfl rfl rfl ?_
   (have kS:Sa 1:=⟨⟩;repeat' ((fail_if_success refine ss kS ?_);first|refine zw ?_|refine zy fun nu _ _=>?_|refine zc rfl (fun h=>?_) fun h=>?_|refine zi (fun h=>?_) fun h=>?_|exact .intro|fail));all_goals clear kS
   repeat' first|refine zw ?_|refine zy fun nu _ _=>?_|refine zc rfl (fun h=>?_) fun h=>?_|refine zi (fun h=>?_) fun h=>?_|exact .intro|fail
   refine aK (AK k l hk h0 hl σ) ?_
   rintro _ _ ⟨o,ho,rfl,rfl⟩
   repeat' first|refine zw ?_|refine zy fun nu _ _=>?_|refine zc rfl (fun h=>?_) fun h=>?_|refine zi (fun h=>?_) fun h=>?_|exact .intro|fail
   refine ak (fun i:Nat=>[(3,.ms o 13 0 l.length),(9,.int .i64 l.length),(10,.int .i64 i)]) (fun i=>σ.put o (.arr 163 (aj aM (x7 l i)))) (fun i=>i≤l.length) (fun i=>l.length-i) 0 (Nat.zero_le _) (Env.ab (by simp[Env.Has,Env.get,Env.aG,ba,aC,aT,aW,aM,bd,aX,aS,bA,aY])) (by simp[x7];exact aa.Sub.refl _) ?_
   intro i hi
   by_cases hlt:i<l.length
   ·have g1:=AN hlt
    have g2:=zP hlt
    have g3:=wB (l:=aj aM (x7 l i)) (i:=i) (by rw[cb,zQ];exact hlt)
    obtain⟨c,hcc⟩:∃c,l.getD i default=c:=⟨_,rfl⟩
    have hcm:c∈l:=by
     rw[←hcc,List.getD_eq_getElem?_getD,List.getElem?_eq_getElem hlt]
     exact List.getElem_mem hlt
    obtain⟨q1,q2,q3⟩:=hc c hcm
    rw[hcc] at g1 g2
    simp only[aM,lZ] at g1 g2
    have c1:=rZ c.s.kA c.s.add q1
    have c2:=rZ c.s.kD c.s.del q2
    have c3:=tQ c.s.kP c.s.pre q3
    (have kX:=nO @g1 @g2 @g3 @List.set_set.{0};repeat' first|refine zw ?_|refine ry (id:=6) [] (cw [6,11,16] [20,23,26] [] [] []) fun nu _ _=>?_|refine zy fun nu _ _=>?_|refine zc rfl (fun h=>?_) fun h=>?_|refine zi (fun h=>?_) fun h=>?_|exact .intro|refine us (c1) ?_|refine us (c2) ?_|refine us (c3) ?_|fail);all_goals clear kX
    exact⟨i+1,by omega,(by omega),(Env.ab (by simp[Env.Has,Env.get,Env.aG,ba,aC,aT,aW,aM,bd,aX,aS,bA,aY])),aa.Sub.refl _⟩
   ·have hi':i=l.length:=by omega
    subst hi'
    repeat' first|refine zw ?_|refine zy fun nu _ _=>?_|refine zc rfl (fun h=>?_) fun h=>?_|refine zi (fun h=>?_) fun h=>?_|exact .intro|fail
    exact⟨_,aa.Sub.refl _,o,ho,rfl,by simp[x7]⟩
end Go.Proofs.YtgfjihpbphplhaaGreat

namespace Go.Proofs.YtgfjihpbphplhaaGreat
open Go.Kern Go.RowKit
set_option maxRecDepth 100000
set_option maxHeartbeats 4000000
attribute [local irreducible] af W
theorem tz (a:Int):Pure Tryz.prog 129 [.int .i64 a] (.bool false):=by
 intro σ
 refine ah [.tmp 2] 6 Tryz.func129 (by rfl) rfl rfl rfl rfl ?_
 repeat' first|refine zw ?_|refine zy fun nu _ _=>?_|refine zc rfl (fun h=>?_) fun h=>?_|refine zi (fun h=>?_) fun h=>?_|exact .intro|fail
def iG (a b:Int):Int:=if a<b then-1 else if b<a then 1 else 0
theorem dD (a b:Int):Pure Tryz.prog 74 [.int .i64 a,.int .i64 b] (.int .i64 (iG a b)):=by
 intro σ
 refine ah [.tmp 4] 20 Tryz.func74 (by rfl) rfl rfl rfl rfl ?_
 repeat' first|refine zw ?_|refine zy fun nu _ _=>?_|refine zc rfl (fun h=>?_) fun h=>?_|refine zi (fun h=>?_) fun h=>?_|exact .intro|refine us (tz _) ?_|fail
 all_goals (simp_all[iG];try omega)
def yy:List Int→Int
 | []=>0
 |a::l=>if a=0 then yy l else a
theorem wX (l:List Int) (i:Nat) (h:i<l.length):yy (l.drop i)=if l.getD i 0=0 then yy (l.drop (i+1)) else l.getD i 0:=by
 rw[List.drop_eq_getElem_cons h]
 simp[yy,List.getD_eq_getElem?_getD,h]
theorem tO (k:SK) (l:List Int) (hl:l.length<4611686018427387904):Pure Tryz.prog 214 [.sl k (ints l)] (.int .i64 (yy l)):=by
 intro σ
 refine ah [.tmp 2] 18 Tryz.func214 (by rfl) rfl rfl rfl rfl ?_
 repeat' first|refine zw ?_|refine zy fun nu _ _=>?_|refine zc rfl (fun h=>?_) fun h=>?_|refine zi (fun h=>?_) fun h=>?_|exact .intro|fail
 refine ak (fun i:Nat=>[(3,.int .i64 0),(6,.sl k (ints l)),(7,.int .i64 l.length),(8,.int .i64 i)]) (fun _=>σ) (fun i=>i≤l.length∧yy l=yy (l.drop i)) (fun i=>l.length-i) 0 ⟨Nat.zero_le _,rfl⟩ (Env.ab (by simp[Env.Has,Env.get])) (aa.Sub.refl _) ?_
 rintro i ⟨hi,hor⟩
 by_cases hlt:i<l.length
 ·have hx:=gy hlt
  have ho:=wX l i hlt
  by_cases he:l.getD i 0=0
  ·rw[if_pos he] at ho
   (have kX:=g9 @hx @he;repeat' first|refine zw ?_|refine zy fun nu _ _=>?_|refine zc rfl (fun h=>?_) fun h=>?_|refine zi (fun h=>?_) fun h=>?_|exact .intro|fail);all_goals clear kX
   exact⟨i+1,by omega,⟨by omega,by rw[hor,ho]⟩,Env.ab (by simp[Env.Has,Env.get]),aa.Sub.refl _⟩
  ·rw[if_neg he] at ho
   (have kX:=g9 @hx @he;repeat' first|refine zw ?_|refine zy fun nu _ _=>?_|refine zc rfl (fun h=>?_) fun h=>?_|refine zi (fun h=>?_) fun h=>?_|exact .intro|fail);all_goals clear kX
   rw[hor,ho]
 ·have hi':i=l.length:=by omega
  subst hi'
  repeat' first|refine zw ?_|refine zy fun nu _ _=>?_|refine zc rfl (fun h=>?_) fun h=>?_|refine zi (fun h=>?_) fun h=>?_|exact .intro|fail
  simp[hor,yy]
end Go.Proofs.YtgfjihpbphplhaaGreat

namespace Go.Proofs.YtgfjihpbphplhaaGreat
open Go.Kern
theorem ct {P:Program} {f:FuncId} {args:List AV} {v:AV} {k:AV→Prop} {σ:aa} (h:af P f args σ (fun r s'=>r=v∧s'=σ)) (hk:k v):∃v,af P f args σ (bw (fun r s'=>r=v∧s'=σ) .mk)∧k v:=⟨v,h,hk⟩
def bI (l:List Nat):List AV:=ints (l.map fun(n:Nat)=>(n:Int))
theorem dO (l:List Nat):(bI l).length=l.length:=by simp[bI,dP]
theorem oZ {l:List Nat} {i:Nat} (h:i<l.length):(bI l).getD i .any= .int .i64 ((l.getD i 0:Nat):Int):=by
 unfold bI
 rw[gy (by simpa using h)]
 simp[List.getD_eq_getElem?_getD,h]
theorem lN (l:List Nat):aO 1 (bI l)=true:=ib _
theorem oK (l:List Nat) (b:Nat):bI l++[.int .i64 (b:Int)]=bI (l++[b]):=by simp[bI,ints]
theorem w5 (l:List Nat):(bI l=[])=(l=[]):=by simp[bI,ints]
theorem z8:A1.c=0:=rfl
theorem wj:A1.kd= .nil:=rfl
theorem z7:bI A1.l=[]:=rfl
attribute [go_sem] dO oZ lN z8 wj z7
def AG (t:Th):AV:= .agg [.int .i64 t.k,.int .i64 t.r.c,.sl t.r.kd (bI t.r.l),.int .i64 t.w]
def bY (l:List Th):List AV:=l.map AG
theorem ov (l:List Th):(bY l).length=l.length:=by simp[bY]
theorem cp {l:List Th} {i:Nat} (h:i<l.length):(bY l)[i]? =some (.agg [.int .i64 (l.getD i av).k,.int .i64 (l.getD i av).r.c,.sl (l.getD i av).r.kd (bI (l.getD i av).r.l),.int .i64 (l.getD i av).w]):=by
 simp[bY,AG,List.getD_eq_getElem?_getD,h]
theorem mN (l:List Th) (i:Nat) (k:Int) (r:Rk) (w:Int):(bY l).set i (.agg [.int .i64 k,.int .i64 r.c,.sl r.kd (bI r.l),.int .i64 w])=bY (l.set i ⟨k,r,w⟩):=by
 unfold bY
 rw[List.map_set]
 rfl
def tJ (em:EM):List (AV×AV):=em.map fun p=>(.int .i64 p.1,.int .i64 p.2)
set_option maxRecDepth 100000
set_option maxHeartbeats 4000000
attribute [local irreducible] af W
theorem sj (k:Int) (i:Nat):∀em:EM,dq (.int .i64 k) (.int .i64 i) (tJ em)=tJ (cm k i em)
  | []=>rfl
  | e::r=>by
    have ih:=sj k i r
    unfold tJ at ih ⊢
    simp only[List.map_cons,dq,cm,dv,decide_eq_true_eq]
    split
    · rfl
    · rw[ih];rfl
theorem nL (k:Int):∀em:EM,nM (.int .i64 k) (tJ em)=tJ (fJ k em)
  | []=>rfl
  | e::r=>by
    have ih:=nL k r
    unfold tJ at ih ⊢
    simp only[List.map_cons,nM,fJ,dv,decide_eq_true_eq]
    split
    · rfl
    · rw[ih];rfl
theorem je (k:Int):∀em:EM,(tJ em).find? (fun e=>dv (.int .i64 k) e.1)=(bP k em).map fun i=>(AV.int .i64 k,AV.int .i64 i)
  | []=>rfl
  | e::r=>by
    have ih:=je k r
    unfold tJ at ih ⊢
    simp only[List.map_cons,List.find?_cons,bP,dv]
    by_cases h:k=e.1
    · rw[if_pos h,decide_eq_true h]
      subst h
      rfl
    · rw[if_neg h,decide_eq_false h]
      exact ih
theorem gO (em:EM):dJ (.int .i64) (tJ em)=true:=by
 unfold tJ dJ
 rw[List.all_map]
 exact List.all_eq_true.2 fun _ _=>rfl
def bg (σ:aa) (h m o:Nat) (f:AV) (n:Nat) (ls:List Th) (em:EM) (w:Int):aa:=
 ((σ.put h (.arr 368 [.agg [f,.ms o 4 0 n,.map m,.int .i64 w]])).put m (.map (tJ em))).put o (.arr 370 (bY ls))
structure ei (h m o:Nat):Prop where
 hm:h≠m
 ho:h≠o
 mo:m≠o
section
variable {h m o:Nat} (d:ei h m o)
include d
theorem ei.rh (σ:aa) (f:AV) (n:Nat) (ls:List Th) (em:EM) (w:Int):bg σ h m o f n ls em w h=some (.arr 368 [.agg [f,.ms o 4 0 n,.map m,.int .i64 w]]):=by
 unfold bg;rw[au d.ho,au d.hm,ao]
theorem ei.rm (σ:aa) (f:AV) (n:Nat) (ls:List Th) (em:EM) (w:Int):bg σ h m o f n ls em w m=some (.map (tJ em)):=by
 unfold bg;rw[au d.mo,ao]
theorem ei.ro (σ:aa) (f:AV) (n:Nat) (ls:List Th) (em:EM) (w:Int):bg σ h m o f n ls em w o=some (.arr 370 (bY ls)):=by
 unfold bg;rw[ao]
theorem ei.wh (σ:aa) (f f':AV) (n n':Nat) (ls:List Th) (em:EM) (w w':Int):(bg σ h m o f n ls em w).put h (.arr 368 [.agg [f',.ms o 4 0 n',.map m,.int .i64 w']])=bg σ h m o f' n' ls em w':=by
 funext p
 simp only[bg,aa.put]
 by_cases h1:p=h
 ·subst h1;simp[d.hm,d.ho]
 ·simp[h1]
theorem ei.wm (σ:aa) (f:AV) (n:Nat) (ls:List Th) (em em':EM) (w:Int):(bg σ h m o f n ls em w).put m (.map (tJ em'))=bg σ h m o f n ls em' w:=by
 funext p
 simp only[bg,aa.put]
 by_cases h1:p=m
 ·subst h1;simp[d.mo]
 ·simp[h1]
theorem ei.wo (σ:aa) (f:AV) (n:Nat) (ls ls':List Th) (em:EM) (w:Int):(bg σ h m o f n ls em w).put o (.arr 370 (bY ls'))=bg σ h m o f n ls' em w:=by
 unfold bg;rw[iT]
end
structure Loc (p h m o:Nat):Prop where
 h:p≠h
 m:p≠m
 o:p≠o
theorem Loc.rd {p h m o:Nat} (l:Loc p h m o) (σ:aa) (f:AV) (n:Nat) (ls:List Th) (em:EM) (w:Int):bg σ h m o f n ls em w p=σ p:=by
 unfold bg;rw[au l.o,au l.m,au l.h]
theorem Loc.wr {p h m o:Nat} (l:Loc p h m o) (σ:aa) (f:AV) (n:Nat) (ls:List Th) (em:EM) (w:Int) (y:Ob):(bg σ h m o f n ls em w).put p y=bg (σ.put p y) h m o f n ls em w:=by
 funext q
 simp only[bg,aa.put]
 by_cases h1:q=p
 ·subst h1;simp[l.h,l.m,l.o]
 ·simp[h1]
theorem ei.fresh {h m o:Nat} (d:ei h m o) {σ:aa} {f:AV} {n:Nat} {ls:List Th} {em:EM} {w:Int} {p:Nat} (hp:bg σ h m o f n ls em w p=none):Loc p h m o:=
 ⟨(fun e=>by rw[e,d.rh] at hp;cases hp),(fun e=>by rw[e,d.rm] at hp;cases hp),(fun e=>by rw[e,d.ro] at hp;cases hp)⟩
theorem uE {σ τ:aa} (hs:σ.Sub τ) (h m o:Nat) (f:AV) (n:Nat) (ls:List Th) (em:EM) (w:Int):(bg σ h m o f n ls em w).Sub (bg τ h m o f n ls em w):=by
 intro p x hp
 simp only[bg,aa.put] at hp ⊢
 split
 ·rename_i h1;rw[if_pos h1] at hp;exact hp
 ·rename_i h1
  rw[if_neg h1] at hp
  split
  ·rename_i h2;rw[if_pos h2] at hp;exact hp
  ·rename_i h2
   rw[if_neg h2] at hp
   split
   ·rename_i h3;rw[if_pos h3] at hp;exact hp
   ·rename_i h3;rw[if_neg h3] at hp;exact hs p x hp
theorem dz {h m o:Nat} (d:ei h m o) (f:AV) (n:Nat) (ls:List Th) (hn:n≤ls.length) (em:EM) (w:Int) (i:Nat) (hi:i<n) (x:Th) (σ:aa):
  af Tryz.prog 311 [.ptr h 0 0,.int .i64 i,.agg [.int .i64 x.k,.int .i64 x.r.c,.sl x.r.kd (bI x.r.l),.int .i64 x.w]] (bg σ h m o f n ls em w) (fun r s=>r= .bK []∧s=bg σ h m o f n (ls.set i x) (cm x.k i em) w):=by
 have g1:=cp (show i<ls.length by omega)
 have hin:((i:Int)<(n:Int))=True:=eq_true (by omega)
 refine ai [] 20 Tryz.func311 (by rfl) rfl rfl rfl rfl ?_
 (have kX:=C4 @d.rh @d.rm @d.ro @d.wh @d.wm @d.wo @g1 @hin @dY.eq_1 @mN @sj @gO;repeat' first|refine zw ?_|refine ry (id:=1) [] (cw [3] [7] [] [] []) fun nu _ _=>?_|refine ry (id:=2) [] (cw [3] [7] [] [] []) fun nu _ _=>?_|refine zy fun nu _ _=>?_|refine zc rfl (fun h=>?_) fun h=>?_|refine zi (fun h=>?_) fun h=>?_|exact .intro|fail);all_goals clear kX
def nN (fi:Nat) (lt:Rk→Rk→Bool):Prop:=∀ (a b:Rk) (s:aa),af Tryz.prog fi [.agg [.int .i64 a.c,.sl a.kd (bI a.l)],.agg [.int .i64 b.c,.sl b.kd (bI b.l)]] s (fun r t=>r= .bool (lt a b)∧t=s)
theorem bN {fi:Nat} {lt:Rk→Rk→Bool} (hf:nN fi lt) {p:Nat} {v mm:AV} {w:Int} (x y:Th) (σ:aa) (hσ:σ p=some (.arr 368 [.agg [.fn fi [],v,mm,.int .i64 w]])):
  af Tryz.prog 329 [.ptr p 0 0,.agg [.int .i64 x.k,.int .i64 x.r.c,.sl x.r.kd (bI x.r.l),.int .i64 x.w],.agg [.int .i64 y.k,.int .i64 y.r.c,.sl y.r.kd (bI y.r.l),.int .i64 y.w]] σ (fun r s=>r= .bool (ahead lt x y)∧s=σ):=by
 refine ah [.tmp 6] 33 Tryz.func329 (by rfl) rfl rfl rfl rfl ?_
 rcases(Bool.eq_false_or_eq_true (lt x.r y.r)).symm with b1|b1
 ·rcases(Bool.eq_false_or_eq_true (lt y.r x.r)).symm with b2|b2
  ·skip
   (have kX:=g8 @hσ @b1 @b2;repeat' first|refine zw ?_|refine ry (id:=1) [] (cq [3]) fun nu _ _=>?_|refine ry (id:=3) [] (cq [3]) fun nu _ _=>?_|refine zy fun nu _ _=>?_|refine zc rfl (fun h=>?_) fun h=>?_|refine zi (fun h=>?_) fun h=>?_|exact .intro|refine us (fun s=>hf _ _ s) ?_|fail);all_goals clear kX
   simp[ahead,b1,b2]
  ·skip
   (have kX:=g8 @hσ @b1 @b2;repeat' first|refine zw ?_|refine ry (id:=1) [] (cq [3]) fun nu _ _=>?_|refine ry (id:=3) [] (cq [3]) fun nu _ _=>?_|refine zy fun nu _ _=>?_|refine zc rfl (fun h=>?_) fun h=>?_|refine zi (fun h=>?_) fun h=>?_|exact .intro|refine us (fun s=>hf _ _ s) ?_|fail);all_goals clear kX
   simp[ahead,b1,b2]
 ·skip
  (have kX:=g9 @hσ @b1;repeat' first|refine zw ?_|refine ry (id:=1) [] (cq [3]) fun nu _ _=>?_|refine ry (id:=3) [] (cq [3]) fun nu _ _=>?_|refine zy fun nu _ _=>?_|refine zc rfl (fun h=>?_) fun h=>?_|refine zi (fun h=>?_) fun h=>?_|exact .intro|refine us (fun s=>hf _ _ s) ?_|fail);all_goals clear kX
  simp[ahead,b1]
theorem yF {fi:Nat} {lt:Rk→Rk→Bool} (hf:nN fi lt) {p m o:Nat} (d:ei p m o) (n:Nat) (w:Int) (x:Th) (I:List Th→EM→Nat→Prop) (hI:∀ls em i,I ls em i→i<n∧n≤ls.length∧ls.length<1000000)
  (hstep:∀ls em i,I ls em i→0<i→ahead lt x (ls.getD ((i-1)/2) av)=true→I (ls.set i (ls.getD ((i-1)/2) av)) (cm (ls.getD ((i-1)/2) av).k i em) ((i-1)/2))
  (ls:List Th) (em:EM) (i:Nat) (hx:ls.getD i av=x) (h0:I ls em i) (σ:aa):
  af Tryz.prog 313 [.ptr p 0 0,.int .i64 i] (bg σ p m o (.fn fi []) n ls em w)
   (fun r s=>∃ls' em' i',I ls' em' i'∧(i'=0∨ahead lt x (ls'.getD ((i'-1)/2) av)=false)∧r= .int .i64 i'∧s=bg σ p m o (.fn fi []) n (ls'.set i' x) (cm x.k i' em') w):=by
 obtain⟨b1,b2,b3⟩:=hI _ _ _ h0
 have g1:=cp (show i<ls.length by omega)
 rw[hx] at g1
 have hin:((i:Int)<(n:Int))=True:=eq_true (by omega)
 refine ai [.tmp 4] 49 Tryz.func313 (by rfl) rfl rfl rfl rfl ?_
 (have kX:=Cu @d.rh @d.rm @d.ro @d.wh @d.wm @d.wo @g1 @hin;repeat' first|refine zw ?_|refine zy fun nu _ _=>?_|refine zc rfl (fun h=>?_) fun h=>?_|refine zi (fun h=>?_) fun h=>?_|exact .intro|fail);all_goals clear kX
 intro o1 ho1
 have l:=d.fresh ho1
 have hso:σ o1=none:=by rw[←ho1,l.rd]
 rw[l.wr]
 (have kX:=sv @d.rh @d.rm @d.ro @d.wh @d.wm @d.wo @l.rd @l.wr @g1 @hin @dY.eq_1;repeat' first|refine zw ?_|refine zy fun nu _ _=>?_|refine zc rfl (fun h=>?_) fun h=>?_|refine zi (fun h=>?_) fun h=>?_|exact .intro|fail);all_goals clear kX
 refine ak (fun t:List Th×EM×Nat=>[(0,.ptr p 0 0),(1,.int .i64 t.2.2),(5,.ptr o1 0 0)]) (fun t=>bg (σ.put o1 (.arr 370 [.agg [.int .i64 x.k,.int .i64 x.r.c,.sl x.r.kd (bI x.r.l),.int .i64 x.w]])) p m o (.fn fi []) n t.1 t.2.1 w) (fun t=>I t.1 t.2.1 t.2.2) (fun t=>t.2.2) (ls,em,i) h0 (Env.ab (by simp[Env.Has,Env.get])) (aa.Sub.refl _) ?_
 rintro⟨ls,em,i⟩ hi
 simp only at hi
 obtain⟨b1,b2,b3⟩:=hI _ _ _ hi
 have hsub:∀ls em,(bg σ p m o (.fn fi []) n ls em w).Sub (bg (σ.put o1 (.arr 370 [.agg [.int .i64 x.k,.int .i64 x.r.c,.sl x.r.kd (bI x.r.l),.int .i64 x.w]])) p m o (.fn fi []) n ls em w):=fun ls em=>uE (aw (aa.Sub.refl _) hso _) p m o _ n ls em w
 by_cases i0:i=0
 ·have c0:decide (0<(i:Int))=false:=xL (by omega)
  (have kX:=A3 @d.rh @d.rm @d.ro @d.wh @d.wm @d.wo @l.rd @l.wr @c0;repeat' first|refine zw ?_|refine ry (id:=2) [] (cq [4,8,13,14]) fun nu _ _=>?_|refine zy fun nu _ _=>?_|refine zc rfl (fun h=>?_) fun h=>?_|refine zi (fun h=>?_) fun h=>?_|exact .intro|refine uw (dz d _ n ls b2 em w i b1 x _) ?_|fail);all_goals clear kX
  exact⟨_,hsub _ _,ls,em,i,hi,.inl i0,rfl,rfl⟩
 ·have c0:decide (0<(i:Int))=true:=xK (by omega)
  have hw1:IntKind.i64.wrap ((i:Int)-1)=((i-1:Nat):Int):=by rw[cR (by omega) (by omega)];omega
  have hw2:IntKind.i64.wrap (((i-1:Nat):Int).tdiv 2)=(((i-1)/2:Nat):Int):=by
   rw[show((i-1:Nat):Int).tdiv 2=(((i-1)/2:Nat):Int) from rfl,cR (by omega) (by omega)]
  have hp:(i-1)/2<ls.length:=by omega
  have gp:=cp hp
  have hpn:((((i-1)/2:Nat):Int)<(n:Int))=True:=eq_true (by omega)
  have h20:((2:Int)=0)=False:=by simp
  rcases(Bool.eq_false_or_eq_true (ahead lt x (ls.getD ((i-1)/2) av))).symm with ha|ha
  ·skip
   (have kX:=zX @d.rh @d.rm @d.ro @d.wh @d.wm @d.wo @l.rd @l.wr @c0 @hw1 @hw2 @gp @hpn @h20 @ha;repeat' first|refine zw ?_|refine ry (id:=2) [] (cq [4,8,13,14]) fun nu _ _=>?_|refine zy fun nu _ _=>?_|refine zc rfl (fun h=>?_) fun h=>?_|refine zi (fun h=>?_) fun h=>?_|exact .intro|refine uw (dz d _ n ls b2 em w i b1 x _) ?_|refine ct (bN hf x (ls.getD ((i-1)/2) av) _ (d.rh _ _ _ _ _ _)) ?_|refine uw (bN hf x (ls.getD ((i-1)/2) av) _ (d.rh _ _ _ _ _ _)) ?_|fail);all_goals clear kX
   exact⟨_,hsub _ _,ls,em,i,hi,.inr ha,rfl,rfl⟩
  ·skip
   (have kX:=zX @d.rh @d.rm @d.ro @d.wh @d.wm @d.wo @l.rd @l.wr @c0 @hw1 @hw2 @gp @hpn @h20 @ha;repeat' first|refine zw ?_|refine ry (id:=2) [] (cq [4,8,13,14]) fun nu _ _=>?_|refine zy fun nu _ _=>?_|refine zc rfl (fun h=>?_) fun h=>?_|refine zi (fun h=>?_) fun h=>?_|exact .intro|refine uw (dz d _ n ls b2 em w i b1 (ls.getD ((i-1)/2) av) _) ?_|refine ct (bN hf x (ls.getD ((i-1)/2) av) _ (d.rh _ _ _ _ _ _)) ?_|refine uw (bN hf x (ls.getD ((i-1)/2) av) _ (d.rh _ _ _ _ _ _)) ?_|fail);all_goals clear kX
   exact⟨(ls.set i (ls.getD ((i-1)/2) av),cm (ls.getD ((i-1)/2) av).k i em,(i-1)/2),by simp only;omega,hstep _ _ _ hi (by omega) ha,Env.ab (by simp[Env.Has,Env.get]),aa.Sub.refl _⟩
theorem vK {fi:Nat} {lt:Rk→Rk→Bool} (hf:nN fi lt) {p m o:Nat} (d:ei p m o) (n:Nat) (w:Int) (x:Th) (I:List Th→EM→Nat→Prop) (hI:∀ls em i,I ls em i→i<n∧n≤ls.length∧ls.length<1000000)
  (hstep:∀ls em i,I ls em i→2*i+1<n→ahead lt (ls.getD (child lt n ls i) av) x=true→I (ls.set i (ls.getD (child lt n ls i) av)) (cm (ls.getD (child lt n ls i) av).k i em) (child lt n ls i))
  (ls:List Th) (em:EM) (i:Nat) (hx:ls.getD i av=x) (h0:I ls em i) (σ:aa):
  af Tryz.prog 312 [.ptr p 0 0,.int .i64 i] (bg σ p m o (.fn fi []) n ls em w)
   (fun r s=>∃ls' em' i',I ls' em' i'∧(n≤2*i'+1∨ahead lt (ls'.getD (child lt n ls' i') av) x=false)∧r= .bK []∧s=bg σ p m o (.fn fi []) n (ls'.set i' x) (cm x.k i' em') w):=by
 obtain⟨b1,b2,b3⟩:=hI _ _ _ h0
 have g1:=cp (show i<ls.length by omega)
 rw[hx] at g1
 have hin:((i:Int)<(n:Int))=True:=eq_true (by omega)
 refine ai [] 78 Tryz.func312 (by rfl) rfl rfl rfl rfl ?_
 (have kX:=Cu @d.rh @d.rm @d.ro @d.wh @d.wm @d.wo @g1 @hin;repeat' first|refine zw ?_|refine zy fun nu _ _=>?_|refine zc rfl (fun h=>?_) fun h=>?_|refine zi (fun h=>?_) fun h=>?_|exact .intro|fail);all_goals clear kX
 intro o1 ho1
 have l:=d.fresh ho1
 have hso:σ o1=none:=by rw[←ho1,l.rd]
 rw[l.wr]
 (have kX:=sv @d.rh @d.rm @d.ro @d.wh @d.wm @d.wo @l.rd @l.wr @g1 @hin @dY.eq_1;repeat' first|refine zw ?_|refine zy fun nu _ _=>?_|refine zc rfl (fun h=>?_) fun h=>?_|refine zi (fun h=>?_) fun h=>?_|exact .intro|fail);all_goals clear kX
 refine ak (fun t:List Th×EM×Nat=>[(0,.ptr p 0 0),(1,.int .i64 t.2.2),(4,.ptr o1 0 0)]) (fun t=>bg (σ.put o1 (.arr 370 [.agg [.int .i64 x.k,.int .i64 x.r.c,.sl x.r.kd (bI x.r.l),.int .i64 x.w]])) p m o (.fn fi []) n t.1 t.2.1 w) (fun t=>I t.1 t.2.1 t.2.2) (fun t=>n-t.2.2) (ls,em,i) h0 (Env.ab (by simp[Env.Has,Env.get])) (aa.Sub.refl _) ?_
 rintro⟨ls,em,i⟩ hi
 simp only at hi
 obtain⟨b1,b2,b3⟩:=hI _ _ _ hi
 have hsub:∀ls em,(bg σ p m o (.fn fi []) n ls em w).Sub (bg (σ.put o1 (.arr 370 [.agg [.int .i64 x.k,.int .i64 x.r.c,.sl x.r.kd (bI x.r.l),.int .i64 x.w]])) p m o (.fn fi []) n ls em w):=fun ls em=>uE (aw (aa.Sub.refl _) hso _) p m o _ n ls em w
 have hw1:IntKind.i64.wrap (2*(i:Int))=((2*i:Nat):Int):=by rw[cR (by omega) (by omega)];omega
 have hw2:IntKind.i64.wrap (((2*i:Nat):Int)+1)=((2*i+1:Nat):Int):=by rw[cR (by omega) (by omega)];omega
 have hw3:IntKind.i64.wrap (((2*i+1:Nat):Int)+1)=((2*i+2:Nat):Int):=by rw[cR (by omega) (by omega)];omega
 by_cases u0:n≤2*i+1
 ·have c0:decide ((n:Int)≤((2*i+1:Nat):Int))=true:=xK (by omega)
  (have kX:=sv @d.rh @d.rm @d.ro @d.wh @d.wm @d.wo @l.rd @l.wr @c0 @hw1 @hw2;repeat' first|refine zw ?_|refine zy fun nu _ _=>?_|refine zc rfl (fun h=>?_) fun h=>?_|refine zi (fun h=>?_) fun h=>?_|exact .intro|refine uw (dz d _ n ls b2 em w i b1 x _) ?_|fail);all_goals clear kX
  exact⟨_,hsub _ _,ls,em,i,hi,.inl u0,rfl⟩
 ·have c0:decide ((n:Int)≤((2*i+1:Nat):Int))=false:=xL (by omega)
  have g1:=cp (show 2*i+1<ls.length by omega)
  have q1:(((2*i+1:Nat):Int)<(n:Int))=True:=eq_true (by omega)
  obtain⟨kk,hk⟩:∃k,k=child lt n ls i:=⟨_,rfl⟩
  have hkn:kk<n∧i<kk:=by
   rw[hk,child]
   split<;>omega
  have gk:=cp (show kk<ls.length by omega)
  have qk:((kk:Int)<(n:Int))=True:=eq_true (by omega)
  have hstep':=hstep ls em i hi (by omega)
  rw[←hk] at hstep'
  (have kX:=sv @d.rh @d.rm @d.ro @d.wh @d.wm @d.wo @l.rd @l.wr @c0 @hw1 @hw2;have kS:Sa 3:=⟨⟩;repeat' ((fail_if_success refine ss kS ?_);first|refine zw ?_|refine zy fun nu _ _=>?_|refine zc rfl (fun h=>?_) fun h=>?_|refine zi (fun h=>?_) fun h=>?_|exact .intro|fail));all_goals clear kX kS
  refine Ab [(0,.ptr p 0 0),(1,.int .i64 i),(4,.ptr o1 0 0),(5,.int .i64 kk)] (bg (σ.put o1 (.arr 370 [.agg [.int .i64 x.k,.int .i64 x.r.c,.sl x.r.kd (bI x.r.l),.int .i64 x.w]])) p m o (.fn fi []) n ls em w) ?_ ?_
  ·by_cases u1:2*i+2<n
   ·have c1:decide (((2*i+2:Nat):Int)<(n:Int))=true:=xK (by omega)
    have g2:=cp (show 2*i+2<ls.length by omega)
    have q2:(((2*i+2:Nat):Int)<(n:Int))=True:=eq_true (by omega)
    rcases(Bool.eq_false_or_eq_true (ahead lt (ls.getD (2*i+2) av) (ls.getD (2*i+1) av))).symm with ha|ha
    ·have hk1:kk=2*i+1:=by rw[hk,child,if_neg (by rw[ha];simp)]
     (have kX:=zX @d.rh @d.rm @d.ro @d.wh @d.wm @d.wo @l.rd @l.wr @c1 @g1 @g2 @q1 @q2 @hw3 @ha;repeat' first|refine zw ?_|refine ry (id:=3) [] (cq [5,13,17,21,24,25]) fun nu _ _=>?_|refine zy fun nu _ _=>?_|refine zc rfl (fun h=>?_) fun h=>?_|refine zi (fun h=>?_) fun h=>?_|exact .intro|refine ct (bN hf (ls.getD (2*i+2) av) (ls.getD (2*i+1) av) _ (d.rh _ _ _ _ _ _)) ?_|refine uw (bN hf (ls.getD (2*i+2) av) (ls.getD (2*i+1) av) _ (d.rh _ _ _ _ _ _)) ?_|fail);all_goals clear kX
     exact⟨Env.ab (by simp[Env.Has,Env.get,Env.aG,hk1]<;>omega),aa.Sub.refl _⟩
    ·have hk1:kk=2*i+2:=by rw[hk,child,if_pos ⟨u1,ha⟩]
     (have kX:=zX @d.rh @d.rm @d.ro @d.wh @d.wm @d.wo @l.rd @l.wr @c1 @g1 @g2 @q1 @q2 @hw3 @ha;repeat' first|refine zw ?_|refine ry (id:=3) [] (cq [5,13,17,21,24,25]) fun nu _ _=>?_|refine zy fun nu _ _=>?_|refine zc rfl (fun h=>?_) fun h=>?_|refine zi (fun h=>?_) fun h=>?_|exact .intro|refine ct (bN hf (ls.getD (2*i+2) av) (ls.getD (2*i+1) av) _ (d.rh _ _ _ _ _ _)) ?_|refine uw (bN hf (ls.getD (2*i+2) av) (ls.getD (2*i+1) av) _ (d.rh _ _ _ _ _ _)) ?_|fail);all_goals clear kX
     exact⟨Env.ab (by simp[Env.Has,Env.get,Env.aG,hk1]<;>omega),aa.Sub.refl _⟩
   ·have c1:decide (((2*i+2:Nat):Int)<(n:Int))=false:=xL (by omega)
    have hk1:kk=2*i+1:=by rw[hk,child,if_neg (by omega)]
    (have kX:=sx @d.rh @d.rm @d.ro @d.wh @d.wm @d.wo @l.rd @l.wr @c1 @hw3;repeat' first|refine zw ?_|refine ry (id:=3) [] (cq [5,13,17,21,24,25]) fun nu _ _=>?_|refine zy fun nu _ _=>?_|refine zc rfl (fun h=>?_) fun h=>?_|refine zi (fun h=>?_) fun h=>?_|exact .intro|fail);all_goals clear kX
    exact⟨Env.ab (by simp[Env.Has,Env.get,Env.aG,hk1]<;>omega),aa.Sub.refl _⟩
  ·rcases(Bool.eq_false_or_eq_true (ahead lt (ls.getD kk av) x)).symm with ha|ha
   ·have hend:n≤2*i+1∨ahead lt (ls.getD (child lt n ls i) av) x=false:= .inr (by rw[←hk];exact ha)
    (have kX:=sv @d.rh @d.rm @d.ro @d.wh @d.wm @d.wo @l.rd @l.wr @gk @qk @ha;repeat' first|refine zw ?_|refine ry (id:=5) [] (cq [4,7,8,9]) fun nu _ _=>?_|refine zy fun nu _ _=>?_|refine zc rfl (fun h=>?_) fun h=>?_|refine zi (fun h=>?_) fun h=>?_|exact .intro|refine ct (bN hf (ls.getD kk av) x _ (d.rh _ _ _ _ _ _)) ?_|refine uw (bN hf (ls.getD kk av) x _ (d.rh _ _ _ _ _ _)) ?_|refine uw (dz d _ n ls b2 em w i b1 x _) ?_|fail);all_goals clear kX
    exact⟨_,hsub _ _,ls,em,i,hi,hend,rfl⟩
   ·skip
    (have kX:=sv @d.rh @d.rm @d.ro @d.wh @d.wm @d.wo @l.rd @l.wr @gk @qk @ha;repeat' first|refine zw ?_|refine ry (id:=5) [] (cq [4,7,8,9]) fun nu _ _=>?_|refine zy fun nu _ _=>?_|refine zc rfl (fun h=>?_) fun h=>?_|refine zi (fun h=>?_) fun h=>?_|exact .intro|refine ct (bN hf (ls.getD kk av) x _ (d.rh _ _ _ _ _ _)) ?_|refine uw (bN hf (ls.getD kk av) x _ (d.rh _ _ _ _ _ _)) ?_|refine uw (dz d _ n ls b2 em w i b1 (ls.getD kk av) _) ?_|fail);all_goals clear kX
    exact⟨(ls.set i (ls.getD kk av),cm (ls.getD kk av).k i em,kk),by simp only;omega,hstep' ha,Env.ab (by simp[Env.Has,Env.get]),aa.Sub.refl _⟩
end Go.Proofs.YtgfjihpbphplhaaGreat

namespace Go.Proofs.YtgfjihpbphplhaaGreat
def hQ (x y:Nat):Int:=if x<y then-1 else if y<x then 1 else 0
def iH:List Nat→List Nat→Int
 | [],[]=>0
 | [],_::_=> -1
 |_::_,[]=>1
 |x::l,y::m=>if hQ x y≠0 then hQ x y else iH l m
def CS (a b c:Int):Int:=if a≠0 then a else if b≠0 then b else c
theorem qo {x y:Nat}:hQ x y<0↔x<y:=by
 unfold hQ
 split
 ·constructor
  ·intro _;assumption
  ·intro _;omega
 ·split<;>constructor<;>intro h<;>omega
theorem ff {x y:Nat}:hQ x y=0↔x=y:=by
 unfold hQ
 split
 ·constructor<;>intro h<;>omega
 ·split<;>constructor<;>intro h<;>omega
theorem uL:∀ (l m:List Nat),iH l m<0↔l<m
  | [],[]=>by simp[iH]
  | [],_::_=>by simp[iH]
  |_::_,[]=>by simp[iH]
  | x::l,y::m=>by
    have ih:=uL l m
    rw[iH,List.cons_lt_cons_iff]
    by_cases h:hQ x y=0
    · have e:=ff.1 h
      rw[if_neg (by simpa using h),ih]
      constructor
      · intro q;exact .inr ⟨e,q⟩
      · rintro(q|⟨_,q⟩)
        · omega
        · exact q
    · have e:x≠y:=fun q=>h (ff.2 q)
      rw[if_pos h,qo]
      constructor
      · exact .inl
      · rintro(q|⟨q,_⟩)
        · exact q
        · exact absurd q e
def my (x y:Wk):Bool:=decide (CS (hQ x.1 y.1) (hQ x.2.length y.2.length) (iH x.2 y.2)<0)
theorem tV (x y:Wk):my x y=true↔cF x y:=by
 unfold my CS cF
 rw[decide_eq_true_eq]
 by_cases h1:hQ x.1 y.1=0
 ·have e1:=ff.1 h1
  rw[if_neg (by simpa using h1)]
  by_cases h2:hQ x.2.length y.2.length=0
  ·have e2:=ff.1 h2
   rw[if_neg (by simpa using h2),uL]
   constructor
   ·intro h;exact .inr ⟨e1,.inr ⟨e2,h⟩⟩
   ·rintro(h|⟨_,h|⟨_,h⟩⟩)
    ·omega
    ·omega
    ·exact h
  ·have e2:x.2.length≠y.2.length:=fun q=>h2 (ff.2 q)
   rw[if_pos h2,qo]
   constructor
   ·intro h;exact .inr ⟨e1,.inl h⟩
   ·rintro(h|⟨_,h|⟨h,_⟩⟩)
    ·omega
    ·exact h
    ·exact absurd h e2
 ·have e1:x.1≠y.1:=fun q=>h1 (ff.2 q)
  rw[if_pos h1,qo]
  constructor
  ·exact .inl
  ·rintro(h|⟨h,_⟩)
   ·exact h
   ·exact absurd h e1
end Go.Proofs.YtgfjihpbphplhaaGreat

namespace Go.Proofs.YtgfjihpbphplhaaGreat
open Go.Kern Go.RowKit
set_option maxRecDepth 100000
set_option maxHeartbeats 4000000
attribute [local irreducible] af W
theorem xP (x y:Nat):iG (x:Int) (y:Int)=hQ x y:=by
 unfold iG hQ
 split<;>split<;>(try split)<;>(try split)<;>omega
theorem vN (l m:List Nat) (i:Nat) (h:i<l.length):iH (l.drop i) (m.drop i)=if i<m.length then(if hQ (l.getD i 0) (m.getD i 0)≠0 then hQ (l.getD i 0) (m.getD i 0) else iH (l.drop (i+1)) (m.drop (i+1))) else 1:=by
 rw[List.drop_eq_getElem_cons h]
 by_cases h2:i<m.length
 ·rw[List.drop_eq_getElem_cons h2,if_pos h2]
  simp[iH,List.getD_eq_getElem?_getD,h,h2]
 ·rw[List.drop_eq_nil_of_le (show m.length≤i by omega),if_neg h2]
  rfl
theorem xQ (l m:List Nat) (i:Nat) (h:l.length=i) (hi:i≤m.length):iH (l.drop i) (m.drop i)=if i<m.length then-1 else 0:=by
 rw[List.drop_eq_nil_of_le (by omega)]
 by_cases h2:i<m.length
 ·rw[List.drop_eq_getElem_cons h2,if_pos h2];rfl
 ·rw[List.drop_eq_nil_of_le (by omega),if_neg h2];rfl
theorem mM (k1 k2:SK) (l m:List Nat) (hl:l.length<1000000) (hm:m.length<1000000):Pure Tryz.prog 276 [.sl k1 (bI l),.sl k2 (bI m)] (.int .i64 (iH l m)):=by
 intro σ
 refine ah [.tmp 4] 36 Tryz.func276 (by rfl) rfl rfl rfl rfl ?_
 repeat' first|refine zw ?_|refine zy fun nu _ _=>?_|refine zc rfl (fun h=>?_) fun h=>?_|refine zi (fun h=>?_) fun h=>?_|exact .intro|fail
 refine ak (fun i:Nat=>[(0,.sl k1 (bI l)),(1,.sl k2 (bI m)),(9,.sl k1 (bI l)),(10,.int .i64 l.length),(11,.int .i64 i)]) (fun _=>σ) (fun i=>i≤l.length∧i≤m.length∧iH l m=iH (l.drop i) (m.drop i)) (fun i=>l.length-i) 0 ⟨Nat.zero_le _,Nat.zero_le _,rfl⟩ (Env.ab (by simp[Env.Has,Env.get])) (aa.Sub.refl _) ?_
 rintro i ⟨hi,him,hor⟩
 by_cases hlt:i<l.length
 ·have ho:=vN l m i hlt
  by_cases hlm:i<m.length
  ·have hcc:=dD ((l.getD i 0:Nat):Int) ((m.getD i 0:Nat):Int)
   rw[xP] at hcc
   rw[if_pos hlm] at ho
   by_cases hz:hQ (l.getD i 0) (m.getD i 0)=0
   ·rw[if_neg (by simpa using hz)] at ho
    (have kX:=@hz;repeat' first|refine zw ?_|refine zy fun nu _ _=>?_|refine zc rfl (fun h=>?_) fun h=>?_|refine zi (fun h=>?_) fun h=>?_|exact .intro|refine us (hcc) ?_|fail);all_goals clear kX
    exact⟨i+1,by omega,⟨by omega,by omega,by rw[hor,ho]⟩,Env.ab (by simp[Env.Has,Env.get]),aa.Sub.refl _⟩
   ·rw[if_pos hz] at ho
    (have kX:=@hz;repeat' first|refine zw ?_|refine zy fun nu _ _=>?_|refine zc rfl (fun h=>?_) fun h=>?_|refine zi (fun h=>?_) fun h=>?_|exact .intro|refine us (hcc) ?_|fail);all_goals clear kX
    rw[hor,ho]
  ·rw[if_neg hlm] at ho
   repeat' first|refine zw ?_|refine zy fun nu _ _=>?_|refine zc rfl (fun h=>?_) fun h=>?_|refine zi (fun h=>?_) fun h=>?_|exact .intro|fail
   rw[hor,ho]
 ·have hi':i=l.length:=by omega
  have ho:=xQ l m i (by omega) him
  by_cases hlm:i<m.length
  ·rw[if_pos hlm] at ho
   repeat' first|refine zw ?_|refine zy fun nu _ _=>?_|refine zc rfl (fun h=>?_) fun h=>?_|refine zi (fun h=>?_) fun h=>?_|exact .intro|fail
   rw[hor,ho]
  ·rw[if_neg hlm] at ho
   repeat' first|refine zw ?_|refine zy fun nu _ _=>?_|refine zc rfl (fun h=>?_) fun h=>?_|refine zi (fun h=>?_) fun h=>?_|exact .intro|fail
   rw[hor,ho]
def mz (a b:Rk):Bool:=my (pM a) (pM b)
theorem eM:nN 270 mz:=by
 intro a b σ
 have c1:=dD (a.c:Int) (b.c:Int)
 have c2:=dD (a.l.length:Int) (b.l.length:Int)
 have c3:=mM a.kd b.kd a.l b.l a.hl b.hl
 have c4:=tO .full [iG (a.c:Int) (b.c:Int),iG (a.l.length:Int) (b.l.length:Int),iH a.l b.l] (by simp)
 have e:mz a b=decide (yy [iG (a.c:Int) (b.c:Int),iG (a.l.length:Int) (b.l.length:Int),iH a.l b.l]<0):=by
  simp only[mz,my,pM,yy,xP,CS]
  by_cases h1:hQ a.c b.c=0
  ·by_cases h2:hQ a.l.length b.l.length=0
   ·by_cases h3:iH a.l b.l=0<;>simp[h1,h2,h3]
   ·simp[h1,h2]
  ·simp[h1]
 rw[e]
 simp only[ints,List.map_cons,List.map_nil] at c4
 refine ah [.tmp 4] 25 Tryz.func270 (by rfl) rfl rfl rfl rfl ?_
 repeat' first|refine zw ?_|refine zy fun nu _ _=>?_|refine zc rfl (fun h=>?_) fun h=>?_|refine zi (fun h=>?_) fun h=>?_|exact .intro|refine us (c1) ?_|refine us (c2) ?_|refine us (c3) ?_|refine us (c4) ?_|fail
theorem fI:ey pM mz:=fun a b=>tV _ _
end Go.Proofs.YtgfjihpbphplhaaGreat

namespace Go.Proofs.YtgfjihpbphplhaaGreat
def jr (rs:List bX) (u b:Nat):Option Nat:=
 if 1≤u∧u≤rs.length∧1≤b∧b≤rs.length then(fz (rs.getD (u-1) default) (rs.getD (b-1) default).name).map fun l=>l.cost.toNat else none
structure Sound (rs:List bX):Prop where
 names:(rs.map (·.name)).Nodup
 back:∀r,r∈rs→∀x,x∈r.links→∃o,o∈rs∧o.name=x.name∧o.name≠r.name∧∃y,fz o r.name=some y∧y.cost=x.cost
 cost:∀r,r∈rs→∀x,x∈r.links→0≤x.cost∧x.cost≤65536
theorem px {rs:List bX} {u b c:Nat} (h:jr rs u b=some c):(1≤u∧u≤rs.length)∧1≤b∧b≤rs.length:=by
 unfold jr at h
 split at h
 ·rename_i q;exact⟨⟨q.1,q.2.1⟩,q.2.2⟩
 ·cases h
theorem at_mem {rs:List bX} {u:Nat} (h:1≤u) (h2:u≤rs.length):rs.getD (u-1) default∈rs:=by
 have hl:u-1<rs.length:=by omega
 rw[List.getD_eq_getElem?_getD,List.getElem?_eq_getElem hl]
 exact List.getElem_mem hl
theorem yZ {rs:List bX} (hn:(rs.map (·.name)).Nodup):∀{a b:bX},a∈rs→b∈rs→a.name=b.name→a=b:=by
 intro a b ha hb h
 obtain⟨i,hi,rfl⟩:=List.getElem_of_mem ha
 obtain⟨j,hj,rfl⟩:=List.getElem_of_mem hb
 have e1:(rs.map (·.name))[i]? =some rs[i].name:=by rw[List.getElem?_map,List.getElem?_eq_getElem hi];rfl
 have e2:(rs.map (·.name))[j]? =some rs[i].name:=by rw[h,List.getElem?_map,List.getElem?_eq_getElem hj];rfl
 have:=(List.getElem?_inj (by simpa using hi) hn).1 (e1.trans e2.symm)
 subst this
 rfl
theorem qD {rs:List bX} (hs:Sound rs) {u b c:Nat} (h:jr rs u b=some c):jr rs b u=some c:=by
 obtain⟨⟨u1,u2⟩,b1,b2⟩:=px h
 unfold jr at h ⊢
 rw[if_pos ⟨u1,u2,b1,b2⟩] at h
 rw[if_pos ⟨b1,b2,u1,u2⟩]
 obtain⟨x,hx,hc⟩:=Option.map_eq_some_iff.1 h
 have hr:=at_mem (rs:=rs) u1 u2
 have ho:=at_mem (rs:=rs) b1 b2
 have hxm:x∈(rs.getD (u-1) default).links:=List.mem_of_find?_eq_some hx
 have hxn:=List.find?_some hx
 simp only[decide_eq_true_eq] at hxn
 obtain⟨o,g1,g2,_,y,g3,g4⟩:=hs.back _ hr x hxm
 have e:=yZ hs.names g1 ho (g2.trans hxn)
 subst e
 rw[g3,Option.map_some,g4,hc]
theorem yD {rs:List bX} (hs:Sound rs) (u b:Nat):jr rs u b=jr rs b u:=by
  cases h:jr rs u b with
  |some c=>rw[qD hs h]
  | none=>
    cases h2:jr rs b u with
    |none=>rfl
    |some c=>rw[qD hs h2] at h;cases h
theorem Ae {rs:List bX} (hs:Sound rs) {u b c:Nat} (h:jr rs u b=some c):c≤65536:=by
 obtain⟨⟨u1,u2⟩,b1,b2⟩:=px h
 unfold jr at h
 rw[if_pos ⟨u1,u2,b1,b2⟩] at h
 obtain⟨x,hx,hc⟩:=Option.map_eq_some_iff.1 h
 have:=hs.cost _ (at_mem (rs:=rs) u1 u2) x (List.mem_of_find?_eq_some hx)
 omega
end Go.Proofs.YtgfjihpbphplhaaGreat

namespace Go.Proofs.YtgfjihpbphplhaaGreat
open Go.Kern Go.RowKit
structure bq where
 a:Int
 o:Nat
 es:List (Int×Int)
abbrev ES:=List (Int×Int)
def zk (es:ES):List (AV×AV):=es.map fun p=>(.int .i64 p.1,.int .i64 p.2)
def iD (L:List bq):List (AV×AV):=L.map fun x=>(.int .i64 x.a,.map x.o)
def fZ (b c:Int):ES→ES
 | []=>[(b,c)]
 |e::r=>if b=e.1 then(b,c)::r else e::fZ b c r
def fW (b:Int):ES→Option Int
 | []=>none
 |e::r=>if b=e.1 then some e.2 else fW b r
def bc (L:List bq) (a:Int):Option bq:=L.find? fun x=>decide (a=x.a)
def da (L:List bq) (u b:Int):Option Int:=(bc L u).bind fun x=>fW b x.es
theorem rJ (es:ES):dJ (.int .i64) (zk es)=true:=by simp[dJ,zk,aH]
theorem iZ (L:List bq):dJ (.int .i64) (iD L)=true:=by simp[dJ,iD,aH]
theorem si (b c:Int):∀es:ES,dq (.int .i64 b) (.int .i64 c) (zk es)=zk (fZ b c es)
  | []=>rfl
  | e::r=>by
    have ih:=si b c r
    simp only[zk,List.map_cons,dq,fZ,dv,decide_eq_true_eq] at ih ⊢
    split
    · rfl
    · rw[ih];rfl
theorem rQ (b:Int):∀es:ES,(zk es).find? (fun e=>dv (.int .i64 b) e.1)=(fW b es).map fun c=>(AV.int .i64 b,AV.int .i64 c)
  | []=>rfl
  | e::r=>by
    have ih:=rQ b r
    simp only[zk,List.map_cons,List.find?_cons,fW,dv] at ih ⊢
    by_cases h:b=e.1
    · subst h;simp
    · rw[if_neg h,decide_eq_false h];exact ih
theorem fe (a:Int):∀L:List bq,(iD L).find? (fun e=>dv (.int .i64 a) e.1)=(bc L a).map fun x=>(AV.int .i64 a,AV.map x.o)
  | []=>rfl
  | e::r=>by
    have ih:=fe a r
    simp only[iD,bc,List.map_cons,List.find?_cons,dv] at ih ⊢
    by_cases h:a=e.a
    · rw[decide_eq_true h];subst h;rfl
    · rw[decide_eq_false h];exact ih
theorem cI {L:List bq} {a:Int} {x:bq} (h:bc L a=some x):x∈L∧x.a=a:=by
 refine⟨List.mem_of_find?_eq_some h,?_⟩
 have:=List.find?_some h
 simp only[decide_eq_true_eq] at this
 exact this.symm
theorem pf (a:Int) (o:Nat):∀L:List bq,bc L a=none→dq (.int .i64 a) (.map o) (iD L)=iD (L++[⟨a,o,[]⟩])
  | [],_=>rfl
  | e::r,h=>by
    unfold bc at h
    rw[List.find?_cons] at h
    have hne:¬a=e.a:=fun q=>by rw[decide_eq_true q] at h;cases h
    rw[decide_eq_false hne] at h
    have ih:=pf a o r h
    simp only[iD,List.map_cons,List.cons_append,dq,dv,decide_eq_true_eq] at ih ⊢
    rw[if_neg hne,ih]
def eS (L:List bq) (a b c:Int):List bq:=L.map fun x=>if x.a=a then {x with es:=fZ b c x.es} else x
theorem qh (L:List bq) (a b c:Int):iD (eS L a b c)=iD L:=by
 simp only[iD,eS,List.map_map]
 apply List.map_congr_left
 intro x _
 simp only[Function.comp]
 split<;>rfl
theorem iq (L:List bq) (a b c u:Int):bc (eS L a b c) u=(bc L u).map fun x=>if x.a=a then {x with es:=fZ b c x.es} else x:=by
  induction L with
  |nil=>rfl
  | cons e r ih=>
    simp only[bc,eS,List.map_cons,List.find?_cons] at ih ⊢
    have e1:(if e.a=a then({e with es:=fZ b c e.es}:bq) else e).a=e.a:=by split<;>rfl
    rw[e1]
    by_cases h:u=e.a
    · rw[decide_eq_true h];rfl
    · rw[decide_eq_false h];exact ih
theorem nA (b c v:Int):∀es:ES,fW v (fZ b c es)=if v=b then some c else fW v es
  | []=>by simp only[fZ,fW]
  | e::r=>by
    have ih:=nA b c v r
    simp only[fZ]
    split
    · rename_i q
      subst q
      simp only[fW]
      split<;>rfl
    · rename_i q
      simp only[fW,ih]
      by_cases h1:v=e.1
      · have:¬v=b:=fun h=>q (h▸h1▸rfl)
        rw[if_pos h1,if_neg this,if_pos h1]
      · rw[if_neg h1,if_neg h1]
theorem nC (L:List bq) (a b c u v:Int) (ha:(bc L a).isSome=true):da (eS L a b c) u v=if u=a∧v=b then some c else da L u v:=by
  unfold da
  rw[iq]
  cases h:bc L u with
  | none=>
    rw[if_neg]
    · rfl
    · rintro⟨rfl,_⟩;rw[h] at ha;cases ha
  | some x=>
    have hx:=(cI h).2
    simp only[Option.map_some,Option.bind_some]
    by_cases hu:u=a
    · subst hu
      rw[if_pos hx,nA]
      simp only[true_and]
    · rw[if_neg (by rw[hx];exact hu),if_neg (fun q=>hu q.1)]
theorem lQ (L:List bq) (a:Int) (o:Nat) (u:Int) (h:bc L a=none):bc (L++[⟨a,o,[]⟩]) u=if u=a then some ⟨a,o,[]⟩ else bc L u:=by
 unfold bc at h ⊢
 rw[List.find?_append]
 by_cases hu:u=a
 ·subst hu
  rw[h,if_pos rfl]
  simp
 ·rw[if_neg hu]
  have:List.find? (fun x:bq=>decide (u=x.a)) [⟨a,o,[]⟩]=none:=by simp[hu]
  rw[this]
  simp
theorem rU (L:List bq) (a:Int) (o:Nat) (u v:Int) (h:bc L a=none):da (L++[⟨a,o,[]⟩]) u v=da L u v:=by
 unfold da
 rw[lQ L a o u h]
 by_cases hu:u=a
 ·subst hu;rw[if_pos rfl,h];rfl
 ·rw[if_neg hu]
structure GR (g m:Nat) (L:List bq) (s:aa):Prop where
 rg:s g=some (.arr 223 [.agg [.map m]])
 rm:s m=some (.map (iD L))
 ob:∀x,x∈L→s x.o=some (.map (zk x.es))
theorem GR.sub {g m:Nat} {L:List bq} {s t:aa} (h:GR g m L s) (hs:s.Sub t):GR g m L t:=⟨hs _ _ h.rg,hs _ _ h.rm,fun x hx=>hs _ _ (h.ob x hx)⟩
structure GS (σ:aa) (g m:Nat) (L:List bq) (s:aa):Prop where
 gr:GR g m L s
 sub:σ.Sub s
 fg:σ g=none
 fm:σ m=none
 fo:∀x,x∈L→σ x.o=none
 om:∀x,x∈L→x.o≠m
 od:L.Pairwise fun x y=>x.o≠y.o
 ad:L.Pairwise fun x y=>x.a≠y.a
 B7:L.length<1000
 sm:∀x,x∈L→(x.es.length<1000∧(x.es.map (·.1)).Nodup∧∀p,p∈x.es→ -1000≤p.1∧p.1≤1000)∧ -1000≤x.a∧x.a≤1000
end Go.Proofs.YtgfjihpbphplhaaGreat

namespace Go.Proofs.YtgfjihpbphplhaaGreat
theorem xr {w:Nat→Nat→Option Nat} {a:Nat} {D:Nat→Option Wk} (h0:∃x,D a=some x∧¬cF (0,[a]) x) (h1:∀u r b c,D u=some r→w u b=some c→∃r',D b=some r'∧¬cF (aJ r c b) r') (hs:∀b x,D b=some x→dk w a b x):∀b x,D b=some x→cE w a b x:=by
  have key:∀b y,dk w a b y→∃x,D b=some x∧¬cF y x:=by
    intro b y hy
    induction hy with
    |one=>exact h0
    | @snoc u b c y hy e ih=>
      obtain⟨r,g1,g2⟩:=ih
      obtain⟨r',g3,g4⟩:=h1 u r b c g1 e
      exact⟨r',g3,cF.cS (fw g2 c b) g4⟩
  intro b x hx
  refine⟨hs b x hx,fun y hy=>?_⟩
  obtain⟨x',g1,g2⟩:=key b y hy
  rw[hx] at g1;injection g1 with g1
  rw[g1];exact g2
def w3 (u b:Nat):Option Nat:=if (u=1∧b=2)∨(u=2∧b=1)∨(u=2∧b=3)∨(u=3∧b=2) then some 1 else none
theorem py {u b c:Nat} (h:w3 u b=some c):c=1∧((u=1∧b=2)∨(u=2∧b=1)∨(u=2∧b=3)∨(u=3∧b=2)):=by
 unfold w3 at h
 split at h
 ·rename_i q;injection h with h;exact⟨h.symm,q⟩
 ·cases h
def d3 (b:Nat):Option Wk:=if b=1 then some (0,[1]) else if b=2 then some (1,[1,2]) else if b=3 then some (2,[1,2,3]) else none
theorem Ce:cE w3 1 3 (2,[1,2,3]):=by
 refine xr (D:=d3) ⟨_,rfl,cF.irrefl _⟩ ?_ ?_ 3 _ rfl
 ·intro u r b c hu e
  obtain⟨rfl,q⟩:=py e
  rcases q with ⟨rfl,rfl⟩|⟨rfl,rfl⟩|⟨rfl,rfl⟩|⟨rfl,rfl⟩<;>(simp only[d3] at hu;injection hu with hu;subst hu)
  ·exact⟨_,rfl,cF.irrefl _⟩
  ·refine⟨_,rfl,?_⟩
   rintro(h|⟨h,_⟩)<;>simp[aJ] at h
  ·exact⟨_,rfl,cF.irrefl _⟩
  ·refine⟨_,rfl,?_⟩
   rintro(h|⟨h,_⟩)<;>simp[aJ] at h
 ·have s1:dk w3 1 1 (0,[1]):= .one
  have s2:dk w3 1 2 (1,[1,2]):=dk.snoc (b:=2) (c:=1) s1 rfl
  have s3:dk w3 1 3 (2,[1,2,3]):=dk.snoc (b:=3) (c:=1) s2 rfl
  intro b x hx
  unfold d3 at hx
  split at hx
  ·rename_i e;subst e;injection hx with hx;subst hx;exact s1
  ·split at hx
   ·rename_i e;subst e;injection hx with hx;subst hx;exact s2
   ·split at hx
    ·rename_i e;subst e;injection hx with hx;subst hx;exact s3
    ·cases hx
end Go.Proofs.YtgfjihpbphplhaaGreat

namespace Go.Proofs.YtgfjihpbphplhaaGreat
theorem pU (S:Nat→Prop) (h:∃n,S n):∃n,S n∧∀m,S m→n≤m:=by
  obtain⟨n,hn⟩:=h
  induction n using Nat.strongRecOn with
  | ind n ih=>
    by_cases q:∃m,m<n∧S m
    · obtain⟨m,h1,h2⟩:=q;exact ih m h1 h2
    · exact⟨n,hn,fun m hm=>by
        by_cases h:n≤m
        · exact h
        · exact absurd ⟨m,by omega,hm⟩ q⟩
theorem rr:∀ (k:Nat) (S:List Nat→Prop),(∃l,S l∧l.length=k)→∃l,S l∧l.length=k∧∀m,S m→m.length=k→¬m<l
  |0,S,⟨l,h1,h2⟩=>⟨l,h1,h2,fun m _ h4 h5=>by
      rw[List.eq_nil_of_length_eq_zero h2,List.eq_nil_of_length_eq_zero h4] at h5
      exact List.lt_irrefl _ h5⟩
  | k+1,S,⟨l,h1,h2⟩=>by
    obtain⟨x,⟨t,ht1,ht2⟩,hx⟩:=pU (fun x=>∃t,S (x::t)∧t.length=k) (by
      cases l with
      |nil=>simp at h2
      |cons x t=>exact⟨x,t,h1,by simpa using h2⟩)
    obtain⟨t,g1,g2,g3⟩:=rr k (fun t=>S (x::t)) ⟨t,ht1,ht2⟩
    refine⟨x::t,g1,by simp[g2],fun m hm hl hlt=>?_⟩
    cases m with
    |nil=>simp at hl
    | cons y u=>
      have hu:u.length=k:=by simpa using hl
      have:=hx y ⟨u,hm,hu⟩
      rw[List.cons_lt_cons_iff] at hlt
      rcases hlt with h|⟨rfl,h⟩
      · omega
      · exact g3 u hm hu h
theorem zR {w:Nat→Nat→Option Nat} {a b:Nat} {y:Wk} (h:dk w a b y):∃x,cE w a b x:=by
 obtain⟨c,⟨l0,h0⟩,hc⟩:=pU (fun c=>∃l,dk w a b (c,l)) ⟨y.1,y.2,h⟩
 obtain⟨n,⟨l1,h1,hn1⟩,hn⟩:=pU (fun n=>∃l,dk w a b (c,l)∧l.length=n) ⟨l0.length,l0,h0,rfl⟩
 obtain⟨l,g1,g2,g3⟩:=rr n (fun l=>dk w a b (c,l)) ⟨l1,h1,hn1⟩
 refine⟨(c,l),g1,fun z hz hlt=>?_⟩
 obtain⟨zc,zl⟩:=z
 rcases hlt with q|⟨q1,q|⟨q2,q⟩⟩
 ·have:=hc zc ⟨zl,hz⟩
  simp only at q;omega
 ·simp only at q1 q;subst q1
  have:=hn zl.length ⟨zl,hz,rfl⟩
  omega
 ·simp only at q1 q2 q;subst q1
  exact g3 zl hz (by omega) q
open Classical in
noncomputable def aV (w:Nat→Nat→Option Nat) (a b:Nat):Option Wk:=if h:∃x,cE w a b x then some (Classical.choose h) else none
theorem gN {w:Nat→Nat→Option Nat} {a b:Nat} {x:Wk} (h:cE w a b x):aV w a b=some x:=by
 unfold aV
 rw[dif_pos ⟨x,h⟩]
 congr 1
 exact(Classical.choose_spec ⟨x,h⟩:cE w a b _).unique h
theorem tX {w:Nat→Nat→Option Nat} {a b:Nat} (h:∀y,¬dk w a b y):aV w a b=none:=by
 unfold aV
 rw[dif_neg]
 rintro⟨x,hx⟩
 exact h x hx.1
theorem cj {w:Nat→Nat→Option Nat} {a b:Nat} {x:Wk} (h:aV w a b=some x):cE w a b x:=by
 unfold aV at h
 split at h
 ·rename_i q
  injection h with h
  rw[←h];exact Classical.choose_spec q
 ·cases h
theorem kY {w:Nat→Nat→Option Nat} {a b:Nat} {y:Wk} (h:dk w a b y):∃x,aV w a b=some x:=by
 obtain⟨x,hx⟩:=zR h
 exact⟨x,gN hx⟩
theorem se {w:Nat→Nat→Option Nat} {a b:Nat} (h:aV w a b=none):∀y,¬dk w a b y:=fun y hy=>by
 obtain⟨x,hx⟩:=kY hy
 rw[h] at hx;cases hx
theorem x8 {w:Nat→Nat→Option Nat} {a:Nat} {D:Nat→Option Wk} (hD:∀x r,D x=some r→cE w a x r) (cD:∀b y,dk w a b y→(D b).isSome=true) (b:Nat):D b=aV w a b:=by
  cases h:D b with
  |some r=>exact(gN (hD b r h)).symm
  | none=>
    refine(tX fun y hy=>?_).symm
    have:=cD b y hy
    rw[h] at this;cases this
def C9 (o:Option Wk):Int:=
 match o with
 |some x=>(x.1:Int)
 |none=> -1
def Ad (o:Option Wk):List Nat:=
 match o with
 |some x=>x.2
 |none=>[]
def kj (o:Option Wk):Nat:=(Ad o).getD 1 0
end Go.Proofs.YtgfjihpbphplhaaGreat

namespace Go.Proofs.YtgfjihpbphplhaaGreat
open Go.Kern Go.RowKit
theorem nj {α:Type} [Inhabited α] (E:α→AV) {l:List α} {i:Nat} (h:i<l.length):(aj E l)[i]? =some (E (l.getD i default)):=by
 simp[aj,List.getD_eq_getElem?_getD,h]
theorem qT {α:Type} (E:α→AV) (l:List α) (i:Nat) (x:α):(aj E l).set i (E x)=aj E (l.set i x):=by
 simp[aj,List.map_set]
section
variable {α:Type} [Inhabited α] (key:α→Int)
structure qx (l m:List α) (i j:Nat):Prop where
 perm:m.Perm l
 oth:∀p q,p<q→q≤i→p≠j→q≠j→key (m.getD p default)≤key (m.getD q default)
 beh:∀q,j<q→q≤i→key (m.getD j default)≤key (m.getD q default)
structure oD (l m:List α) (i:Nat):Prop where
 perm:m.Perm l
 srt:∀p q,p<q→q<i→key (m.getD p default)≤key (m.getD q default)
variable {key} {l m:List α} {i j:Nat}
theorem oD.len (h:oD key l m i):m.length=l.length:=h.perm.length_eq
theorem qx.len (h:qx key l m i j):m.length=l.length:=h.perm.length_eq
theorem oD.start:oD key l l 1:=⟨.refl _,fun p q h1 h2=>by omega⟩
theorem oD.CX (h:oD key l m i):qx key l m i i:=⟨h.perm,fun p q h1 h2 h3 h4=>h.srt p q h1 (by omega),fun q h1 h2=>by omega⟩
theorem qx.out (h:qx key l m i j) (hj:j≤i) (hb:j=0∨¬key (m.getD j default)<key (m.getD (j-1) default)):oD key l m (i+1):=
 ⟨h.perm,fun p q h1 h2=>by
  by_cases hp:p=j
  ·subst hp;exact h.beh q h1 (by omega)
  ·by_cases hq:q=j
   ·subst hq
    rcases hb with hb|hb
    ·omega
    ·by_cases e:p=q-1
     ·rw[e];omega
     ·have:=h.oth p (q-1) (by omega) (by omega) hp (by omega)
      omega
   ·exact h.oth p q h1 (by omega) hp hq⟩
theorem tF {l:List α} {i:Nat} (h:i<l.length) (x:α) (k:Nat):(l.set i x).getD k default=if k=i then x else l.getD k default:=by
 simp only[List.getD_eq_getElem?_getD,List.getElem?_set]
 by_cases e:i=k
 ·subst e;simp[h]
 ·rw[if_neg e,if_neg (fun q=>e q.symm)]
theorem qx.swap (h:qx key l m i j) (hj:0<j) (hji:j≤i) (hi:i<m.length) (hlt:key (m.getD j default)<key (m.getD (j-1) default)):
  qx key l ((m.set j (m.getD (j-1) default)).set (j-1) (m.getD j default)) i (j-1):=by
 have h1:j<m.length:=by omega
 have h2:j-1<m.length:=by omega
 have e1:m.getD j default=m[j]:=by simp[List.getD_eq_getElem?_getD,h1]
 have e2:m.getD (j-1) default=m[j-1]:=by simp[List.getD_eq_getElem?_getD,h2]
 have g:∀k,((m.set j (m.getD (j-1) default)).set (j-1) (m.getD j default)).getD k default=if k=j-1 then m.getD j default else if k=j then m.getD (j-1) default else m.getD k default:=fun k=>by
  rw[tF (by simp;omega),tF h1]
 refine⟨?_,fun p q hpq hq hp1 hq1=>?_,fun q hq1 hq=>?_⟩
 ·rw[e1,e2];exact(List.set_set_perm h1 h2).trans h.perm
 ·rw[g,g,if_neg hp1,if_neg hq1]
  by_cases hpj:p=j
  ·subst hpj
   rw[if_pos rfl,if_neg (by omega)]
   exact h.oth (p-1) q (by omega) hq (by omega) (by omega)
  ·rw[if_neg hpj]
   by_cases hqj:q=j
   ·subst hqj
    rw[if_pos rfl]
    exact h.oth p (q-1) (by omega) (by omega) hpj (by omega)
   ·rw[if_neg hqj];exact h.oth p q hpq hq hpj hqj
 ·rw[g,g,if_pos rfl,if_neg (by omega)]
  by_cases hqj:q=j
  ·subst hqj;rw[if_pos rfl];omega
  ·rw[if_neg hqj];exact h.beh q (by omega) hq
theorem oD.all (h:oD key l m i) (hi:m.length≤i):m.Pairwise fun a b=>key a≤key b:=by
 rw[List.pairwise_iff_getElem]
 intro p q hp hq hpq
 have:=h.srt p q hpq (by omega)
 simpa [List.getD_eq_getElem?_getD,hp,hq] using this
end
structure aU where
 to:Int
 outer:Bool
 client:Bool
 imp:ByteArray
 exp:ByteArray
instance :Inhabited aU:=⟨⟨0,false,false,⟨#[]⟩,⟨#[]⟩⟩⟩
def bB (p:aU):AV:= .agg [.int .i64 p.to,.bool p.outer,.bool p.client,.str p.imp,.str p.exp]
attribute [go_sem] bB
set_option maxRecDepth 100000
set_option maxHeartbeats 4000000
attribute [local irreducible] af W
theorem ck {P:Program} {f:FuncId} {args:List AV} {σ:aa} {K0 k:KK} {t:Tag k} (h:af P f args σ K0) (hk:∀r s,K0 r s→k r s):af P f args σ (bw k t):=h.mono hk
theorem tn (n:Nat) (h:n≤12) (σ:aa):af Tryz.prog 195 [.int .u64 n] σ (fun r t=>(∃v,r= .int .i64 v)∧t=σ):=by
 refine ai [.tmp 2] 25 Tryz.func195 (by rfl) rfl rfl rfl rfl ?_
 repeat' first|refine zw ?_|refine zy fun nu _ _=>?_|refine zc rfl (fun h=>?_) fun h=>?_|refine zi (fun h=>?_) fun h=>?_|exact .intro|fail
 refine And.intro (Int.ofNat_lt.2 (Nat.lt_of_lt_of_eq (show n<256 by omega) (by kernel_rfl))) ?_
 repeat' first|refine zw ?_|refine zy fun nu _ _=>?_|refine zc rfl (fun h=>?_) fun h=>?_|refine zi (fun h=>?_) fun h=>?_|exact .intro|fail
 exact⟨_,aa.Sub.refl _,⟨_,rfl⟩,rfl⟩
theorem kW (n:Nat) (h:n≤12) (σ:aa):af Tryz.prog 128 [.int .u64 n] σ (fun r t=>(∃v,r= .int .i64 v)∧t=σ):=by
 refine ai [.tmp 2] 8 Tryz.func128 (by rfl) rfl rfl rfl rfl ?_
 repeat' first|refine zw ?_|refine zy fun nu _ _=>?_|refine zc rfl (fun h=>?_) fun h=>?_|refine zi (fun h=>?_) fun h=>?_|exact .intro|fail
 refine ck (tn n h _) ?_
 rintro _ _ ⟨⟨v,rfl⟩,rfl⟩
 repeat' first|refine zw ?_|refine zy fun nu _ _=>?_|refine zc rfl (fun h=>?_) fun h=>?_|refine zi (fun h=>?_) fun h=>?_|exact .intro|fail
 exact⟨_,aa.Sub.refl _,⟨_,rfl⟩,rfl⟩
theorem y7 (fi:Nat) (l:List aU) (hc:∀a b,a∈l→b∈l→Pure Tryz.prog fi [bB a,bB b] (.int .i64 (iG ((fun p:aU=>p.to) a) ((fun p:aU=>p.to) b)))) (hl:l.length<1000000) (o:Nat) (σ:aa):
  af Tryz.prog 186 [.ms o 5 0 l.length,.int .i64 0,.int .i64 l.length,.fn fi []] (σ.put o (.arr 147 (aj bB l))) (fun r t=>r= .bK []∧∃m,t=σ.put o (.arr 147 (aj bB m))∧m.Perm l∧m.Pairwise fun a b=>(fun p:aU=>p.to) a≤(fun p:aU=>p.to) b):=by
 refine ai [] 53 Tryz.func186 (by rfl) rfl rfl rfl rfl ?_
 repeat' first|refine zw ?_|refine zy fun nu _ _=>?_|refine zc rfl (fun h=>?_) fun h=>?_|refine zi (fun h=>?_) fun h=>?_|exact .intro|fail
 refine ak (fun x:List aU×Nat=>[(0,.ms o 5 0 l.length),(1,.int .i64 0),(2,.int .i64 l.length),(3,.fn fi []),(8,.int .i64 x.2)]) (fun x=>σ.put o (.arr 147 (aj bB x.1))) (fun x=>1≤x.2∧(x.2≤l.length∨x.2=1)∧oD (fun p:aU=>p.to) l x.1 x.2) (fun x=>l.length-x.2) (l,1) ⟨Nat.le_refl _,.inr rfl,.start⟩ (Env.ab (by simp[Env.Has,Env.get,Env.aG,ba,aC,aT,aW,aM,bd,aX,aS,bA,aY])) (aa.Sub.refl _) ?_
 rintro⟨m,i⟩ ⟨hi1,hi2,hs⟩
 simp only at hi1 hi2 hs
 have hml:=hs.len
 by_cases hlt:i<l.length
 ·have hin:=hs.CX
  repeat' first|refine zw ?_|refine zy fun nu _ _=>?_|refine zc rfl (fun h=>?_) fun h=>?_|refine zi (fun h=>?_) fun h=>?_|exact .intro|fail
  refine ak (fun x:List aU×Nat=>[(0,.ms o 5 0 l.length),(1,.int .i64 0),(2,.int .i64 l.length),(3,.fn fi []),(8,.int .i64 i),(9,.int .i64 x.2)]) (fun x=>σ.put o (.arr 147 (aj bB x.1))) (fun x=>x.2≤i∧qx (fun p:aU=>p.to) l x.1 i x.2) (fun x=>x.2) (m,i) ⟨Nat.le_refl _,hin⟩ (Env.ab (by simp[Env.Has,Env.get,Env.aG,ba,aC,aT,aW,aM,bd,aX,aS,bA,aY])) (aa.Sub.refl _) ?_
  clear hin hs hml
  rintro⟨m,j⟩ ⟨hji,hs⟩
  simp only at hji hs
  have hml:=hs.len
  by_cases hj0:j=0
  ·have hout:=hs.out hji (.inl hj0)
   repeat' first|refine zw ?_|refine ry (id:=4) [] (cq [8,13]) fun nu _ _=>?_|refine zy fun nu _ _=>?_|refine zc rfl (fun h=>?_) fun h=>?_|refine zi (fun h=>?_) fun h=>?_|exact .intro|fail
   exact⟨(m,i+1),by simp only;omega,⟨by simp only;omega,.inl (by simp only;omega),hout⟩,(Env.ab (by simp[Env.Has,Env.get,Env.aG,ba,aC,aT,aW,aM,bd,aX,aS,bA,aY])),aa.Sub.refl _⟩
  ·have g1:=nj bB (l:=m) (i:=j) (by omega)
   have g2:=nj bB (l:=m) (i:=j-1) (by omega)
   obtain⟨a,ha⟩:∃a,m.getD j default=a:=⟨_,rfl⟩
   obtain⟨b,hb⟩:∃b,m.getD (j-1) default=b:=⟨_,rfl⟩
   have ham:a∈l:=hs.perm.mem_iff.1 (by rw[←ha,List.getD_eq_getElem?_getD,List.getElem?_eq_getElem (by omega)];exact List.getElem_mem _)
   have hbm:b∈l:=hs.perm.mem_iff.1 (by rw[←hb,List.getD_eq_getElem?_getD,List.getElem?_eq_getElem (by omega)];exact List.getElem_mem _)
   have hcs:=hc a b ham hbm
   rw[ha] at g1
   rw[hb] at g2
   have hw:IntKind.i64.wrap ((j:Int)-1)=((j-1:Nat):Int):=by rw[cR (by omega) (by omega)];omega
   have hz:iG ((fun p:aU=>p.to) a) ((fun p:aU=>p.to) b)<0↔(fun p:aU=>p.to) a<(fun p:aU=>p.to) b:=by
    unfold iG
    split
    ·constructor
     ·intro _;assumption
     ·intro _;decide
    ·split<;>constructor<;>intro h<;>omega
   simp only[bB] at g1 g2
   by_cases hab:(fun p:aU=>p.to) a<(fun p:aU=>p.to) b
   ·have hd:decide (iG ((fun p:aU=>p.to) a) ((fun p:aU=>p.to) b)<0)=true:=xK (hz.2 hab)
    have hsw:=hs.swap (by omega) hji (by omega) (by rw[ha,hb];exact hab)
    rw[ha,hb] at hsw
    have st1:=qT bB m j b
    have st2:=qT bB (m.set j b) (j-1) a
    have g3:=nj bB (l:=m.set j b) (i:=j-1) (by rw[List.length_set];omega)
    rw[tF (by omega),if_neg (by omega),hb] at g3
    simp only[bB] at st1 st2 g3
    (have kX:=qC @g1 @g2 @g3 @st1 @st2 @hw @hd;repeat' first|refine zw ?_|refine ry (id:=4) [] (cq [8,13]) fun nu _ _=>?_|refine ry (id:=6) [] (cw [9,13] [15,17] [] [] []) fun nu _ _=>?_|refine zy fun nu _ _=>?_|refine zc rfl (fun h=>?_) fun h=>?_|refine zi (fun h=>?_) fun h=>?_|exact .intro|refine us (hcs) ?_|fail);all_goals clear kX
    exact⟨((m.set j b).set (j-1) a,j-1),by simp only;omega,⟨by simp only;omega,hsw⟩,(Env.ab (by simp[Env.Has,Env.get,Env.aG,ba,aC,aT,aW,aM,bd,aX,aS,bA,aY])),aa.Sub.refl _⟩
   ·have hd:decide (iG ((fun p:aU=>p.to) a) ((fun p:aU=>p.to) b)<0)=false:=xL (fun h=>hab (hz.1 h))
    have hout:=hs.out hji (.inr (by rw[ha,hb];exact hab))
    (have kX:=nO @g1 @g2 @hw @hd;repeat' first|refine zw ?_|refine ry (id:=4) [] (cq [8,13]) fun nu _ _=>?_|refine zy fun nu _ _=>?_|refine zc rfl (fun h=>?_) fun h=>?_|refine zi (fun h=>?_) fun h=>?_|exact .intro|refine us (hcs) ?_|fail);all_goals clear kX
    exact⟨(m,i+1),by simp only;omega,⟨by simp only;omega,.inl (by simp only;omega),hout⟩,(Env.ab (by simp[Env.Has,Env.get,Env.aG,ba,aC,aT,aW,aM,bd,aX,aS,bA,aY])),aa.Sub.refl _⟩
 ·have hd:=hs.all (by omega)
  repeat' first|refine zw ?_|refine zy fun nu _ _=>?_|refine zc rfl (fun h=>?_) fun h=>?_|refine zi (fun h=>?_) fun h=>?_|exact .intro|fail
  exact⟨_,aa.Sub.refl _,m,rfl,hs.perm,hd⟩
theorem yT (fi:Nat) (l:List aU) (hc:∀a b,a∈l→b∈l→Pure Tryz.prog fi [bB a,bB b] (.int .i64 (iG ((fun p:aU=>p.to) a) ((fun p:aU=>p.to) b)))) (hl:l.length≤12) (lim:Int) (o:Nat) (σ:aa):
  af Tryz.prog 127 [.ms o 5 0 l.length,.int .i64 0,.int .i64 l.length,.int .i64 lim,.fn fi []] (σ.put o (.arr 147 (aj bB l))) (fun r t=>r= .bK []∧∃m,t=σ.put o (.arr 147 (aj bB m))∧m.Perm l∧m.Pairwise fun a b=>(fun p:aU=>p.to) a≤(fun p:aU=>p.to) b):=by
 refine ai [] 148 Tryz.func127 (by rfl) rfl rfl rfl rfl ?_
 repeat' first|refine zw ?_|refine zy fun nu _ _=>?_|refine zc rfl (fun h=>?_) fun h=>?_|refine zi (fun h=>?_) fun h=>?_|exact .intro|fail
 refine ak (fun _:Unit=>[(0,.ms o 5 0 l.length),(1,.int .i64 0),(2,.int .i64 l.length),(3,.int .i64 lim),(4,.fn fi [])]) (fun _=>σ.put o (.arr 147 (aj bB l))) (fun _=>True) (fun _=>0) () trivial (Env.ab (by simp[Env.Has,Env.get,Env.aG,ba,aC,aT,aW,aM,bd,aX,aS,bA,aY])) (aa.Sub.refl _) ?_
 rintro _ _
 repeat' first|refine zw ?_|refine zy fun nu _ _=>?_|refine zc rfl (fun h=>?_) fun h=>?_|refine zi (fun h=>?_) fun h=>?_|exact .intro|fail
 refine ck (y7 fi l hc (by omega) o σ) ?_
 rintro _ _ ⟨rfl,m,rfl,h1,h2⟩
 repeat' first|refine zw ?_|refine zy fun nu _ _=>?_|refine zc rfl (fun h=>?_) fun h=>?_|refine zi (fun h=>?_) fun h=>?_|exact .intro|fail
 exact⟨_,aa.Sub.refl _,m,rfl,h1,h2⟩
theorem wz (fi:Nat) (l:List aU) (hc:∀a b,a∈l→b∈l→Pure Tryz.prog fi [bB a,bB b] (.int .i64 (iG ((fun p:aU=>p.to) a) ((fun p:aU=>p.to) b)))) (hl:l.length≤12) (o:Nat) (σ:aa):
  af Tryz.prog 72 [.ms o 5 0 l.length,.fn fi []] (σ.put o (.arr 147 (aj bB l))) (fun r t=>r= .bK []∧∃m,t=σ.put o (.arr 147 (aj bB m))∧m.Perm l∧m.Pairwise fun a b=>(fun p:aU=>p.to) a≤(fun p:aU=>p.to) b):=by
 have hb:=kW l.length hl
 have hwu:IntKind.u64.wrap (l.length:Int)=l.length:=IntWalk.u64_in _ ⟨by omega,by omega⟩
 refine ai [] 14 Tryz.func72 (by rfl) rfl rfl rfl rfl ?_
 (have kX:=@hwu;repeat' first|refine zw ?_|refine zy fun nu _ _=>?_|refine zc rfl (fun h=>?_) fun h=>?_|refine zi (fun h=>?_) fun h=>?_|exact .intro|fail);all_goals clear kX
 refine ck (hb _) ?_
 rintro _ _ ⟨⟨v,rfl⟩,rfl⟩
 repeat' first|refine zw ?_|refine zy fun nu _ _=>?_|refine zc rfl (fun h=>?_) fun h=>?_|refine zi (fun h=>?_) fun h=>?_|exact .intro|fail
 refine ck (yT fi l hc hl v o σ) ?_
 rintro _ _ ⟨rfl,m,rfl,h1,h2⟩
 repeat' first|refine zw ?_|refine zy fun nu _ _=>?_|refine zc rfl (fun h=>?_) fun h=>?_|refine zi (fun h=>?_) fun h=>?_|exact .intro|fail
 exact⟨_,aa.Sub.refl _,m,rfl,h1,h2⟩
theorem xl (fi:Nat) (σ:aa):af Tryz.prog 186 [.sl .nil [],.int .i64 0,.int .i64 0,.fn fi []] σ (fun r t=>r= .bK []∧t=σ):=by
 refine ah [] 53 Tryz.func186 (by rfl) rfl rfl rfl rfl ?_
 repeat' first|refine zw ?_|refine zy fun nu _ _=>?_|refine zc rfl (fun h=>?_) fun h=>?_|refine zi (fun h=>?_) fun h=>?_|exact .intro|fail
 refine ak (fun _:Unit=>[(2,.int .i64 0),(8,.int .i64 1)]) (fun _=>σ) (fun _=>True) (fun _=>0) () trivial (Env.ab (by simp[Env.Has,Env.get,Env.aG,ba,aC,aT,aW,aM,bd,aX,aS,bA,aY])) (aa.Sub.refl _) ?_
 rintro _ _
 repeat' first|refine zw ?_|refine zy fun nu _ _=>?_|refine zc rfl (fun h=>?_) fun h=>?_|refine zi (fun h=>?_) fun h=>?_|exact .intro|fail
theorem wV (fi:Nat) (lim:Int) (σ:aa):af Tryz.prog 127 [.sl .nil [],.int .i64 0,.int .i64 0,.int .i64 lim,.fn fi []] σ (fun r t=>r= .bK []∧t=σ):=by
 refine ah [] 148 Tryz.func127 (by rfl) rfl rfl rfl rfl ?_
 repeat' first|refine zw ?_|refine zy fun nu _ _=>?_|refine zc rfl (fun h=>?_) fun h=>?_|refine zi (fun h=>?_) fun h=>?_|exact .intro|fail
 refine ak (fun _:Unit=>[(0,.sl .nil []),(1,.int .i64 0),(2,.int .i64 0),(3,.int .i64 lim),(4,.fn fi [])]) (fun _=>σ) (fun _=>True) (fun _=>0) () trivial (Env.ab (by simp[Env.Has,Env.get,Env.aG,ba,aC,aT,aW,aM,bd,aX,aS,bA,aY])) (aa.Sub.refl _) ?_
 rintro _ _
 repeat' first|refine zw ?_|refine zy fun nu _ _=>?_|refine zc rfl (fun h=>?_) fun h=>?_|refine zi (fun h=>?_) fun h=>?_|exact .intro|fail
 refine ck (xl fi σ) ?_
 rintro _ _ ⟨rfl,rfl⟩
 repeat' first|refine zw ?_|refine zy fun nu _ _=>?_|refine zc rfl (fun h=>?_) fun h=>?_|refine zi (fun h=>?_) fun h=>?_|exact .intro|fail
theorem va (fi:Nat) (σ:aa):af Tryz.prog 72 [.sl .nil [],.fn fi []] σ (fun r t=>r= .bK []∧t=σ):=by
 have hb:=kW 0 (by omega)
 have hwu:IntKind.u64.wrap 0=0:=by decide
 have hwv:IntKind.u64.wrap ((0:Nat):Int)=((0:Nat):Int):=by decide
 refine ah [] 14 Tryz.func72 (by rfl) rfl rfl rfl rfl ?_
 (have kX:=g9 @hwu @hwv;repeat' first|refine zw ?_|refine zy fun nu _ _=>?_|refine zc rfl (fun h=>?_) fun h=>?_|refine zi (fun h=>?_) fun h=>?_|exact .intro|fail);all_goals clear kX
 refine ck (hb _) ?_
 rintro _ _ ⟨⟨v,rfl⟩,rfl⟩
 repeat' first|refine zw ?_|refine zy fun nu _ _=>?_|refine zc rfl (fun h=>?_) fun h=>?_|refine zi (fun h=>?_) fun h=>?_|exact .intro|fail
 refine ck (wV fi v _) ?_
 rintro _ _ ⟨rfl,rfl⟩
 repeat' first|refine zw ?_|refine zy fun nu _ _=>?_|refine zc rfl (fun h=>?_) fun h=>?_|refine zi (fun h=>?_) fun h=>?_|exact .intro|fail
end Go.Proofs.YtgfjihpbphplhaaGreat

namespace Go.Proofs.YtgfjihpbphplhaaGreat
open Go.Kern Go.RowKit
theorem Co {α:Type} [DecidableEq α]:∀ (l m:List α),l.Nodup→(∀x,x∈l→x∈m)→l.length≤m.length
  | [],m,_,_=>Nat.zero_le _
  | x::l,m,hn,hm=>by
    have hn':=List.nodup_cons.1 hn
    have hx:=hm x List.mem_cons_self
    have:=Co l (m.erase x) hn'.2 (fun y hy=>by
      have hne:y≠x:=fun e=>hn'.1 (e▸hy)
      exact(List.mem_erase_of_ne hne).2 (hm y (List.mem_cons_of_mem _ hy)))
    have h2:=List.length_erase_of_mem hx
    have h3:=List.length_pos_of_mem hx
    simp only[List.length_cons];omega
def eh (l:cC):cC:= {l with k:=cK l.k}
def eQ (m:bS):bS:= {m with k:=cK m.k,l:=m.l.map lZ}
theorem eW {α:Type} (E:α→AV) (l:List α) (x:α):aj E l++[E x]=aj E (l++[x]):=by simp[aj]
theorem eA {α β:Type} [Inhabited α] (f:α→β) {l:List α} {i:Nat} (h:i<l.length):(l.take (i+1)).map f=(l.take i).map f++[f (l.getD i default)]:=by
 rw[List.take_succ_eq_append_getElem h,List.map_append]
 simp[List.getD_eq_getElem?_getD,h]
theorem eH {α:Type} [Inhabited α] {l:List α} {i:Nat} (h:i<l.length):l.getD i default∈l:=by
 rw[List.getD_eq_getElem?_getD,List.getElem?_eq_getElem h]
 exact List.getElem_mem h
structure oF (σ:aa) (o no mo:Nat) (x:Nt) (names:List ByteArray) (ps:AV) (τ:aa):Prop where
 net:τ no=some (cG x (.map mo) ps)
 map:τ mo=some (.map (sh names 0))
 cell:τ o=some (nk bl)
 sub:σ.Sub τ
 nm:no≠mo
 no':no≠o
 mo':mo≠o
 fn:σ no=none
 fm:σ mo=none
 fo:σ o=none
section
variable {σ τ:aa} {o no mo c:Nat} {x:Nt} {names:List ByteArray} {ps:AV}
theorem oF.new (h:oF σ o no mo x names ps τ) (hc:τ c=none) (X:Ob):oF σ o no mo x names ps (τ.put c X):=
 ⟨aD h.net hc X,aD h.map hc X,aD h.cell hc X,ax h.sub (bo h.sub hc),h.nm,h.no',h.mo',h.fn,h.fm,h.fo⟩
theorem oF.grow (h:oF σ o no mo x names ps τ) {n n':Nat} {e:TypeId} {sz:Nat} (hc:τ c=some (.tip n e sz)) (hs:σ c=none):oF σ o no mo x names ps (τ.put c (.tip n' e sz)):=by
 have n1:no≠c:=fun q=>by have:=h.net;rw[q,hc] at this;cases this
 have n2:mo≠c:=fun q=>by have:=h.map;rw[q,hc] at this;cases this
 have n3:o≠c:=fun q=>by have:=h.cell;rw[q,hc] at this;cases this
 exact⟨by rw[au n1];exact h.net,by rw[au n2];exact h.map,by rw[au n3];exact h.cell,ax h.sub hs,h.nm,h.no',h.mo',h.fn,h.fm,h.fo⟩
theorem oF.wr (h:oF σ o no mo x names ps τ) (x':Nt) (ps':AV):oF σ o no mo x' names ps' (τ.put no (cG x' (.map mo) ps')):=
 ⟨ao _ _ _,by rw[au h.nm.symm];exact h.map,by rw[au h.no'.symm];exact h.cell,ax h.sub h.fn,h.nm,h.no',h.mo',h.fn,h.fm,h.fo⟩
theorem oF.at_ (h:oF σ o no mo x names ps τ) (names':List ByteArray):oF σ o no mo x names' ps (τ.put mo (.map (sh names' 0))):=
 ⟨by rw[au h.nm];exact h.net,ao _ _ _,by rw[au h.mo'.symm];exact h.cell,ax h.sub h.fm,h.nm,h.no',h.mo',h.fn,h.fm,h.fo⟩
end
theorem oF.drop {σ τ:aa} {o no mo c:Nat} {x:Nt} {names:List ByteArray} {ps:AV} (h:oF σ o no mo x names ps τ) (h1:c≠no) (h2:c≠mo) (h3:c≠o) (h4:σ c=none):oF σ o no mo x names ps (τ.drop c):=
 ⟨by rw[eT h1.symm];exact h.net,by rw[eT h2.symm];exact h.map,by rw[eT h3.symm];exact h.cell,lf h.sub h4,h.nm,h.no',h.mo',h.fn,h.fm,h.fo⟩
def yB {α:Type} (k:SK) (l:List α):Prop:=(k= .nil∧l=[])∨(k.isNil=false∧l≠[])
theorem _root_.Go.Kern.ef.Cq {α:Type} {σ τ:aa} {k:SK} {e sz:Nat} {l:List α} (h:ef σ τ k l.length e sz):yB k l:=by
 rcases h with ⟨h1,h2⟩|⟨t,rfl,_,_,h⟩
 ·exact .inl ⟨h1,List.eq_nil_of_length_eq_zero h2⟩
 ·exact .inr ⟨rfl,fun e=>by rw[e] at h;cases h⟩
structure C3 where
 i:Nat
 k:SK
 τ:aa
end Go.Proofs.YtgfjihpbphplhaaGreat

namespace Go.Proofs.YtgfjihpbphplhaaGreat
open Go.Kern
theorem mf {l:List Int} {n:Nat} (hn:l.Nodup) (h:∀x,x∈l→∃u:Nat,x=u∧1≤u∧u≤n):l.length≤n:=by
 have:=Co l ((List.range n).map fun i=>((i+1:Nat):Int)) hn (fun x hx=>by
  obtain⟨u,rfl,h1,h2⟩:=h x hx
  exact List.mem_map.2 ⟨u-1,by simp;omega,by congr 1;omega⟩)
 simpa using this
theorem yS {l:List Nat} {n:Nat} (hn:l.Nodup) (h:∀x,x∈l→1≤x∧x≤n):l.length≤n:=by
 have:=Co l ((List.range n).map fun i=>i+1) hn (fun x hx=>by
  have:=h x hx
  exact List.mem_map.2 ⟨x-1,by simp;omega,by omega⟩)
 simpa using this
abbrev RM:=List (Int×Rk)
def dA (k:Int):RM→Option Rk
 | []=>none
 |e::r=>if k=e.1 then some e.2 else dA k r
def jI (D:RM):List (AV×AV):=D.map fun p=>(.int .i64 p.1,.agg [.int .i64 p.2.c,.sl p.2.kd (bI p.2.l)])
theorem lD (D:RM):dJ (.int .i64) (jI D)=true:=by simp[dJ,jI,aH]
theorem lH (k:Int):∀D:RM,(jI D).find? (fun e=>dv (.int .i64 k) e.1)=(dA k D).map fun r=>(AV.int .i64 k,AV.agg [.int .i64 r.c,.sl r.kd (bI r.l)])
  | []=>rfl
  | e::r=>by
    have ih:=lH k r
    simp only[jI,List.map_cons,List.find?_cons,dA,dv] at ih ⊢
    by_cases h:k=e.1
    · subst h;simp
    · rw[if_neg h,decide_eq_false h];exact ih
theorem pe (k:Int) (r:Rk):∀D:RM,dA k D=none→dq (.int .i64 k) (.agg [.int .i64 r.c,.sl r.kd (bI r.l)]) (jI D)=jI (D++[(k,r)])
  | [],_=>rfl
  | e::t,h=>by
    unfold dA at h
    split at h
    · cases h
    · rename_i q
      have ih:=pe k r t h
      simp only[jI,List.map_cons,List.cons_append,dq,dv,decide_eq_true_eq] at ih ⊢
      rw[if_neg q,ih]
theorem nr (k:Int) (r:Rk) (x:Int):∀D:RM,dA k D=none→dA x (D++[(k,r)])=if x=k then some r else dA x D
  | [],_=>by simp[dA]
  | e::t,h=>by
    unfold dA at h
    split at h
    · cases h
    · rename_i q
      have ih:=nr k r x t h
      simp only[List.cons_append,dA,ih]
      by_cases h1:x=e.1
      · have:¬x=k:=fun h=>q (h▸h1▸rfl)
        rw[if_pos h1,if_neg this,if_pos h1]
      · rw[if_neg h1,if_neg h1]
theorem o3 {k:Int} {r:Rk}:∀{D:RM},dA k D=some r→(k,r)∈D
  | [],h=>by cases h
  | e::t,h=>by
    unfold dA at h
    split at h
    · rename_i q;injection h with h;subst h;subst q;exact List.mem_cons_self
    · exact List.mem_cons_of_mem _ (o3 h)
theorem nx {k:Int}:∀{D:RM},dA k D=none↔k∉D.map (·.1)
  | []=>by simp[dA]
  | e::t=>by
    have ih:=nx (k:=k) (D:=t)
    unfold dA
    split
    · rename_i q;subst q;simp
    · rename_i q;rw[ih];simp[q]
def rX (D:RM) (x:Nat):Option Wk:=(dA (x:Int) D).map pM
def fV (c:List Th) (x:Int):Option Th:=c.find? fun t=>decide (t.k=x)
def qA (c:List Th) (x:Nat):Option Wk:=(fV c (x:Int)).map fun t=>pM t.r
theorem ni {c:List Th} {x:Int} {t:Th} (h:fV c x=some t):t∈c∧t.k=x:=by
 refine⟨List.mem_of_find?_eq_some h,?_⟩
 have:=List.find?_some h
 simpa using this
theorem tC {c:List Th} {x:Int}:fV c x=none↔∀t,t∈c→t.k≠x:=by
 simp[fV]
theorem xp {c:List Th} (hs:c.Pairwise fun a b=>a.w<b.w∧a.k≠b.k) {t:Th} (ht:t∈c):fV c t.k=some t:=by
  induction hs with
  |nil=>cases ht
  | @cons a l ha _ ih=>
    unfold fV at ih ⊢
    rw[List.find?_cons]
    rcases List.mem_cons.1 ht with rfl|ht
    · simp
    · have:=(ha t ht).2
      rw[decide_eq_false this]
      exact ih ht
theorem xM {D:RM} {x:Nat} {r:Rk} (h:dA (x:Int) D=none):rX (D++[((x:Int),r)])=jB (rX D) x (some (pM r)):=by
 funext y
 unfold rX jB
 rw[nr _ _ _ _ h]
 by_cases e:y=x
 ·subst e;simp
 ·rw[if_neg e,if_neg (by omega)]
theorem jx (c:List Th) (k x:Int):fV (aQ c k) x=if x=k then none else fV c x:=by
  unfold fV aQ
  induction c with
  |nil=>simp
  | cons t c ih=>
    simp only[List.filter_cons]
    by_cases h:t.k=k
    · rw[if_neg (by simp[h]),ih,List.find?_cons]
      by_cases e:x=k
      · rw[if_pos e,if_pos e]
      · rw[if_neg e,if_neg e,decide_eq_false (by rw[h];exact fun q=>e q.symm)]
    · rw[if_pos (by simp[h]),List.find?_cons,List.find?_cons,ih]
      by_cases e:t.k=x
      · have hxk:¬x=k:=by rw[←e];exact h
        simp only[decide_eq_true e,if_neg hxk]
      · rw[decide_eq_false e]
theorem zj (c:List Th) (x:Nat):qA (aQ c (x:Int))=jB (qA c) x none:=by
 funext y
 unfold qA jB
 rw[jx]
 by_cases e:y=x
 ·subst e;simp
 ·rw[if_neg e,if_neg (by omega)]
theorem uF (c:List Th) (x:Nat) (r:Rk) (w:Int):qA (aQ c (x:Int)++[⟨(x:Int),r,w⟩])=jB (qA c) x (some (pM r)):=by
 funext y
 have h1:fV (aQ c (x:Int)++[⟨(x:Int),r,w⟩]) (y:Int)=if y=x then some ⟨(x:Int),r,w⟩ else fV c (y:Int):=by
  have h2:=jx c (x:Int) (y:Int)
  unfold fV at h2 ⊢
  rw[List.find?_append,h2]
  by_cases e:y=x
  ·subst e;simp
  ·rw[if_neg (by omega),if_neg e]
   have:List.find? (fun t:Th=>decide (t.k=(y:Int))) [⟨(x:Int),r,w⟩]=none:=by simp;omega
   rw[this];simp
 unfold qA jB
 rw[h1]
 by_cases e:y=x
 ·rw[if_pos e,if_pos e];rfl
 ·rw[if_neg e,if_neg e]
theorem dk.kQ {w:Nat→Nat→Option Nat} (hw:∀u b c,w u b=some c→c≤65536) {a b:Nat} {y:Wk} (h:dk w a b y):y.1≤65536*y.2.length:=by
  induction h with
  |one=>simp
  | @snoc u b c x hx e ih=>
    have:=hw _ _ _ e
    simp only[aJ,List.length_append,List.length_cons,List.length_nil]
    omega
theorem dk.within {w:Nat→Nat→Option Nat} {n:Nat} (hw:∀u b c,w u b=some c→1≤b∧b≤n) {a b:Nat} (ha:1≤a∧a≤n) {y:Wk} (h:dk w a b y):∀z,z∈y.2→1≤z∧z≤n:=by
  induction h with
  |one=>intro z hz;simp at hz;subst hz;exact ha
  | @snoc u b c x hx e ih=>
    intro z hz
    simp only[aJ,List.mem_append,List.mem_singleton] at hz
    rcases hz with hz|rfl
    · exact ih z hz
    · exact hw _ _ _ e
theorem cE.qb {w:Nat→Nat→Option Nat} {n:Nat} (hw:∀u b c,w u b=some c→1≤b∧b≤n) {a b:Nat} (ha:1≤a∧a≤n) {y:Wk} (h:cE w a b y):y.2.length≤n:=yS h.nodup (h.1.within hw ha)
theorem cE.kQ {w:Nat→Nat→Option Nat} {n:Nat} (hc:∀u b c,w u b=some c→c≤65536) (hw:∀u b c,w u b=some c→1≤b∧b≤n) {a b:Nat} (ha:1≤a∧a≤n) {y:Wk} (h:cE w a b y):y.1≤65536*n:=by
 have h1:=h.1.kQ hc
 have h2:=h.qb hw ha
 have:65536*y.2.length≤65536*n:=Nat.mul_le_mul_left _ h2
 omega
structure GW (w:Nat→Nat→Option Nat) (n:Nat) (L:List bq):Prop where
 edge:∀u b:Nat,da L (u:Int) (b:Int)=(w u b).map fun c=>(c:Int)
 node:∀x,x∈L→∃u:Nat,x.a=u∧1≤u∧u≤n
 to:∀x,x∈L→∀p,p∈x.es→∃b:Nat,p.1=b∧1≤b∧b≤n
 all:∀u:Nat,1≤u→u≤n→(bc L (u:Int)).isSome=true
 le:∀u b c,w u b=some c→c≤65536
 in_:∀u b c,w u b=some c→(1≤u∧u≤n)∧1≤b∧b≤n
theorem o4 {b c:Int}:∀{es:ES},fW b es=some c→(b,c)∈es
  | [],h=>by cases h
  | e::t,h=>by
    unfold fW at h
    split at h
    · rename_i q;injection h with h;subst h;subst q;exact List.mem_cons_self
    · exact List.mem_cons_of_mem _ (o4 h)
theorem kJ {b:Int}:∀{es:ES},b∈es.map (·.1)→∃c,fW b es=some c
  | [],h=>by simp at h
  | e::t,h=>by
    unfold fW
    split
    · exact⟨_,rfl⟩
    · rename_i q
      rcases List.mem_cons.1 h with h|h
      · exact absurd h q
      · exact kJ h
end Go.Proofs.YtgfjihpbphplhaaGreat

namespace Go.Proofs.YtgfjihpbphplhaaGreat
open Go.Kern Go.RowKit
set_option maxRecDepth 100000
set_option maxHeartbeats 4000000
attribute [local irreducible] af W
theorem oz (σ:aa):af Tryz.prog 81 [] σ (fun r t=>∃g m,r= .ptr g 0 0∧GS σ g m [] t):=by
 refine ai [.tmp 0] 4 Tryz.func81 (by rfl) rfl rfl rfl rfl ?_
 (have kM:Mu [3]:=⟨⟩;repeat' first|refine zw ?_|refine ry [3] c0 fun nu _ _=>?_|refine zc rfl (fun h=>?_) fun h=>?_|refine zi (fun h=>?_) fun h=>?_|exact .intro|fail);all_goals clear kM
 intro m hm g hg
 repeat' first|refine zw ?_|refine zy fun nu _ _=>?_|refine zc rfl (fun h=>?_) fun h=>?_|refine zi (fun h=>?_) fun h=>?_|exact .intro|fail
 have hne:=aP hg
 have h2:=hg
 rw[aq hne] at h2
 refine⟨_,aa.Sub.refl _,g,m,rfl,⟨⟨ao _ _ _,?_,nofun⟩,ax (ax (fun _ _ h=>h) hm) h2,h2,hm,nofun,nofun,.nil,.nil,by simp,nofun⟩⟩
 rw[au hne.symm,ao];rfl
theorem rj {L:List bq} {a:Int} (h:bc L a=none):∀x,x∈L→x.a≠a:=by
 intro x hx e
 unfold bc at h
 have:=List.find?_eq_none.1 h x hx
 simp only[decide_eq_true_eq] at this
 exact this e.symm
section
variable {σ s:aa} {g m:Nat} {L:List bq}
theorem lz (H:GS σ g m L s) (hl:L.length+1<1000) (a:Int) (ha: -1000≤a∧a≤1000):af Tryz.prog 83 [.ptr g 0 0,.int .i64 a] s (fun r t=>∃b L',r= .bool b∧GS σ g m L' t∧L'.length≤L.length+1∧(∀u v,da L' u v=da L u v)∧(∀u,(bc L' u).isSome=((bc L u).isSome||decide (u=a)))∧(∀x,x∈L'→x∈L∨(x.a=a∧x.es=[]))):=by
  have h1:=H.gr.rg
  have h2:=H.gr.rm
  have hk:=iZ L
  have hf:=fe a L
  cases hq:bc L a with
  | some x=>
    rw[hq] at hf
    simp only[Option.map_some] at hf
    refine ai [.tmp 4] 22 Tryz.func83 (by rfl) rfl rfl rfl rfl ?_
    (have kX:=nO @h1 @h2 @hk @hf;repeat' first|refine zw ?_|refine zy fun nu _ _=>?_|refine zc rfl (fun h=>?_) fun h=>?_|refine zi (fun h=>?_) fun h=>?_|exact .intro|fail);all_goals clear kX
    refine⟨_,aa.Sub.refl _,_,L,rfl,H,by omega,fun _ _=>rfl,fun u=>?_,fun x hx=> .inl hx⟩
    by_cases e:u=a
    · subst e;rw[hq];simp
    · rw[decide_eq_false e,Bool.or_false]
  | none=>
    rw[hq] at hf
    simp only[Option.map_none] at hf
    have hgm:g≠m:=fun e=>by rw[e,h2] at h1;cases h1
    refine ai [.tmp 4] 22 Tryz.func83 (by rfl) rfl rfl rfl rfl ?_
    (have kX:=nO @h1 @h2 @hk @hf;repeat' first|refine zw ?_|refine zy fun nu _ _=>?_|refine zc rfl (fun h=>?_) fun h=>?_|refine zi (fun h=>?_) fun h=>?_|exact .intro|fail);all_goals clear kX
    intro o ho
    have hm':=aD h2 ho
    have hg':=aD h1 ho
    have hset:=pf a o L hq
    simp -dsimp (disch:=omega) only[go_sem,hm',hk,hset]
    (have kX:=nO @hm' @hg' @hk @hset;repeat' first|refine zw ?_|refine zy fun nu _ _=>?_|refine zc rfl (fun h=>?_) fun h=>?_|refine zi (fun h=>?_) fun h=>?_|exact .intro|fail);all_goals clear kX
    have hmo:m≠o:=bh h2 ho
    have hgo:g≠o:=bh h1 ho
    have hso:σ o=none:=bo H.sub ho
    have hxo:∀x,x∈L→x.o≠o:=fun x hx=>bh (H.gr.ob x hx) ho
    refine⟨_,aa.Sub.refl _,_,L++[⟨a,o,[]⟩],rfl,⟨⟨by rw[au hgm];exact hg' _,ao _ _ _,fun x hx=>?_⟩,ax (ax H.sub hso) H.fm,H.fg,H.fm,fun x hx=>?_,fun x hx=>?_,?_,?_,by simp;omega,fun x hx=>?_⟩,by simp,fun u v=>rU L a o u v hq,fun u=>?_,fun x hx=>?_⟩
    · rcases List.mem_append.1 hx with hx|hx
      · rw[au (H.om x hx),au (hxo x hx)];exact H.gr.ob x hx
      · rw[List.mem_singleton.1 hx]
        rw[au hmo.symm,ao];rfl
    · rcases List.mem_append.1 hx with hx|hx
      · exact H.fo x hx
      · rw[List.mem_singleton.1 hx];exact hso
    · rcases List.mem_append.1 hx with hx|hx
      · exact H.om x hx
      · rw[List.mem_singleton.1 hx];exact hmo.symm
    · refine List.pairwise_append.2 ⟨H.od,List.pairwise_singleton _ _,fun x hx y hy=>?_⟩
      rw[List.mem_singleton.1 hy];exact hxo x hx
    · refine List.pairwise_append.2 ⟨H.ad,List.pairwise_singleton _ _,fun x hx y hy=>?_⟩
      rw[List.mem_singleton.1 hy];exact rj hq x hx
    · rcases List.mem_append.1 hx with hx|hx
      · exact H.sm x hx
      · rw[List.mem_singleton.1 hx]
        exact⟨⟨by simp,.nil,nofun⟩,ha⟩
    · rw[lQ L a o u hq]
      by_cases e:u=a
      · rw[if_pos e,decide_eq_true e,Bool.or_true];rfl
      · rw[if_neg e,decide_eq_false e,Bool.or_false]
    · rcases List.mem_append.1 hx with hx|hx
      · exact .inl hx
      · rw[List.mem_singleton.1 hx];exact .inr ⟨rfl,rfl⟩
theorem fT {L:List bq} {a b c:Int} {x:bq} (h:x∈eS L a b c):∃y,y∈L∧x.o=y.o∧x.a=y.a∧(x.es=y.es∨(y.a=a∧x.es=fZ b c y.es)):=by
 obtain⟨y,hy,rfl⟩:=List.mem_map.1 h
 refine⟨y,hy,?_⟩
 split
 ·rename_i e;exact⟨rfl,rfl,.inr ⟨e,rfl⟩⟩
 ·exact⟨rfl,rfl,.inl rfl⟩
theorem jQ (b c:Int):∀es:ES,(fZ b c es).map (·.1)=if b∈es.map (·.1) then es.map (·.1) else es.map (·.1)++[b]
  | []=>by simp[fZ]
  | e::r=>by
    have ih:=jQ b c r
    simp only[fZ]
    by_cases h:b=e.1
    · rw[if_pos h];simp[h]
    · rw[if_neg h,List.map_cons,ih]
      simp only[List.map_cons,List.mem_cons,h,false_or]
      split<;>rfl
theorem vF (H:GS σ g m L s) (hl:L.length+2<1000) (a b c:Int) (ha: -1000≤a∧a≤1000) (hb: -1000≤b∧b≤1000) (hc:0≤c∧c≤65536) (hes:∀x,x∈L→x.es.length+1<1000):af Tryz.prog 84 [.ptr g 0 0,.int .i64 a,.int .i64 b,.int .i64 c] s (fun r t=>r= .int .i64 0∧∃L',GS σ g m L' t∧L'.length≤L.length+2∧(∀u v,da L' u v=if u=a∧v=b then some c else da L u v)∧(∀u,(bc L' u).isSome=((bc L u).isSome||decide (u=a)||decide (u=b)))∧(∀x,x∈L'→(∃y,y∈L∧x.a=y.a∧∀p,p∈x.es.map (·.1)→p∈y.es.map (·.1)∨p=b)∨((x.a=a∨x.a=b)∧∀p,p∈x.es.map (·.1)→p=b))):=by
 refine ai [.tmp 8] 31 Tryz.func84 (by rfl) rfl rfl rfl rfl ?_
 (have kS:Sa 5:=⟨⟩;repeat' ((fail_if_success refine ss kS ?_);first|refine zw ?_|refine zy fun nu _ _=>?_|refine zc rfl (fun h=>?_) fun h=>?_|refine zi (fun h=>?_) fun h=>?_|exact .intro|fail));all_goals clear kS
 refine s1 ?_
 repeat' first|refine zw ?_|refine zy fun nu _ _=>?_|refine zc rfl (fun h=>?_) fun h=>?_|refine zi (fun h=>?_) fun h=>?_|exact .intro|fail
 refine ck (lz H (by omega) a ha) ?_
 rintro _ t1 ⟨b1,L1,rfl,H1,l1,g1,n1,q1⟩
 simp -dsimp (disch:=omega) only[go_sem]
 repeat' first|refine zw ?_|refine zy fun nu _ _=>?_|refine zc rfl (fun h=>?_) fun h=>?_|refine zi (fun h=>?_) fun h=>?_|exact .intro|fail
 refine ck (lz H1 (by omega) b hb) ?_
 rintro _ t2 ⟨b2,L2,rfl,H2,l2,g2,n2,q2⟩
 have r1:=H2.gr.rg
 have r2:=H2.gr.rm
 have hk:=iZ L2
 have hsome:(bc L2 a).isSome=true:=by rw[n2,n1];simp
 obtain⟨x,hx⟩:=Option.isSome_iff_exists.1 hsome
 have hf:=fe a L2
 rw[hx] at hf
 simp only[Option.map_some] at hf
 obtain⟨hxm,hxa⟩:=cI hx
 have r3:=H2.gr.ob x hxm
 have hk2:=rJ x.es
 have hset:=si b c x.es
 simp -dsimp (disch:=omega) only[go_sem]
 (have kX:=qC @r1 @r2 @r3 @hk @hf @hk2 @hset;repeat' first|refine zw ?_|refine zy fun nu _ _=>?_|refine zc rfl (fun h=>?_) fun h=>?_|refine zi (fun h=>?_) fun h=>?_|exact .intro|fail);all_goals clear kX
 have hgo:g≠x.o:=fun e=>by rw[e,r3] at r1;cases r1
 have hmo:=H2.om x hxm
 have ho:∀y z,y∈L2→z∈L2→y.o=z.o→y=z:=by
  have:=H2.od
  intro y z hy hz e
  obtain⟨i,hi,rfl⟩:=List.getElem_of_mem hy
  obtain⟨j,hj,rfl⟩:=List.getElem_of_mem hz
  rcases Nat.lt_trichotomy i j with q|q|q
  ·exact absurd e (List.pairwise_iff_getElem.1 this i j hi hj q)
  ·subst q;rfl
  ·exact absurd e.symm (List.pairwise_iff_getElem.1 this j i hj hi q)
 have hA:∀y z,y∈L2→z∈L2→y.a=z.a→y=z:=by
  have:=H2.ad
  intro y z hy hz e
  obtain⟨i,hi,rfl⟩:=List.getElem_of_mem hy
  obtain⟨j,hj,rfl⟩:=List.getElem_of_mem hz
  rcases Nat.lt_trichotomy i j with q|q|q
  ·exact absurd e (List.pairwise_iff_getElem.1 this i j hi hj q)
  ·subst q;rfl
  ·exact absurd e.symm (List.pairwise_iff_getElem.1 this j i hj hi q)
 have hfrom:∀y,y∈L2→(y∈L∨(y.a=a∧y.es=[]))∨(y.a=b∧y.es=[]):=fun y hy=>by
  rcases q2 y hy with h|h
  ·exact .inl (q1 y h)
  ·exact .inr h
 have hesx:x.es.length+1<1000:=by
  rcases hfrom x hxm with (h|h)|h
  ·exact hes x h
  ·rw[h.2];decide
  ·rw[h.2];decide
 refine⟨_,aa.Sub.refl _,eS L2 a b c,⟨⟨by rw[au hgo];exact r1,by rw[au hmo.symm,qh];exact r2,fun z hz=>?_⟩,ax H2.sub (H2.fo x hxm),H2.fg,H2.fm,fun z hz=>?_,fun z hz=>?_,?_,?_,by simp[eS];have:=H2.B7;omega,fun z hz=>?_⟩,by simp[eS];omega,fun u v=>?_,fun u=>?_,fun z hz=>?_⟩
 ·obtain⟨y,hy,rfl⟩:=List.mem_map.1 hz
  by_cases e:y.a=a
  ·have hyx:y=x:=hA y x hy hxm (by rw[e,hxa])
   subst hyx
   rw[if_pos e,ao]
  ·rw[if_neg e]
   have hne:y.o≠x.o:=fun q=>e (by rw[ho y x hy hxm q,hxa])
   rw[au hne];exact H2.gr.ob y hy
 ·obtain⟨y,hy,e1,_⟩:=fT hz
  rw[e1];exact H2.fo y hy
 ·obtain⟨y,hy,e1,_⟩:=fT hz
  rw[e1];exact H2.om y hy
 ·refine List.pairwise_map.2 (H2.od.imp fun {y z} h=>?_)
  split<;>split<;>exact h
 ·refine List.pairwise_map.2 (H2.ad.imp fun {y z} h=>?_)
  split<;>split<;>exact h
 ·obtain⟨y,hy,e1,e2,e3⟩:=fT hz
  obtain⟨⟨m1,m2,m3⟩,m4⟩:=H2.sm y hy
  rw[e2]
  refine⟨?_,m4⟩
  rcases e3 with e3|⟨e4,e3⟩
  ·rw[e3];exact⟨m1,m2,m3⟩
  ·have hyx:y=x:=hA y x hy hxm (by rw[e4,hxa])
   subst hyx
   have hkk:=jQ b c y.es
   rw[e3]
   refine⟨?_,?_,fun p hp=>?_⟩
   ·have:=congrArg List.length hkk
    simp only[List.length_map] at this
    split at this
    ·simp only[List.length_map] at this;omega
    ·simp only[List.length_append,List.length_map,List.length_cons,List.length_nil] at this;omega
   ·rw[hkk]
    split
    ·exact m2
    ·rename_i hn
     exact List.nodup_append.2 ⟨m2,by simp,fun p hp q hq e=>hn (by rw[←List.mem_singleton.1 hq,←e];exact hp)⟩
   ·have:p.1∈(fZ b c y.es).map (·.1):=List.mem_map.2 ⟨p,hp,rfl⟩
    rw[hkk] at this
    have hin:p.1∈y.es.map (·.1)∨p.1=b:=by
     split at this
     ·exact .inl this
     ·rcases List.mem_append.1 this with h|h
      ·exact .inl h
      ·exact .inr (List.mem_singleton.1 h)
    rcases hin with h|h
    ·obtain⟨q,hq,e⟩:=List.mem_map.1 h
     have:=m3 q hq
     rw[e] at this;exact this
    ·rw[h];exact hb
 ·rw[nC L2 a b c u v hsome,g2,g1]
 ·rw[iq]
  simp only[Option.isSome_map]
  rw[n2,n1]
 ·obtain⟨y,hy,e1,e2,e3⟩:=fT hz
  have hkeys:∀p,p∈z.es.map (·.1)→p∈y.es.map (·.1)∨p=b:=fun p hp=>by
   rcases e3 with e3|⟨_,e3⟩
   ·rw[e3] at hp;exact .inl hp
   ·rw[e3,jQ] at hp
    split at hp
    ·exact .inl hp
    ·rcases List.mem_append.1 hp with h|h
     ·exact .inl h
     ·exact .inr (List.mem_singleton.1 h)
  rcases hfrom y hy with (h|⟨h,h'⟩)|⟨h,h'⟩
  ·exact .inl ⟨y,h,e2,hkeys⟩
  ·refine .inr ⟨.inl (e2.trans h),fun p hp=>?_⟩
   rcases hkeys p hp with q|q
   ·rw[h'] at q;simp at q
   ·exact q
  ·refine .inr ⟨.inr (e2.trans h),fun p hp=>?_⟩
   rcases hkeys p hp with q|q
   ·rw[h'] at q;simp at q
   ·exact q
end
end Go.Proofs.YtgfjihpbphplhaaGreat

