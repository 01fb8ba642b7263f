/- What the claim needs, part 4: Gs Gd Fd Ff Ge Gf Gg Gh Ni Nj Nk Gi Gj Gk Gl Gm Gn. Conditions: none. -/
import Derived.Test.YtgfjihpbphplhaaGreatQc
import Derived.Shelf.SlIterI.Nil
import Derived.Shelf.SortM.Plain
import Derived.Shelf.SortM.SortNone
set_option linter.unusedVariables false
set_option linter.unusedSimpArgs false
set_option linter.unusedSectionVars false
namespace Go.Proofs
open Go.Shelf
def Tryz.iw:Go.Shelf.Ren:=⟨fun|7=>197|10=>250|n=>n,fun|23=>224|26=>3|3=>3|28=>275|0=>0|27=>274|33=>150|4=>4|n=>n,fun|n=>n⟩
theorem Tryz.uA:Go.Proofs.SlLaysZI.n7 Tryz.prog Tryz.iw:= {
 mixed:=by kernel_rfl
 f7:=⟨Tryz.f197.name,by decide,Tryz.func197.trans (congrArg some (by kernel_rfl))⟩
 f10:=⟨Tryz.f250.name,by decide,Tryz.func250.trans (congrArg some (by kernel_rfl))⟩
 t0:=Tryz.underlying0
 a0:=Tryz.isAgg0
 z0:=Tryz.sizeOf0
 v0:=Tryz.zeroValue0
 t4:=Tryz.underlying4
 a4:=Tryz.isAgg4
 z4:=Tryz.sizeOf4
 v4:=Tryz.zeroValue4
 t23:=Tryz.underlying224
 a23:=Tryz.isAgg224
 z23:=Tryz.sizeOf224
 v23:=Tryz.zeroValue224
 t26:=Tryz.underlying3
 a26:=Tryz.isAgg3
 z26:=Tryz.sizeOf3
 v26:=Tryz.zeroValue3
 t27:=Tryz.underlying274
 a27:=Tryz.isAgg274
 z27:=Tryz.sizeOf274
 v27:=Tryz.zeroValue274
 t28:=Tryz.underlying275
 a28:=Tryz.isAgg275
 z28:=Tryz.sizeOf275
 v28:=Tryz.zeroValue275
 t33:=Tryz.underlying150
 a33:=Tryz.isAgg150
 z33:=Tryz.sizeOf150
 v33:=Tryz.zeroValue150}
def Tryz.jt:Go.Shelf.Ren:=⟨fun|6=>196|8=>249|9=>138|11=>303|13=>128|12=>200|23=>194|24=>195|14=>252|15=>253|16=>254|17=>255|18=>256|19=>257|20=>258|21=>259|22=>260|25=>304|26=>245|27=>246|28=>305|29=>306|30=>129|31=>327|n=>n,fun|26=>3|28=>275|24=>32|0=>0|3=>3|37=>209|48=>132|50=>272|4=>4|40=>265|39=>264|45=>30|5=>5|9=>9|51=>309|55=>313|57=>359|58=>57|33=>150|n=>n,fun|n=>n⟩
theorem Tryz.oJ:Go.Proofs.SlLaysZI.n6 Tryz.prog Tryz.jt:= {
 mixed:=by kernel_rfl
 f6:=⟨Tryz.f196.name,by decide,Tryz.func196.trans (congrArg some (by kernel_rfl))⟩
 f8:=⟨Tryz.f249.name,by decide,Tryz.func249.trans (congrArg some (by kernel_rfl))⟩
 f11:=⟨Tryz.f303.name,by decide,Tryz.func303.trans (congrArg some (by kernel_rfl))⟩
 t0:=Tryz.underlying0
 a0:=Tryz.isAgg0
 z0:=Tryz.sizeOf0
 v0:=Tryz.zeroValue0
 t24:=Tryz.underlying32
 a24:=Tryz.isAgg32
 z24:=Tryz.sizeOf32
 v24:=Tryz.zeroValue32
 t26:=Tryz.underlying3
 a26:=Tryz.isAgg3
 z26:=Tryz.sizeOf3
 v26:=Tryz.zeroValue3
 t28:=Tryz.underlying275
 a28:=Tryz.isAgg275
 z28:=Tryz.sizeOf275
 v28:=Tryz.zeroValue275
 i26:=by kernel_rfl}
def Tryz.qR:Go.Shelf.Ren:=⟨fun|5=>138|8=>128|7=>200|19=>194|20=>195|10=>252|11=>253|12=>254|13=>255|14=>256|15=>257|16=>258|17=>259|18=>260|30=>304|31=>245|32=>246|33=>305|34=>306|35=>129|40=>327|n=>n,fun|23=>32|25=>3|3=>3|32=>209|22=>32|0=>0|44=>132|46=>272|4=>4|36=>265|35=>264|41=>30|5=>5|9=>9|53=>309|57=>313|63=>359|64=>57|n=>n,fun|n=>n⟩
theorem Tryz.ui:Go.Proofs.SlLaysM.n5 Tryz.prog Tryz.qR:= {
 mixed:=by kernel_rfl
 f5:=⟨Tryz.f138.name,by decide,Tryz.func138.trans (congrArg some (by kernel_rfl))⟩
 f7:=⟨Tryz.f200.name,by decide,Tryz.func200.trans (congrArg some (by kernel_rfl))⟩
 f8:=Tryz.func128.trans (congrArg some (by kernel_rfl))
 f10:=⟨Tryz.f252.name,by decide,Tryz.func252.trans (congrArg some (by kernel_rfl))⟩
 f11:=⟨Tryz.f253.name,by decide,Tryz.func253.trans (congrArg some (by kernel_rfl))⟩
 f12:=⟨Tryz.f254.name,by decide,Tryz.func254.trans (congrArg some (by kernel_rfl))⟩
 f13:=⟨Tryz.f255.name,by decide,Tryz.func255.trans (congrArg some (by kernel_rfl))⟩
 f14:=⟨Tryz.f256.name,by decide,Tryz.func256.trans (congrArg some (by kernel_rfl))⟩
 f15:=⟨Tryz.f257.name,by decide,Tryz.func257.trans (congrArg some (by kernel_rfl))⟩
 f16:=⟨Tryz.f258.name,by decide,Tryz.func258.trans (congrArg some (by kernel_rfl))⟩
 f17:=⟨Tryz.f259.name,by decide,Tryz.func259.trans (congrArg some (by kernel_rfl))⟩
 f18:=⟨Tryz.f260.name,by decide,Tryz.func260.trans (congrArg some (by kernel_rfl))⟩
 f19:=Tryz.func194.trans (congrArg some (by kernel_rfl))
 f20:=Tryz.func195.trans (congrArg some (by kernel_rfl))
 f30:=⟨Tryz.f304.name,by decide,Tryz.func304.trans (congrArg some (by kernel_rfl))⟩
 f31:=Tryz.func245.trans (congrArg some (by kernel_rfl))
 f32:=Tryz.func246.trans (congrArg some (by kernel_rfl))
 f33:=⟨Tryz.f305.name,by decide,Tryz.func305.trans (congrArg some (by kernel_rfl))⟩
 f34:=⟨Tryz.f306.name,by decide,Tryz.func306.trans (congrArg some (by kernel_rfl))⟩
 f35:=⟨Tryz.f129.name,by decide,Tryz.func129.trans (congrArg some (by kernel_rfl))⟩
 f40:=⟨Tryz.f327.name,by decide,Tryz.func327.trans (congrArg some (by kernel_rfl))⟩
 t0:=Tryz.underlying0
 a0:=Tryz.isAgg0
 z0:=Tryz.sizeOf0
 v0:=Tryz.zeroValue0
 t3:=Tryz.underlying3
 a3:=Tryz.isAgg3
 z3:=Tryz.sizeOf3
 v3:=Tryz.zeroValue3
 t4:=Tryz.underlying4
 a4:=Tryz.isAgg4
 z4:=Tryz.sizeOf4
 v4:=Tryz.zeroValue4
 t5:=Tryz.underlying5
 a5:=Tryz.isAgg5
 z5:=Tryz.sizeOf5
 v5:=Tryz.zeroValue5
 t9:=Tryz.underlying9
 a9:=Tryz.isAgg9
 z9:=Tryz.sizeOf9
 v9:=Tryz.zeroValue9
 t22:=Tryz.underlying32
 a22:=Tryz.isAgg32
 z22:=Tryz.sizeOf32
 v22:=Tryz.zeroValue32
 t23:=Tryz.underlying32
 a23:=Tryz.isAgg32
 z23:=Tryz.sizeOf32
 v23:=Tryz.zeroValue32
 t25:=Tryz.underlying3
 a25:=Tryz.isAgg3
 z25:=Tryz.sizeOf3
 v25:=Tryz.zeroValue3
 t32:=Tryz.underlying209
 a32:=Tryz.isAgg209
 z32:=Tryz.sizeOf209
 v32:=Tryz.zeroValue209
 t35:=Tryz.underlying264
 a35:=Tryz.isAgg264
 z35:=Tryz.sizeOf264
 v35:=Tryz.zeroValue264
 t36:=Tryz.underlying265
 a36:=Tryz.isAgg265
 z36:=Tryz.sizeOf265
 v36:=Tryz.zeroValue265
 t41:=Tryz.underlying30
 a41:=Tryz.isAgg30
 z41:=Tryz.sizeOf30
 v41:=Tryz.zeroValue30
 t44:=Tryz.underlying132
 a44:=Tryz.isAgg132
 z44:=Tryz.sizeOf132
 v44:=Tryz.zeroValue132
 t46:=Tryz.underlying272
 a46:=Tryz.isAgg272
 z46:=Tryz.sizeOf272
 v46:=Tryz.zeroValue272
 t53:=Tryz.underlying309
 a53:=Tryz.isAgg309
 z53:=Tryz.sizeOf309
 v53:=Tryz.zeroValue309
 t57:=Tryz.underlying313
 a57:=Tryz.isAgg313
 z57:=Tryz.sizeOf313
 v57:=Tryz.zeroValue313
 t63:=Tryz.underlying359
 a63:=Tryz.isAgg359
 z63:=Tryz.sizeOf359
 v63:=Tryz.zeroValue359
 t64:=Tryz.underlying57
 a64:=Tryz.isAgg57
 z64:=Tryz.sizeOf57
 v64:=Tryz.zeroValue57}
end Go.Proofs
namespace Go.Proofs.YtgfjihpbphplhaaGreat
open Go.Kern Go.RowKit Go.Maps Go.Sort Go.Shelf Go.Proofs Go.WideElems Go.MapKept
theorem oI (m:Nat):AnyZI.SortsIn Tryz.prog Tryz.jt Fence.wide m:=
  ⟨fun blk off cap ss W hH hblk hsz=>callsIn_wide.2 (AnyM.slices_Sort_int Tryz.ui blk off cap ss W hH hblk hsz),
   fun p cap W=>callsIn_wide.2 (AnyM.slices_Sort_int_none Tryz.ui p cap W)⟩
def yc:Value→Option (DataW Unit×List MemPlace):=fun _=>some (.nil,[])
theorem wK {x:MapEntry} {n:Int} (h:x.key= .int .i64 n) (hw:(Lit.int .i64 n).wf=true):rd Tryz.prog 3 yc x=some (.int .i64 n,.nil):=by
 have hk:keyOf Tryz.prog 3 x.key=some (.int .i64 n):=by
  rw[h]
  simp[keyOf,Tryz.underlying3,mapKey,hw]
 unfold WideElems.rd;rw[hk];rfl
theorem u9:po Tryz.prog 196 250 3 where
 fn:=⟨_,Tryz.func196,rfl,rfl⟩
 sm:=fun Bm b es clock w hBm hm hh bg hk hmax hbytes=>by
  have F:Fit Tryz.prog 3 yc es clock:=⟨hmax,bg,fun x hx=>by
   obtain⟨s,h1,h2⟩:=hk x hx
   exact⟨_,wK h1 h2⟩⟩
  obtain⟨D0,hD⟩:∃D0:DataW Unit,D0= .map ((es.toList.map (rg Tryz.prog 3 yc)).foldr DataW.insert []):=⟨_,rfl⟩
  have hown:w.ownsMap Tryz.prog 3 yc b es.size D0:=⟨es,clock,hh,F,Nat.le_refl _,hD⟩
  have hperm:=WideShapes.sorted_perm (es.toList.map (rg Tryz.prog 3 yc))
  have hsize:Maps.size D0=es.size:=by
   rw[hD,Maps.size_eq,hperm.length_eq,List.length_map,Array.length_toList]
  have hkeys:(intKeys D0).Perm (es.toList.map Go.Kern.nd):=by
   rw[hD]
   refine(hperm.map fun p=>Go.intOf p.1).trans (List.Perm.of_eq ?_)
   rw[List.map_map]
   refine List.map_congr_left fun x hx=>?_
   obtain⟨s,h1,h2⟩:=hk x hx
   simp[rg,wK h1 h2,Go.Kern.nd,h1,Go.intOf]
  have hseq:=AnyZI.keys_gives (ρ:=Tryz.iw) {Tryz.uA with} Fence.wide 2 trivial rfl (by omega) Bm b es.size D0 w hBm hm hown
  have hc:=AnyZI.sorted_in Tryz.oJ Fence.wide 5 trivial trivial trivial trivial rfl (by omega) (oI _) (enters_of Tryz.func138 (by kernel_rfl) rfl) 250 #[.pointer (some ⟨Bm,0,none⟩)] trivial (enters_of Tryz.func250 (by kernel_rfl) rfl) _ _ (by rw[hsize];exact hmax) (by rw[hsize];exact hbytes) w hseq
  refine(callsIn_wide.1 hc).mono ?_
  rintro e w' ⟨v,ss,rfl,hp,hrow,hnil,hb⟩
  exact⟨v,ss,rfl,hp.trans hkeys,hrow,hnil,hb⟩
 nl:=fun Bm w hBm hm=>by
  have hseq:=AnyZI.keys_gives_nil (ρ:=Tryz.iw) {Tryz.uA with} Fence.wide 2 trivial rfl Bm w hBm hm
  have hc:=AnyZI.sorted_in Tryz.oJ Fence.wide 5 trivial trivial trivial trivial rfl (by omega) (oI _) (enters_of Tryz.func138 (by kernel_rfl) rfl) 250 #[.pointer (some ⟨Bm,0,none⟩)] trivial (enters_of Tryz.func250 (by kernel_rfl) rfl) _ 0 (Nat.zero_le _) (by omega) w hseq
  refine(callsIn_wide.1 hc).mono ?_
  rintro e w' ⟨v,ss,rfl,hp,hrow,hnil,hb⟩
  exact⟨by rw[hnil.2 hp],hb⟩
end Go.Proofs.YtgfjihpbphplhaaGreat

namespace Go.Proofs.YtgfjihpbphplhaaGreat
open Go.Kern Go.RowKit
set_option maxRecDepth 100000
set_option maxHeartbeats 4000000
attribute [local irreducible] af W
theorem tv (o:Nat) (σ:aa):af Tryz.prog 197 [.map o] σ (fun r t=>∃b,σ b=none∧r= .fn 250 [.ptr b 0 0]∧t=σ.put b (.arr 224 [.map o])):=by
 refine ai [.tmp 2] 4 Tryz.func197 (by rfl) rfl rfl rfl rfl ?_
 (have kM:Mu [1]:=⟨⟩;repeat' first|refine zw ?_|refine ry [1] c0 fun nu _ _=>?_|refine zc rfl (fun h=>?_) fun h=>?_|refine zi (fun h=>?_) fun h=>?_|exact .intro|fail);all_goals clear kM
 intro b hb
 repeat' first|refine zw ?_|refine zy fun nu _ _=>?_|refine zc rfl (fun h=>?_) fun h=>?_|refine zi (fun h=>?_) fun h=>?_|exact .intro|fail
 exact⟨_,aa.Sub.refl _,b,hb,rfl,rfl⟩
def ri (L:List bq) (a:Int):List Int:=
 match bc L a with
 |some x=>eE (x.es.map (·.1))
 |none=>[]
def yU (L:List bq) (a:Int):SK:=
 match bc L a with
 |some x=>B3 (x.es.map (·.1))
 |none=> .nil
theorem wW {g m:Nat} {L:List bq} {s:aa} (H:GR g m L s) (a:Int) {x:bq} (hx:bc L a=some x) (hl:x.es.length<1000) (hb:∀p,p∈x.es→ -1000≤p.1∧p.1≤1000):af Tryz.prog 133 [.ptr g 0 0,.int .i64 a] s (fun r t=>r= .sl (yU L a) (ints (ri L a))∧t=s):=by
 have h1:=H.rg
 have h2:=H.rm
 have hk:=iZ L
 have hf:=fe a L
 rw[hx] at hf
 simp only[Option.map_some] at hf
 obtain⟨hxm,_⟩:=cI hx
 have h3:=H.ob x hxm
 have e1:ri L a=eE (x.es.map (·.1)):=by rw[ri,hx]
 have e2:yU L a=B3 (x.es.map (·.1)):=by rw[yU,hx]
 rw[e1,e2]
 refine ah [.tmp 4] 15 Tryz.func133 (by rfl) rfl rfl rfl rfl ?_
 (have kX:=nO @h1 @h2 @hk @hf;repeat' first|refine zw ?_|refine zy fun nu _ _=>?_|refine zc rfl (fun h=>?_) fun h=>?_|refine zi (fun h=>?_) fun h=>?_|exact .intro|fail);all_goals clear kX
 refine aK (tv x.o s) ?_
 rintro _ _ ⟨b,hbn,rfl,rfl⟩
 simp -dsimp (disch:=omega) only[go_sem]
 repeat' first|refine zw ?_|refine zy fun nu _ _=>?_|refine zc rfl (fun h=>?_) fun h=>?_|refine zi (fun h=>?_) fun h=>?_|exact .intro|fail
 have hob:x.o≠b:=bh h3 hbn
 refine aK (pF u9 (l:=x.es.map fun p=>(p.1,AV.int .i64 p.2)) (σ:=s.put b (.arr 224 [.map x.o])) (ao _ _ _) (by rw[au hob,h3,zk,List.map_map];rfl) (by rw[List.length_map];omega) (fun p hp=>by
  obtain⟨q,hq,rfl⟩:=List.mem_map.1 hp
  have:=hb q hq
  simp only;omega)) ?_
 rintro _ _ ⟨rfl,rfl⟩
 simp -dsimp (disch:=omega) only[go_sem]
 repeat' first|refine zw ?_|refine zy fun nu _ _=>?_|refine zc rfl (fun h=>?_) fun h=>?_|refine zi (fun h=>?_) fun h=>?_|exact .intro|fail
 refine⟨?_,an hbn⟩
 rw[List.map_map]
 rfl
end Go.Proofs.YtgfjihpbphplhaaGreat

namespace Go.Proofs.YtgfjihpbphplhaaGreat
open Go.Kern
set_option maxRecDepth 100000
set_option maxHeartbeats 4000000
attribute [local irreducible] af W
structure HS (σ:aa) (ρ:Rk→Wk) (f:AV) (h m:Nat) (v:Option (Nat×Nat×List Th)) (c:List Th) (em:EM) (w:Int) (s:aa):Prop where
 sub:σ.Sub s
 fh:σ h=none
 fm:σ m=none
 hm:h≠m
 rm:s m=some (.map (tJ em))
 lo:0≤w
 hi:w<1000000
 srt:c.Pairwise fun a b=>a.w<b.w∧a.k≠b.k
 top:∀t,t∈c→t.w≤w
 nil:v=none→c=[]∧em=[]∧s h=some (.arr 368 [.agg [f,.sl .nil [],.map m,.int .i64 w]])
 row:∀o n ls,v=some (o,n,ls)→σ o=none∧ei h m o∧s h=some (.arr 368 [.agg [f,.ms o 4 0 n,.map m,.int .i64 w]])∧s o=some (.arr 370 (bY ls))∧eV ρ c n ls em
theorem sU {s:aa} {p:Nat} {x:Ob} (h:s p=some x):s.put p x=s:=by
 funext q
 simp only[aa.put]
 split
 ·rename_i e;rw[e,h]
 ·rfl
theorem xo {s:aa} {h m o:Nat} {f:AV} {n:Nat} {ls:List Th} {em:EM} {w:Int} (h1:s h=some (.arr 368 [.agg [f,.ms o 4 0 n,.map m,.int .i64 w]])) (h2:s m=some (.map (tJ em))) (h3:s o=some (.arr 370 (bY ls))):
  bg s h m o f n ls em w=s:=by
 unfold bg
 rw[sU h1,sU h2,sU h3]
section
variable {σ:aa} {ρ:Rk→Wk} {lt:Rk→Rk→Bool} {fi:Nat} {p m:Nat} {v:Option (Nat×Nat×List Th)} {c:List Th} {em:EM} {w:Int} {s:aa}
theorem w6 (ρ:Rk→Wk) (fi:Nat) (σ:aa):af Tryz.prog 269 [.fn fi []] σ (fun r s=>∃p m,r= .ptr p 0 0∧HS σ ρ (.fn fi []) p m none [] [] 0 s):=by
 refine ai [.tmp 2] 9 Tryz.func269 (by rfl) rfl rfl rfl rfl ?_
 (have kM:Mu [8]:=⟨⟩;repeat' first|refine zw ?_|refine ry [8] c0 fun nu _ _=>?_|refine zc rfl (fun h=>?_) fun h=>?_|refine zi (fun h=>?_) fun h=>?_|exact .intro|fail);all_goals clear kM
 intro o1 ho1 o2 ho2
 (have kM:Mu [8]:=⟨⟩;repeat' first|refine zw ?_|refine ry [8] c0 fun nu _ _=>?_|refine zc rfl (fun h=>?_) fun h=>?_|refine zi (fun h=>?_) fun h=>?_|exact .intro|fail);all_goals clear kM
 have h21:=fC ho2
 refine⟨_,aa.Sub.refl _,o2,o1,rfl,⟨aw (aw (aa.Sub.refl _) ho1 _) (ep ho2) _,ep ho2,ho1,fun e=>h21 e.symm,?_,Int.le_refl _,by omega,.nil,nofun,fun _=>⟨rfl,rfl,ao _ _ _⟩,nofun⟩⟩
 rw[au h21,ao];rfl
theorem HS.box {σ:aa} {ρ:Rk→Wk} {f:AV} {h m:Nat} {v:Option (Nat×Nat×List Th)} {c:List Th} {em:EM} {w:Int} {s:aa} (H:HS σ ρ f h m v c em w s) {b:Nat} (hb:s b=none) (x:Ob):HS (σ.put b x) ρ f h m v c em w (s.put b x):=by
 have hσ:σ b=none:=bo H.sub hb
 have hbm:m≠b:=bh H.rm hb
 have hs:(σ.put b x).Sub (s.put b x):=fun p y hy=>by
  simp only[aa.put] at hy ⊢
  split
  ·rename_i e;rw[if_pos e] at hy;exact hy
  ·rename_i e;rw[if_neg e] at hy;exact H.sub _ _ hy
 have hhb:h≠b:=by
  match v,H.nil,H.row with
  |none,h1,_=>exact bh (h1 rfl).2.2 hb
  |some (o,n,ls),_,h1=>exact bh (h1 _ _ _ rfl).2.2.1 hb
 refine⟨hs,by rw[au hhb];exact H.fh,by rw[au hbm];exact H.fm,H.hm,by rw[au hbm];exact H.rm,H.lo,H.hi,H.srt,H.top,fun e=>?_,fun o n ls e=>?_⟩
 ·obtain⟨g1,g2,g3⟩:=H.nil e
  exact⟨g1,g2,by rw[au hhb];exact g3⟩
 ·obtain⟨g1,g2,g3,g4,g5⟩:=H.row o n ls e
  have hob:o≠b:=bh g4 hb
  exact⟨by rw[au hob];exact g1,g2,by rw[au hhb];exact g3,by rw[au hob];exact g4,g5⟩
theorem HS.unbox {σ:aa} {ρ:Rk→Wk} {f:AV} {h m:Nat} {v:Option (Nat×Nat×List Th)} {c:List Th} {em:EM} {w:Int} {s:aa} {b:Nat} {x:Ob} (H:HS (σ.put b x) ρ f h m v c em w s) (hb:σ b=none) (y:Ob):HS σ ρ f h m v c em w (s.put b y):=by
 have ne:∀{q},(σ.put b x) q=none→q≠b:=fun {q} h e=>by rw[e,ao] at h;cases h
 have hh:=ne H.fh
 have hm:=ne H.fm
 refine⟨fun p z hz=>?_,by rw[←H.fh,au hh],by rw[←H.fm,au hm],H.hm,by rw[au hm];exact H.rm,H.lo,H.hi,H.srt,H.top,fun e=>?_,fun o n ls e=>?_⟩
 ·have hp:p≠b:=fun e=>by rw[e,hb] at hz;cases hz
  rw[au hp]
  exact H.sub p z (by rw[au hp];exact hz)
 ·obtain⟨g1,g2,g3⟩:=H.nil e
  exact⟨g1,g2,by rw[au hh];exact g3⟩
 ·obtain⟨g1,g2,g3,g4,g5⟩:=H.row o n ls e
  have hob:=ne g1
  exact⟨by rw[←g1,au hob],g2,by rw[au hh];exact g3,by rw[au hob];exact g4,g5⟩
theorem HS.wr {σ:aa} {ρ:Rk→Wk} {f:AV} {h m:Nat} {v:Option (Nat×Nat×List Th)} {c:List Th} {em:EM} {w:Int} {s:aa} (H:HS σ ρ f h m v c em w s) {b:Nat} {y:Ob} (hb:σ b=some y) (x:Ob):HS (σ.put b x) ρ f h m v c em w (s.put b x):=by
 have ne:∀{q},σ q=none→q≠b:=fun {q} h e=>by rw[e,hb] at h;cases h
 have hh:=ne H.fh
 have hm:=ne H.fm
 refine⟨fun p z hz=>?_,by rw[au hh];exact H.fh,by rw[au hm];exact H.fm,H.hm,by rw[au hm];exact H.rm,H.lo,H.hi,H.srt,H.top,fun e=>?_,fun o n ls e=>?_⟩
 ·simp only[aa.put] at hz ⊢
  split
  ·rename_i e;rw[if_pos e] at hz;exact hz
  ·rename_i e;rw[if_neg e] at hz;exact H.sub _ _ hz
 ·obtain⟨g1,g2,g3⟩:=H.nil e
  exact⟨g1,g2,by rw[au hh];exact g3⟩
 ·obtain⟨g1,g2,g3,g4,g5⟩:=H.row o n ls e
  have hob:=ne g1
  exact⟨by rw[au hob];exact g1,g2,by rw[au hh];exact g3,by rw[au hob];exact g4,g5⟩
theorem HS.nw {σ:aa} {ρ:Rk→Wk} {f:AV} {h m:Nat} {v:Option (Nat×Nat×List Th)} {c:List Th} {em:EM} {w:Int} {s:aa} (H:HS σ ρ f h m v c em w s) {b:Nat} (hb:s b=none) (x:Ob):HS σ ρ f h m v c em w (s.put b x):=by
 have h1:=(H.box hb x).unbox (bo H.sub hb) x
 rw[iT] at h1
 exact h1
theorem vD (H:HS σ ρ (.fn fi []) p m v [] em w s):af Tryz.prog 314 [.ptr p 0 0] s (fun r t=>r= .bK [.int .i64 0,.agg [.int .i64 0,.sl .nil []],.bool false]∧t=s):=by
  have h00:(((0:Nat):Int)=0)=True:=by simp
  refine ah [.tmp 2,.cell 3 281,.tmp 4] 34 Tryz.func314 (by rfl) rfl rfl rfl rfl ?_
  match v,H.nil,H.row with
  | none,h1,_=>
    obtain⟨_,rfl,h2⟩:=h1 rfl
    repeat' first|refine zw ?_|refine zy fun nu _ _=>?_|refine zc rfl (fun h=>?_) fun h=>?_|refine zi (fun h=>?_) fun h=>?_|exact .intro|fail
    intro o ho
    have kp:=aD h2 ho
    replace ho:=eU.mk ho
    (have kX:=g9 @kp @h00;repeat' first|refine zh ?_|(refine al ?_;intro b hb)|refine ry (id:=3) [] (cw [] [5] [] [] []) fun nu _ _=>?_|refine zy fun nu _ _=>?_|refine zc rfl (fun h=>?_) fun h=>?_|refine zi (fun h=>?_) fun h=>?_|exact .intro|fail);all_goals clear kX
    (first|exact an ho.h|exact⟨rfl,an ho.h⟩|exact aa.Sub.refl _)
  | some (o,n,ls),_,h1=>
    obtain⟨_,d,h2,h3,hp⟩:=h1 _ _ _ rfl
    have hn:n=0:=hp.cnt
    subst hn
    repeat' first|refine zw ?_|refine zy fun nu _ _=>?_|refine zc rfl (fun h=>?_) fun h=>?_|refine zi (fun h=>?_) fun h=>?_|exact .intro|fail
    intro o ho
    have kp:=aD h2 ho
    replace ho:=eU.mk ho
    (have kX:=g9 @kp @h00;repeat' first|refine zh ?_|(refine al ?_;intro b hb)|refine ry (id:=3) [] (cw [] [5] [] [] []) fun nu _ _=>?_|refine zy fun nu _ _=>?_|refine zc rfl (fun h=>?_) fun h=>?_|refine zi (fun h=>?_) fun h=>?_|exact .intro|fail);all_goals clear kX
    (first|exact an ho.h|exact⟨rfl,an ho.h⟩|exact aa.Sub.refl _)
theorem tG (H:HS σ ρ (.fn fi []) p m v c em w s) (hc:c≠[]):∃t,t∈c∧(∀u,u∈c→¬lex ρ u t)∧∀ (σ:aa) (s:aa),HS σ ρ (.fn fi []) p m v c em w s→
    af Tryz.prog 314 [.ptr p 0 0] s (fun r t'=>r= .bK [.int .i64 t.k,.agg [.int .i64 t.r.c,.sl t.r.kd (bI t.r.l)],.bool true]∧t'=s):=by
  match v,H.nil,H.row with
  |none,h1,_=>exact absurd (h1 rfl).1 hc
  | some (o,n,ls),_,h1=>
    obtain⟨_,d,_,_,hp⟩:=h1 _ _ _ rfl
    have hn:0<n:=by
      rw[hp.cnt]
      exact List.length_pos_iff.2 hc
    have hlen:=hp.len
    have g0:=cp (show 0<ls.length by omega)
    have hn0:((n:Int)=0)=False:=eq_false (by omega)
    have q1:((0:Int)<(n:Int))=True:=eq_true (by omega)
    refine⟨ls.getD 0 av,hp.mem 0 hn,fun u hu=>?_,?_⟩
    · obtain⟨j,hj,rfl⟩:=hp.sur u hu
      exact hp.least j hj
    · intro σ s H
      obtain⟨_,d,h2,h3,hp⟩:=H.row _ _ _ rfl
      refine ah [.tmp 2,.cell 3 281,.tmp 4] 34 Tryz.func314 (by rfl) rfl rfl rfl rfl ?_
      repeat' first|refine zw ?_|refine zy fun nu _ _=>?_|refine zc rfl (fun h=>?_) fun h=>?_|refine zi (fun h=>?_) fun h=>?_|exact .intro|fail
      intro b hb
      have kp:=aD h2 hb
      have k3:=aD h3 hb
      have hob:o≠b:=bh h3 hb
      have hpb:p≠b:=bh h2 hb
      have ho:=eU.mk hb
      clear hb
      (have kX:=uS @kp @k3 @g0 @hn0 @q1;repeat' first|refine zh ?_|(refine al ?_;intro b hb)|refine ry (id:=4) [] (cw [3,6,10,13] [15] [] [] []) fun nu _ _=>?_|refine zy fun nu _ _=>?_|refine zc rfl (fun h=>?_) fun h=>?_|refine zi (fun h=>?_) fun h=>?_|exact .intro|fail);all_goals clear kX
      (first|exact an ho.h|exact⟨rfl,an ho.h⟩|exact aa.Sub.refl _)
theorem vk (H:HS σ ρ (.fn fi []) p m v c em w s) (k:Int) (hk:∀t,t∈c→t.k≠k):
  af Tryz.prog 273 [.ptr p 0 0,.int .i64 k] s (fun r t=>r= .bK [.agg [.int .i64 0,.sl .nil []],.bool false]∧t=s):=by
 have hf:bP k em=none:=by
  match v,H.nil,H.row with
  |none,h1,_=>rw[(h1 rfl).2.1];rfl
  |some (o,n,ls),_,h1=>exact(h1 _ _ _ rfl).2.2.2.2.no k hk
 have hm:=H.rm
 have he:=je k em
 rw[hf] at he
 have hh:∃x,s p=some (.arr 368 [.agg [.fn fi [],x,.map m,.int .i64 w]]):=by
  match v,H.nil,H.row with
  |none,h1,_=>exact⟨_,(h1 rfl).2.2⟩
  |some (o,n,ls),_,h1=>exact⟨_,(h1 _ _ _ rfl).2.2.1⟩
 obtain⟨x,hx⟩:=hh
 refine ah [.cell 4 281,.tmp 5] 32 Tryz.func273 (by rfl) rfl rfl rfl rfl ?_
 repeat' first|refine zw ?_|refine zy fun nu _ _=>?_|refine zc rfl (fun h=>?_) fun h=>?_|refine zi (fun h=>?_) fun h=>?_|exact .intro|fail
 intro o ho
 have kx:=aD hx ho
 have km:=aD hm ho
 replace ho:=eU.mk ho
 (have kX:=nO @kx @km @he @gO;repeat' first|refine zh ?_|(refine al ?_;intro b hb)|refine zy fun nu _ _=>?_|refine zc rfl (fun h=>?_) fun h=>?_|refine zi (fun h=>?_) fun h=>?_|exact .intro|fail);all_goals clear kX
 (first|exact an ho.h|exact⟨rfl,an ho.h⟩|exact aa.Sub.refl _)
theorem vj (H:HS σ ρ (.fn fi []) p m v c em w s) (t:Th) (ht:t∈c):
    af Tryz.prog 273 [.ptr p 0 0,.int .i64 t.k] s (fun r t'=>r= .bK [.agg [.int .i64 t.r.c,.sl t.r.kd (bI t.r.l)],.bool true]∧t'=s):=by
  match v,H.nil,H.row with
  |none,h1,_=>rw[(h1 rfl).1] at ht;cases ht
  | some (o,n,ls),_,h1=>
    obtain⟨_,d,h2,h3,hp⟩:=h1 _ _ _ rfl
    obtain⟨j,hj,rfl⟩:=hp.sur t ht
    have hlen:=hp.len
    have he:=je (ls.getD j av).k em
    rw[hp.at_ j hj] at he
    have g0:=cp (show j<ls.length by omega)
    have hn1:((j:Int)<(n:Int))=True:=eq_true (by omega)
    have hm:=H.rm
    refine ah [.cell 4 281,.tmp 5] 32 Tryz.func273 (by rfl) rfl rfl rfl rfl ?_
    repeat' first|refine zw ?_|refine zy fun nu _ _=>?_|refine zc rfl (fun h=>?_) fun h=>?_|refine zi (fun h=>?_) fun h=>?_|exact .intro|fail
    intro b hb
    have k2:=aD h2 hb
    have k3:=aD h3 hb
    have km:=aD hm hb
    have ho:=eU.mk hb
    clear hb
    (have kX:=qC @k2 @k3 @km @he @gO @g0 @hn1;repeat' first|refine zh ?_|(refine al ?_;intro b hb)|refine zy fun nu _ _=>?_|refine zc rfl (fun h=>?_) fun h=>?_|refine zi (fun h=>?_) fun h=>?_|exact .intro|fail);all_goals clear kX
    (first|exact an ho.h|exact⟨rfl,an ho.h⟩|exact aa.Sub.refl _)
end
end Go.Proofs.YtgfjihpbphplhaaGreat

namespace Go.Proofs.YtgfjihpbphplhaaGreat
open Go.Kern
set_option maxRecDepth 100000
set_option maxHeartbeats 4000000
attribute [local irreducible] af W
section
variable {σ:aa} {ρ:Rk→Wk} {lt:Rk→Rk→Bool} {fi:Nat} {p m:Nat} {v:Option (Nat×Nat×List Th)} {c:List Th} {em:EM} {w:Int} {s:aa}
theorem wq {n:Nat} {x:Th} (hr:ey ρ lt):(∀ls em i,v7 ρ c n x ls em i→i<n∧n≤ls.length∧ls.length<1000000)∧
  (∀ls em i,v7 ρ c n x ls em i→0<i→ahead lt x (ls.getD ((i-1)/2) av)=true→v7 ρ c n x (ls.set i (ls.getD ((i-1)/2) av)) (cm (ls.getD ((i-1)/2) av).k i em) ((i-1)/2)):=
 ⟨fun _ _ _ h=>⟨h.hole.bi,h.hole.len,h.hole.big⟩,fun _ _ _ h hi ha=>h.step hi ((gP hr).1 ha)⟩
theorem rW {n:Nat} {x:Th} (hr:ey ρ lt):(∀ls em i,hC ρ c n x ls em i→i<n∧n≤ls.length∧ls.length<1000000)∧
  (∀ls em i,hC ρ c n x ls em i→2*i+1<n→ahead lt (ls.getD (child lt n ls i) av) x=true→hC ρ c n x (ls.set i (ls.getD (child lt n ls i) av)) (cm (ls.getD (child lt n ls i) av).k i em) (child lt n ls i)):=
 ⟨fun _ _ _ h=>⟨h.hole.bi,h.hole.len,h.hole.big⟩,fun _ _ _ h hi ha=>h.step hr hi ha⟩
theorem iP (hr:ey ρ lt) (hf:nN fi lt) {o:Nat} (d:ei p m o) {n:Nat} {x:Th} {ls:List Th} {i:Nat} (hx:ls.getD i av=x) (h:v7 ρ c n x ls em i) (w:Int) (σ:aa):
  af Tryz.prog 313 [.ptr p 0 0,.int .i64 i] (bg σ p m o (.fn fi []) n ls em w)
   (fun r s=>∃ls' em' i',hC ρ c n x ls' em' i'∧ls'.getD i' av=x∧r= .int .i64 i'∧s=bg σ p m o (.fn fi []) n ls' em' w):=by
 refine(yF hf d n w x (v7 ρ c n x) (wq hr).1 (wq hr).2 ls em i hx h σ).mono ?_
 rintro r s ⟨ls',em',i',h1,h2,rfl,rfl⟩
 have hb:=h1.hole.bi
 have hl:=h1.hole.len
 refine⟨_,_,_,h1.CO (h2.imp_right fun h=>(uR hr).1 h),by rw[hO (by omega),if_pos rfl],rfl,rfl⟩
theorem fR (hr:ey ρ lt) (hf:nN fi lt) {o:Nat} (d:ei p m o) {n:Nat} {x:Th} {ls:List Th} {i:Nat} (hx:ls.getD i av=x) (h:hC ρ c n x ls em i) (w:Int) (σ:aa):
  af Tryz.prog 312 [.ptr p 0 0,.int .i64 i] (bg σ p m o (.fn fi []) n ls em w)
   (fun r s=>r= .bK []∧∃ls' em',eV ρ c n ls' em'∧s=bg σ p m o (.fn fi []) n ls' em' w):=by
 refine(vK hf d n w x (hC ρ c n x) (rW hr).1 (rW hr).2 ls em i hx h σ).mono ?_
 rintro r s ⟨ls',em',i',h1,h2,rfl,rfl⟩
 exact⟨rfl,_,_,h1.rest hr h2,rfl⟩
theorem yG {σ s:aa} (hs:σ.Sub s) {p m o:Nat} (hp:σ p=none) (hm:σ m=none) (ho:σ o=none) (f:AV) (n:Nat) (ls:List Th) (em:EM) (w:Int):σ.Sub (bg s p m o f n ls em w):=by
 intro q x hq
 have l:Loc q p m o:=⟨(fun e=>by rw[e,hp] at hq;cases hq),(fun e=>by rw[e,hm] at hq;cases hq),(fun e=>by rw[e,ho] at hq;cases hq)⟩
 rw[l.rd];exact hs q x hq
theorem HS.next {c':List Th} {em':EM} {n:Nat} {ls:List Th} {w':Int} {o:Nat} {s':aa} (H:HS σ ρ (.fn fi []) p m v c em w s) (hs:σ.Sub s') (fo:σ o=none) (d:ei p m o) (hh:eV ρ c' n ls em') (hlo:0≤w') (hhi:w'<1000000)
  (srt:c'.Pairwise fun a b=>a.w<b.w∧a.k≠b.k) (top:∀t,t∈c'→t.w≤w'):HS σ ρ (.fn fi []) p m (some (o,n,ls)) c' em' w' (bg s' p m o (.fn fi []) n ls em' w'):=
 ⟨yG hs H.fh H.fm fo _ _ _ _ _,H.fh,H.fm,d.hm,d.rm _ _ _ _ _ _,hlo,hhi,srt,top,nofun,fun _ _ _ e=>by
  injection e with e
  injection e with u1 e
  injection e with u2 u3
  subst u1;subst u2;subst u3
  exact⟨fo,d,d.rh _ _ _ _ _ _,d.ro _ _ _ _ _ _,hh⟩⟩
theorem HS.pH (H:HS σ ρ (.fn fi []) p m v c em w s) (k:Int) (r:Rk):∀t,t∈aQ c k++[(⟨k,r,w+1⟩:Th)]→t.w≤w+1:=by
 intro t ht
 rcases List.mem_append.1 ht with h|h
 ·have:=H.top t (bn.1 h).1;omega
 ·rw[List.mem_singleton] at h;subst h;exact Int.le_refl _
theorem yL (hr:ey ρ lt) (hf:nN fi lt) (H:HS σ ρ (.fn fi []) p m v c em w s) (hw:w+1<1000000) (k:Int) (r:Rk) {i:Nat} (hfi:bP k em=some i):
    af Tryz.prog 271 [.ptr p 0 0,.int .i64 k,.agg [.int .i64 r.c,.sl r.kd (bI r.l)]] s (fun a t=>∃v' em',a= .bool true∧HS σ ρ (.fn fi []) p m v' (aQ c k++[⟨k,r,w+1⟩]) em' (w+1) t):=by
  match v,H.nil,H.row with
  |none,h1,_=>rw[(h1 rfl).2.1] at hfi;cases hfi
  | some (o,n,ls),_,h1=>
    obtain⟨fo,d,h2,h3,hp⟩:=h1 _ _ _ rfl
    have hm:=H.rm
    obtain⟨hin,hk⟩:=hp.kZ hfi
    have hlen:=hp.len
    have hup:=hp.Am H.srt (x:=⟨k,r,w+1⟩) hfi
    have he:=je k em
    rw[hfi] at he
    have hid:=xo h2 hm h3
    have hw1:IntKind.i64.wrap (w+1)=w+1:=cR (by have:=H.lo;omega) (by omega)
    have hput:=d.wh s (.fn fi []) (.fn fi []) n n ls em w (w+1)
    rw[hid] at hput
    refine ai [.tmp 6] 60 Tryz.func271 (by rfl) rfl rfl rfl rfl ?_
    (have kX:=sx @h2 @hm @he @gO @hw1 @hput @d.rh @d.rm @d.ro @d.wh;repeat' first|refine zw ?_|refine ry (id:=8) [] (cw [7] [9] [] [] []) fun nu _ _=>?_|refine zy fun nu _ _=>?_|refine zc rfl (fun h=>?_) fun h=>?_|refine zi (fun h=>?_) fun h=>?_|exact .intro|refine uw (dz d _ n ls hlen em (w+1) i hin ⟨k,r,w+1⟩ s) ?_|fail);all_goals clear kX
    refine aK (iP hr hf d (by rw[hO (by omega),if_pos rfl]) hup _ _) ?_
    rintro _ _ ⟨ls1,em1,i1,hd,hx1,rfl,rfl⟩
    repeat' first|refine zw ?_|refine zy fun nu _ _=>?_|refine zc rfl (fun h=>?_) fun h=>?_|refine zi (fun h=>?_) fun h=>?_|exact .intro|fail
    refine aK (fR hr hf d hx1 hd _ _) ?_
    rintro _ _ ⟨rfl,ls2,em2,hh,rfl⟩
    repeat' first|refine zw ?_|refine zy fun nu _ _=>?_|refine zc rfl (fun h=>?_) fun h=>?_|refine zi (fun h=>?_) fun h=>?_|exact .intro|fail
    exact⟨_,aa.Sub.refl _,_,_,H.next H.sub fo d hh (by have:=H.lo;omega) hw (mF H.srt H.top k r) (H.pH k r)⟩
theorem qF (l:List Th) (i:Nat):(bY l).take i=bY (l.take i):=by simp[bY,List.map_take]
theorem pA (l:List Th):bY l++[.agg [.int .i64 0,.int .i64 0,.sl .nil [],.int .i64 0]]=bY (l++[av]):=by unfold bY;rw[List.map_append];rfl
theorem yM (hr:ey ρ lt) (hf:nN fi lt) (H:HS σ ρ (.fn fi []) p m v c em w s) (hw:w+1<1000000) (hc:c.length+1<1000000) (k:Int) (r:Rk) (hfi:bP k em=none):
    af Tryz.prog 271 [.ptr p 0 0,.int .i64 k,.agg [.int .i64 r.c,.sl r.kd (bI r.l)]] s (fun a t=>∃v' em',a= .bool false∧HS σ ρ (.fn fi []) p m v' (aQ c k++[⟨k,r,w+1⟩]) em' (w+1) t):=by
  have hm:=H.rm
  have hw1:IntKind.i64.wrap (w+1)=w+1:=cR (by have:=H.lo;omega) (by omega)
  have he:=je k em
  rw[hfi] at he
  match v,H.nil,H.row with
  | none,h1,_=>
    obtain⟨rfl,rfl,h2⟩:=h1 rfl
    have hup:=(eV.zero ρ).wD (by omega) ⟨k,r,w+1⟩ hfi
    refine ai [.tmp 6] 60 Tryz.func271 (by rfl) rfl rfl rfl rfl ?_
    (have kX:=nO @h2 @hm @he @gO;have kM:Mu [34]:=⟨⟩;repeat' first|refine zw ?_|refine ry [34] c0 fun nu _ _=>?_|refine zc rfl (fun h=>?_) fun h=>?_|refine zi (fun h=>?_) fun h=>?_|exact .intro|fail);all_goals clear kX kM
    intro o ho
    have d:ei p m o:=⟨H.hm,(fun e=>by rw[←e,h2] at ho;cases ho),(fun e=>by rw[←e,hm] at ho;cases ho)⟩
    have hs1:∀x,(s.put o x) p=some (.arr 368 [.agg [.fn fi [],.sl .nil [],.map m,.int .i64 w]]):=fun x=>by rw[au d.ho];exact h2
    have hput:(s.put o (.arr 370 [.agg [.int .i64 0,.int .i64 0,.sl .nil [],.int .i64 0]])).put p (.arr 368 [.agg [.fn fi [],.ms o 4 0 1,.map m,.int .i64 w]])=bg s p m o (.fn fi []) 1 [av] [] w:=by
      funext q
      simp only[bg,aa.put]
      by_cases u1:q=o
      · subst u1;have hpq:¬q=p:=fun h=>d.ho h.symm;simp[hpq,bY,AG,av,z8,wj,z7]
      · by_cases u2:q=m
        · subst u2;simp[u1,H.hm,hm];exact fun h=>absurd h.symm H.hm
        · simp[u1,u2]
    simp -dsimp (disch:=omega) only[go_sem,hs1,hput]
    (have kX:=uS @d.rh @d.rm @d.ro @d.wh @hw1;repeat' first|refine zw ?_|refine ry (id:=8) [] (cw [7] [9] [] [] []) fun nu _ _=>?_|refine zy fun nu _ _=>?_|refine zc rfl (fun h=>?_) fun h=>?_|refine zi (fun h=>?_) fun h=>?_|exact .intro|refine uw (dz d _ 1 [av] (Nat.le_refl _) [] (w+1) 0 (by omega) ⟨k,r,w+1⟩ s) ?_|fail);all_goals clear kX
    refine aK (iP hr hf d (i:=0) rfl hup _ _) ?_
    rintro _ _ ⟨ls1,em1,i1,hd,hx1,rfl,rfl⟩
    repeat' first|refine zw ?_|refine zy fun nu _ _=>?_|refine zc rfl (fun h=>?_) fun h=>?_|refine zi (fun h=>?_) fun h=>?_|exact .intro|fail
    refine aK (fR hr hf d hx1 hd _ _) ?_
    rintro _ _ ⟨rfl,ls2,em2,hh,rfl⟩
    repeat' first|refine zw ?_|refine zy fun nu _ _=>?_|refine zc rfl (fun h=>?_) fun h=>?_|refine zi (fun h=>?_) fun h=>?_|exact .intro|fail
    exact⟨_,aa.Sub.refl _,_,_,H.next H.sub (bo H.sub ho) d hh (by have:=H.lo;omega) hw (mF H.srt H.top k r) (H.pH k r)⟩
  | some (o,n,ls),_,h1=>
    obtain⟨fo,d,h2,h3,hp⟩:=h1 _ _ _ rfl
    have hlen:=hp.len
    have hcnt:=hp.cnt
    have hup:=hp.wD (by omega) ⟨k,r,w+1⟩ hfi
    refine ai [.tmp 6] 60 Tryz.func271 (by rfl) rfl rfl rfl rfl ?_
    (have kX:=Cu @h2 @h3 @hm @he @gO @ov @qF @pA;have kM:Mu [34]:=⟨⟩;repeat' first|refine zw ?_|refine ry [34] c0 fun nu _ _=>?_|refine zc rfl (fun h=>?_) fun h=>?_|refine zi (fun h=>?_) fun h=>?_|exact .intro|fail);all_goals clear kX kM
    intro o' ho'
    have d':ei p m o':=⟨H.hm,(fun e=>by rw[←e,h2] at ho';cases ho'),(fun e=>by rw[←e,hm] at ho';cases ho')⟩
    have hso:σ o'=none:=bo H.sub ho'
    have hoo:o'≠o:=fun e=>by rw[e,h3] at ho';cases ho'
    have hsub:σ.Sub (s.drop o):=lf H.sub fo
    have hs1:∀x,((s.drop o).put o' x) p=some (.arr 368 [.agg [.fn fi [],.ms o 4 0 n,.map m,.int .i64 w]]):=fun x=>by rw[au d'.ho,eT d.ho];exact h2
    have hput:((s.drop o).put o' (.arr 370 (bY (ls.take n++[av])))).put p (.arr 368 [.agg [.fn fi [],.ms o' 4 0 (n+1),.map m,.int .i64 w]])=bg (s.drop o) p m o' (.fn fi []) (n+1) (ls.take n++[av]) em w:=by
      funext q
      simp only[bg,aa.put,aa.drop]
      by_cases u1:q=o'
      · subst u1;simp[d'.ho];exact fun h=>absurd h.symm d'.ho
      · by_cases u2:q=m
        · subst u2;simp[u1,H.hm,hm,d.mo];exact fun h=>absurd h.symm H.hm
        · simp[u1,u2]
    have hll:(ls.take n++[av]).length=n+1:=by rw[List.length_append,List.length_take];simp;omega
    simp -dsimp (disch:=omega) only[go_sem,hs1,hput]
    (have kX:=uS @d'.rh @d'.rm @d'.ro @d'.wh @hw1;repeat' first|refine zw ?_|refine ry (id:=8) [] (cw [7] [9] [] [] []) fun nu _ _=>?_|refine zy fun nu _ _=>?_|refine zc rfl (fun h=>?_) fun h=>?_|refine zi (fun h=>?_) fun h=>?_|exact .intro|refine uw (dz d' _ (n+1) (ls.take n++[av]) (by omega) em (w+1) n (by omega) ⟨k,r,w+1⟩ (s.drop o)) ?_|fail);all_goals clear kX
    refine aK (iP hr hf d' (by rw[hO (by omega),if_pos rfl]) hup _ _) ?_
    rintro _ _ ⟨ls1,em1,i1,hd,hx1,rfl,rfl⟩
    repeat' first|refine zw ?_|refine zy fun nu _ _=>?_|refine zc rfl (fun h=>?_) fun h=>?_|refine zi (fun h=>?_) fun h=>?_|exact .intro|fail
    refine aK (fR hr hf d' hx1 hd _ _) ?_
    rintro _ _ ⟨rfl,ls2,em2,hh,rfl⟩
    repeat' first|refine zw ?_|refine zy fun nu _ _=>?_|refine zc rfl (fun h=>?_) fun h=>?_|refine zi (fun h=>?_) fun h=>?_|exact .intro|fail
    exact⟨_,aa.Sub.refl _,_,_,H.next hsub hso d' hh (by have:=H.lo;omega) hw (mF H.srt H.top k r) (H.pH k r)⟩
theorem HS.ptr (H:HS σ ρ (.fn fi []) p m v c em w s):∃x,s p=some (.arr 368 [.agg [.fn fi [],x,.map m,.int .i64 w]]):=by
 match v,H.nil,H.row with
 |none,h1,_=>exact⟨_,(h1 rfl).2.2⟩
 |some (o,n,ls),_,h1=>exact⟨_,(h1 _ _ _ rfl).2.2.1⟩
theorem HS.vE (H:HS σ ρ (.fn fi []) p m v c em w s) {k:Int}:bP k em=none↔∀t,t∈c→t.k≠k:=by
  match v,H.nil,H.row with
  | none,h1,_=>
    obtain⟨rfl,rfl,_⟩:=h1 rfl
    exact⟨fun _=>nofun,fun _=>rfl⟩
  | some (o,n,ls),_,h1=>
    have hp:=(h1 _ _ _ rfl).2.2.2.2
    exact⟨hp.uQ,hp.no k⟩
theorem tB (hr:ey ρ lt) (hf:nN fi lt) (H:HS σ ρ (.fn fi []) p m v c em w s) (k:Int) {i:Nat} (hfi:bP k em=some i):
    af Tryz.prog 315 [.ptr p 0 0,.int .i64 k] s (fun a t=>∃v' em',a= .bool true∧HS σ ρ (.fn fi []) p m v' (aQ c k) em' w t):=by
  have hm:=H.rm
  have he:=je k em
  rw[hfi] at he
  have htop:∀t,t∈aQ c k→t.w≤w:=fun t ht=>H.top t (bn.1 ht).1
  match v,H.nil,H.row with
  |none,h1,_=>rw[(h1 rfl).2.1] at hfi;cases hfi
  | some (o,n,ls),_,h1=>
    obtain⟨fo,d,h2,h3,hp⟩:=h1 _ _ _ rfl
    have hlen:=hp.len
    have hbig:=hp.big
    obtain⟨hin,hk⟩:=hp.kZ hfi
    have hw1:IntKind.i64.wrap ((n:Int)-1)=((n-1:Nat):Int):=by rw[cR (by omega) (by omega)];omega
    have g0:=cp (show n-1<ls.length by omega)
    have q1:(((n-1:Nat):Int)<(n:Int))=True:=eq_true (by omega)
    have q2:(((n-1:Nat):Int)≤(n:Int))=True:=eq_true (by omega)
    have hst0:(bY ls).set (n-1) (.agg [.int .i64 0,.int .i64 0,.sl .nil [],.int .i64 0])=bY (ls.set (n-1) av):=mN ls (n-1) 0 A1 0
    have hid:=xo h2 hm h3
    refine ai [.tmp 4] 68 Tryz.func315 (by rfl) rfl rfl rfl rfl ?_
    (have kX:=Cu @h2 @h3 @hm @he @gO @hw1 @g0 @q1;repeat' first|refine zw ?_|refine zy fun nu _ _=>?_|refine zc rfl (fun h=>?_) fun h=>?_|refine zi (fun h=>?_) fun h=>?_|exact .intro|fail);all_goals clear kX
    intro o1 ho1
    have l:Loc o1 p m o:=⟨(fun e=>by rw[e,h2] at ho1;cases ho1),(fun e=>by rw[e,hm] at ho1;cases ho1),(fun e=>by rw[e,h3] at ho1;cases ho1)⟩
    have hso:σ o1=none:=bo H.sub ho1
    rw[←hid,l.wr]
    have hnn:ls.set (n-1) (⟨0,A1,0⟩:Th)=ls.set (n-1) av:=rfl
    have hsub:σ.Sub (s.put o1 (.arr 370 [.agg [.int .i64 (ls.getD (n-1) av).k,.int .i64 (ls.getD (n-1) av).r.c,.sl (ls.getD (n-1) av).r.kd (bI (ls.getD (n-1) av).r.l),.int .i64 (ls.getD (n-1) av).w]])):=aw H.sub hso _
    by_cases hil:i<n-1
    · have c0:decide ((i:Int)<((n-1:Nat):Int))=true:=xK (by omega)
      have hup:=hp.zD H.srt hfi hil
      have hll:n-1≤(ls.set (n-1) av).length:=by rw[List.length_set];omega
      have g2:((ls.set (n-1) av).set i (ls.getD (n-1) av)).getD i av=ls.getD (n-1) av:=by rw[hO (by rw[List.length_set];omega),if_pos rfl]
      (have kX:=Ci @d.rh @d.rm @d.ro @d.wh @d.wm @d.wo @l.rd @l.wr @g0 @q1 @q2 @hst0 @hnn @nL @gO @c0 @Nat.sub_zero @dY.eq_1;repeat' first|refine zw ?_|refine zy fun nu _ _=>?_|refine zc rfl (fun h=>?_) fun h=>?_|refine zi (fun h=>?_) fun h=>?_|exact .intro|refine uw (dz d _ (n-1) (ls.set (n-1) av) hll (fJ k em) w i hil (ls.getD (n-1) av) _) ?_|fail);all_goals clear kX
      refine aK (iP hr hf d g2 hup _ _) ?_
      rintro _ _ ⟨ls1,em1,i1,hd,hx1,rfl,rfl⟩
      repeat' first|refine zw ?_|refine zy fun nu _ _=>?_|refine zc rfl (fun h=>?_) fun h=>?_|refine zi (fun h=>?_) fun h=>?_|exact .intro|fail
      refine aK (fR hr hf d hx1 hd _ _) ?_
      rintro _ _ ⟨rfl,ls2,em2,hh,rfl⟩
      repeat' first|refine zw ?_|refine zy fun nu _ _=>?_|refine zc rfl (fun h=>?_) fun h=>?_|refine zi (fun h=>?_) fun h=>?_|exact .intro|fail
      exact⟨_,aa.Sub.refl _,_,_,H.next hsub fo d hh H.lo H.hi (hY H.srt k) htop⟩
    · have c0:decide ((i:Int)<((n-1:Nat):Int))=false:=xL (by omega)
      have hi1:i=n-1:=by omega
      rw[hi1] at hfi
      have hh:=hp.dropLast H.srt hfi
      (have kX:=Ci @d.rh @d.rm @d.ro @d.wh @d.wm @d.wo @l.rd @l.wr @g0 @q1 @q2 @hst0 @hnn @nL @gO @c0 @Nat.sub_zero @dY.eq_1;repeat' first|refine zw ?_|refine zy fun nu _ _=>?_|refine zc rfl (fun h=>?_) fun h=>?_|refine zi (fun h=>?_) fun h=>?_|exact .intro|fail);all_goals clear kX
      exact⟨_,aa.Sub.refl _,_,_,H.next hsub fo d hh H.lo H.hi (hY H.srt k) htop⟩
theorem yR (H:HS σ ρ (.fn fi []) p m v [] em w s):af Tryz.prog 272 [.ptr p 0 0] s (fun r t=>r= .bK [.int .i64 0,.agg [.int .i64 0,.sl .nil []],.bool false]∧t=s):=by
 refine ah [.tmp 2,.cell 3 281,.tmp 4] 21 Tryz.func272 (by rfl) rfl rfl rfl rfl ?_
 repeat' first|refine zw ?_|refine zy fun nu _ _=>?_|refine zc rfl (fun h=>?_) fun h=>?_|refine zi (fun h=>?_) fun h=>?_|exact .intro|fail
 intro o ho
 have hF:=vD (H.box ho (.arr 281 [.agg [.int .i64 0,.sl .nil []]]))
 replace ho:=eU.mk ho
 repeat' first|refine zh ?_|(refine al ?_;intro b hb)|refine ry (id:=4) [] (cw [] [4] [] [] []) fun nu _ _=>?_|refine zy fun nu _ _=>?_|refine zc rfl (fun h=>?_) fun h=>?_|refine zi (fun h=>?_) fun h=>?_|exact .intro|refine uw (hF) ?_|fail
 (first|exact an ho.h|exact⟨rfl,an ho.h⟩|exact aa.Sub.refl _)
theorem wQ (hr:ey ρ lt) (hf:nN fi lt) (H:HS σ ρ (.fn fi []) p m v c em w s) (hc:c≠[]):∃t,t∈c∧(∀u,u∈c→¬lex ρ u t)∧
  af Tryz.prog 272 [.ptr p 0 0] s (fun r t'=>∃v' em',r= .bK [.int .i64 t.k,.agg [.int .i64 t.r.c,.sl t.r.kd (bI t.r.l)],.bool true]∧HS σ ρ (.fn fi []) p m v' (aQ c t.k) em' w t'):=by
 obtain⟨t,ht,hl,hF0⟩:=tG H hc
 refine⟨t,ht,hl,?_⟩
 have hfi:bP t.k em≠none:=fun e=>(H.vE.1 e) t ht rfl
 obtain⟨i,hi⟩:=Option.ne_none_iff_exists'.1 hfi
 refine ai [.tmp 2,.cell 3 281,.tmp 4] 21 Tryz.func272 (by rfl) rfl rfl rfl rfl ?_
 repeat' first|refine zw ?_|refine zy fun nu _ _=>?_|refine zc rfl (fun h=>?_) fun h=>?_|refine zi (fun h=>?_) fun h=>?_|exact .intro|fail
 intro o ho
 have hF:=hF0 _ _ (H.box ho (.arr 281 [.agg [.int .i64 0,.sl .nil []]]))
 have hso:σ o=none:=bo H.sub ho
 replace ho:=eU.mk ho
 (have kS:Sa 3:=⟨⟩;repeat' ((fail_if_success refine ss kS ?_);first|refine zh ?_|(refine al ?_;intro b hb)|refine zy fun nu _ _=>?_|refine zc rfl (fun h=>?_) fun h=>?_|refine zi (fun h=>?_) fun h=>?_|exact .intro|refine uw (hF) ?_|fail));all_goals clear kS
 repeat' first|refine zh ?_|(refine al ?_;intro b hb)|refine zy fun nu _ _=>?_|refine zc rfl (fun h=>?_) fun h=>?_|refine zi (fun h=>?_) fun h=>?_|exact .intro|fail
 refine aK (tB hr hf (H.box ho.h _) t.k hi) ?_
 rintro _ s' ⟨v',em',rfl,H'⟩
 have hs':s' o=some _:=H'.sub o _ (ao _ _ _)
 (have kX:=@hs';repeat' first|refine zh ?_|(refine al ?_;intro b hb)|refine ry (id:=4) [] (cw [] [4] [] [] []) fun nu _ _=>?_|refine zy fun nu _ _=>?_|refine zc rfl (fun h=>?_) fun h=>?_|refine zi (fun h=>?_) fun h=>?_|exact .intro|fail);all_goals clear kX
 exact⟨_,aa.Sub.refl _,_,_,H'.unbox hso _⟩
end
end Go.Proofs.YtgfjihpbphplhaaGreat

namespace Go.Proofs.YtgfjihpbphplhaaGreat
open Go.Kern Go.RowKit
set_option maxRecDepth 100000
set_option maxHeartbeats 4000000
attribute [local irreducible] af W
theorem xT (k:SK) (l:List Nat) (hl:l.length<1000000) (hk:k≠ .nil) (h0:l≠[]) (σ:aa):af Tryz.prog 60 [.sl k (bI l)] σ (fun r t=>∃q,σ q=none∧r= .sl (.tip q) (bI l)∧t=σ.put q (.tip l.length 3 1)):=by
 have hn:=og hk
 have hrow:=lN l
 have hln:=dO l
 have hne:(bI l=[])=False:=eq_false (by rw[w5];exact h0)
 refine ai [.tmp 2] 8 Tryz.func60 (by rfl) rfl rfl rfl rfl ?_
 (have kX:=nO @hn @hne @hrow @hln;repeat' first|refine zw ?_|refine zy fun nu _ _=>?_|refine zc rfl (fun h=>?_) fun h=>?_|refine zi (fun h=>?_) fun h=>?_|exact .intro|fail);all_goals clear kX
 intro o ho
 repeat' first|refine zw ?_|refine zy fun nu _ _=>?_|refine zc rfl (fun h=>?_) fun h=>?_|refine zi (fun h=>?_) fun h=>?_|exact .intro|fail
 exact⟨_,aa.Sub.refl _,o,ho,rfl,rfl⟩
theorem pI {σ:aa} {ρ:Rk→Wk} {lt:Rk→Rk→Bool} {fi:Nat} {p m:Nat} {v:Option (Nat×Nat×List Th)} {c:List Th} {em:EM} {w:Int} {s:aa} (hr:ey ρ lt) (hf:nN fi lt) (H:HS σ ρ (.fn fi []) p m v c em w s) (hw:w+1<1000000) (hc:c.length+1<1000000) (k:Int) (r:Rk):
  af Tryz.prog 271 [.ptr p 0 0,.int .i64 k,.agg [.int .i64 r.c,.sl r.kd (bI r.l)]] s (fun a t=>∃b v' em',a= .bool b∧HS σ ρ (.fn fi []) p m v' (aQ c k++[⟨k,r,w+1⟩]) em' (w+1) t):=by
 cases h:bP k em with
 |none=>exact(yM hr hf H hw hc k r h).mono fun a t ⟨v',em',h1,h2⟩=>⟨_,v',em',h1,h2⟩
 |some i=>exact(yL hr hf H hw k r h).mono fun a t ⟨v',em',h1,h2⟩=>⟨_,v',em',h1,h2⟩
theorem HS.B7 {σ:aa} {ρ:Rk→Wk} {f:AV} {p m:Nat} {v:Option (Nat×Nat×List Th)} {c:List Th} {em:EM} {w:Int} {s:aa} (H:HS σ ρ f p m v c em w s) {n:Nat} (h:∀t,t∈c→∃u:Nat,t.k=u∧1≤u∧u≤n):c.length≤n:=by
 have h1:(c.map (·.k)).Nodup:=List.pairwise_map.2 (H.srt.imp fun h=>h.2)
 have:=mf h1 (n:=n) (fun x hx=>by
  obtain⟨t,ht,rfl⟩:=List.mem_map.1 hx
  exact h t ht)
 simpa using this
end Go.Proofs.YtgfjihpbphplhaaGreat

namespace Go.Proofs.YtgfjihpbphplhaaGreat
open Go.Kern Go.RowKit
set_option maxRecDepth 100000
set_option maxHeartbeats 4000000
attribute [local irreducible] af W
theorem sF {s t u:aa} (h1:s.Sub t) (h2:t.Sub u):s.Sub u:=fun p y h=>h2 _ _ (h1 _ _ h)
def DN (n:Nat) (D:RM):Prop:=(D.map (·.1)).Nodup∧∀p,p∈D→(∃u:Nat,p.1=u∧1≤u∧u≤n)∧p.2.kd≠ .nil∧p.2.l≠[]
theorem DN.B7 {n:Nat} {D:RM} (h:DN n D):D.length≤n:=by
 have:=mf h.1 (n:=n) (fun x hx=>by
  obtain⟨p,hp,rfl⟩:=List.mem_map.1 hx
  exact(h.2 p hp).1)
 simpa using this
def CN (n:Nat) (c:List Th):Prop:=∀t,t∈c→(∃u:Nat,t.k=u∧1≤u∧u≤n)∧t.r.kd≠ .nil∧t.r.l≠[]
structure Db where
 D:RM
 c:List Th
 em:EM
 w:Int
 v:Option (Nat×Nat×List Th)
 s:aa
structure Da where
 j:Nat
 c:List Th
 em:EM
 w:Int
 v:Option (Nat×Nat×List Th)
 s:aa
structure I1 (ww:Nat→Nat→Option Nat) (n a:Nat) (σ:aa) (oo p m:Nat) (q:Db):Prop where
 hs:HS (σ.put oo (.map (jI q.D))) pM (.fn 270 []) p m q.v q.c q.em q.w q.s
 dj:zY ww a (rX q.D) (qA q.c)
 dn:DN n q.D
 cn:CN n q.c
 wl:q.w≤1+q.D.length*n
structure I2 (ww:Nat→Nat→Option Nat) (n a:Nat) (σ:aa) (oo p m:Nat) (D:RM) (x:Nat) (os:List Int) (q:Da):Prop where
 hs:HS (σ.put oo (.map (jI D))) pM (.fn 270 []) p m q.v q.c q.em q.w q.s
 dj:uT ww a x (fun y=>∃i,i<q.j∧os.getD i 0=(y:Int)) (rX D) (qA q.c)
 cn:CN n q.c
 wl:q.w+n≤1+D.length*n+q.j
 jl:q.j≤os.length
section
variable {ww:Nat→Nat→Option Nat} {n a:Nat} {σ:aa} {g m0:Nat} {L:List bq}
theorem sC (G:GR g m0 L σ) (GWh:GW ww n L) (hn:n<100) (hL:∀x,x∈L→x.es.length≤n) (ha:1≤a∧a≤n) (hnd:∀x,x∈L→(x.es.map (·.1)).Nodup):af Tryz.prog 202 [.ptr g 0 0,.int .i64 a] σ (fun r t=>∃oo D,r= .map oo∧σ oo=none∧σ.Sub t∧t oo=some (.map (jI D))∧DN n D∧∀b,rX D b=aV ww a b):=by
  have h1:=G.rg
  have h2:=G.rm
  have hk:=iZ L
  have hf:=fe (a:Int) L
  obtain⟨xa,hxa⟩:=Option.isSome_iff_exists.1 (GWh.all a ha.1 ha.2)
  rw[hxa] at hf
  simp only[Option.map_some] at hf
  refine ai [.tmp 4] 100 Tryz.func202 (by rfl) rfl rfl rfl rfl ?_
  (have kS:Sa 2:=⟨⟩;repeat' ((fail_if_success refine ss kS ?_);first|refine zw ?_|refine zy fun nu _ _=>?_|refine zc rfl (fun h=>?_) fun h=>?_|refine zi (fun h=>?_) fun h=>?_|exact .intro|fail));all_goals clear kS
  intro oo hoo
  have r1:=aD h1 hoo
  have r2:=aD h2 hoo
  (have kX:=nO @r1 @r2 @hk @hf;repeat' first|refine zw ?_|refine zy fun nu _ _=>?_|refine zc rfl (fun h=>?_) fun h=>?_|refine zi (fun h=>?_) fun h=>?_|exact .intro|fail);all_goals clear kX
  refine aK (w6 pM _ _) ?_
  rintro _ t1 ⟨p,m,rfl,H1⟩
  simp -dsimp (disch:=omega) only[go_sem]
  repeat' first|refine zw ?_|refine zy fun nu _ _=>?_|refine zc rfl (fun h=>?_) fun h=>?_|refine zi (fun h=>?_) fun h=>?_|exact .intro|fail
  refine aK (pI fI eM H1 (by omega) (by simp) (a:Int) ⟨0,.full,[a],by simp⟩) ?_
  rintro _ t2 ⟨b,v2,em2,rfl,H2⟩
  have hw1:aQ ([]:List Th) (a:Int)++[(⟨(a:Int),⟨0,.full,[a],by simp⟩,0+1⟩:Th)]=[⟨(a:Int),⟨0,.full,[a],by simp⟩,1⟩]:=rfl
  rw[hw1] at H2
  simp -dsimp (disch:=omega) only[go_sem]
  repeat' first|refine zw ?_|refine zy fun nu _ _=>?_|refine zc rfl (fun h=>?_) fun h=>?_|refine zi (fun h=>?_) fun h=>?_|exact .intro|fail
  refine ak (fun q:Db=>[(0,.ptr g 0 0),(5,.map oo),(6,.ptr p 0 0)]) (fun q=>q.s) (I1 ww n a σ oo p m) (fun q=>n-q.D.length) ⟨[],_,em2,_,v2,t2⟩ ⟨H2,?_,⟨.nil,nofun⟩,?_,by simp⟩ (Env.ab (by simp[Env.Has,Env.get])) (aa.Sub.refl _) ?_
  · have e1:rX []=fun _=>none:=rfl
    have e2:qA [(⟨(a:Int),⟨0,.full,[a],by simp⟩,1⟩:Th)]=jB (fun _=>none) a (some (0,[a])):=by
      have:=uF [] a ⟨0,.full,[a],by simp⟩ 1
      exact this
    rw[e1,e2]
    exact zY.start
  · intro t ht
    rw[List.mem_singleton.1 ht]
    exact⟨⟨a,rfl,ha⟩,by simp,by simp⟩
  rintro⟨D,c,em,w,v,s⟩ ⟨H,dj,dn,cn,wl⟩
  simp only at H dj dn cn wl
  have hs0:σ.Sub (σ.put oo (.map (jI D))):=an hoo
  by_cases hc:c=[]
  · subst hc
    repeat' first|refine zw ?_|refine zy fun nu _ _=>?_|refine zc rfl (fun h=>?_) fun h=>?_|refine zi (fun h=>?_) fun h=>?_|exact .intro|fail
    refine aK (yR H) ?_
    rintro _ _ ⟨rfl,rfl⟩
    simp -dsimp (disch:=omega) only[go_sem]
    repeat' first|refine zh ?_|(refine al ?_;intro b hb)|refine zy fun nu _ _=>?_|refine zc rfl (fun h=>?_) fun h=>?_|refine zi (fun h=>?_) fun h=>?_|exact .intro|fail
    obtain⟨q1,q2⟩:=dj.all (fun _=>rfl)
    exact⟨_,aa.Sub.refl _,oo,D,rfl,hoo,sF hs0 H.sub,H.sub _ _ (ao _ _ _),dn,fun b=>x8 q1 q2 b⟩
  · refine gS ?_
    refine s1 ?_
    obtain⟨t,ht,hmin,hpop⟩:=wQ fI eM H hc
    obtain⟨k,r,tw⟩:=t
    obtain⟨⟨u,hu,hu1⟩,hkd,hl0⟩:=cn _ ht
    simp only at hu hkd hl0 hpop
    subst hu
    have hhu:qA c u=some (pM r):=by
      unfold qA
      rw[xp H.srt ht];rfl
    have hmin':∀y q,qA c y=some q→¬cF q (pM r):=fun y q hq hw=>by
      unfold qA at hq
      cases hf':fV c (y:Int) with
      |none=>rw[hf'] at hq;cases hq
      | some t'=>
        rw[hf'] at hq
        injection hq with hq
        exact hmin t' (ni hf').1 (.inl (by simp only at hq;rw[hq];exact hw))
    obtain⟨hbest,dx⟩:=dj.pop hhu hmin'
    have hDu:dA (u:Int) D=none:=by
      have:=(dj.wait u _ hhu).2
      unfold rX at this
      simpa using this
    have e1:=xM (r:=r) hDu
    have e2:=zj c u
    rw[←e1,←e2] at dx
    obtain⟨D1,hD1⟩:∃D1,D1=D++[((u:Int),r)]:=⟨_,rfl⟩
    rw[←hD1] at dx
    have hset:=pe (u:Int) r D hDu
    rw[←hD1] at hset
    have dn1:DN n D1:=by
      rw[hD1]
      refine⟨?_,fun q hq=>?_⟩
      · rw[List.map_append,List.nodup_append]
        refine⟨dn.1,by simp,fun x hx y hy e=>?_⟩
        simp at hy
        exact nx.1 hDu (by rw[←hy,←e];exact hx)
      · rcases List.mem_append.1 hq with hq|hq
        · exact dn.2 q hq
        · rw[List.mem_singleton.1 hq];exact⟨⟨u,rfl,hu1⟩,hkd,hl0⟩
    have hD1l:D1.length=D.length+1:=by rw[hD1];simp
    have hDn:=dn1.B7
    repeat' first|refine zw ?_|refine zy fun nu _ _=>?_|refine zc rfl (fun h=>?_) fun h=>?_|refine zi (fun h=>?_) fun h=>?_|exact .intro|fail
    refine aK hpop ?_
    rintro _ t3 ⟨v',em',rfl,H3⟩
    have r3:t3 oo=some (.map (jI D)):=H3.sub _ _ (ao _ _ _)
    have hko:=lD D
    have H4:=H3.wr (ao _ _ _) (.map (jI D1))
    rw[iT] at H4
    have g4:GR g m0 L (t3.put oo (.map (jI D1))):=G.sub (sF (an hoo) H4.sub)
    obtain⟨xn,hxn⟩:=Option.isSome_iff_exists.1 (GWh.all u hu1.1 hu1.2)
    have hout:=wW g4 (u:Int) hxn (by have:=hL xn (cI hxn).1;omega) (fun q hq=>by
      obtain⟨b,e,h,h'⟩:=GWh.to xn (cI hxn).1 q hq
      omega)
    simp -dsimp (disch:=omega) only[go_sem]
    (have kX:=g8 @r3 @hko @hset;have kS:Sa 11:=⟨⟩;repeat' ((fail_if_success refine ss kS ?_);first|refine zh ?_|(refine al ?_;intro b hb)|refine zy fun nu _ _=>?_|refine zc rfl (fun h=>?_) fun h=>?_|refine zi (fun h=>?_) fun h=>?_|exact .intro|refine uw (hout) ?_|fail));all_goals clear kX kS
    obtain⟨os,hos⟩:∃os,os=ri L (u:Int):=⟨_,rfl⟩
    have hmem:∀z,z∈os↔z∈xn.es.map (·.1):=fun z=>by
      have e1:ri L (u:Int)=eE (xn.es.map (·.1)):=by rw[ri,hxn]
      rw[hos,e1]
      exact(jD _).mem_iff
    have hosl:os.length≤n:=by
      have e1:ri L (u:Int)=eE (xn.es.map (·.1)):=by rw[ri,hxn]
      rw[hos,e1,(jD _).length_eq,List.length_map]
      exact hL xn (cI hxn).1
    rw[←hos]
    have hedge:∀b:Nat,fW (b:Int) xn.es=(ww u b).map fun c=>(c:Int):=fun b=>by
      have:=GWh.edge u b
      unfold da at this
      rw[hxn] at this
      exact this
    have hDw:D1.length*n=D.length*n+n:=by rw[hD1l,Nat.add_mul];omega
    refine ak (fun q:Da=>[(0,.ptr g 0 0),(5,.map oo),(6,.ptr p 0 0),(7,.int .i64 u),(8,.ip (.agg [.int .i64 r.c,.sl r.kd (bI r.l)]) 0),(51,.sl (yU L (u:Int)) (ints os)),(52,.int .i64 os.length),(53,.int .i64 q.j)]) (fun q=>q.s) (I2 ww n a σ oo p m D1 u os) (fun q=>os.length-q.j) ⟨0,_,em',w,v',_⟩ ⟨H4,?_,fun q hq=>cn q ((List.mem_filter.1 hq).1),by simp only;omega,Nat.zero_le _⟩ (Env.ab (by simp[Env.Has,Env.get,dP])) (aa.Sub.refl _) ?_
    · have:(fun y:Nat=>∃i,i<0∧os.getD i 0=(y:Int))=fun _=>False:=by funext y;simp
      rw[this]
      exact dx
    rintro⟨j,c2,em2,w2,v2,q2⟩ ⟨K,kx,kc,kw,kl⟩
    simp only at K kx kc kw kl
    by_cases hj:j<os.length
    · obtain⟨nb,hnb,hnb1⟩:∃b:Nat,os.getD j 0=(b:Int)∧1≤b∧b≤n:=by
        have h2:os.getD j 0∈os:=by rw[List.getD_eq_getElem?_getD,List.getElem?_eq_getElem hj];exact List.getElem_mem hj
        obtain⟨q,hq,e⟩:=List.mem_map.1 ((hmem _).1 h2)
        obtain⟨b,h3,h4⟩:=GWh.to xn (cI hxn).1 q hq
        exact⟨b,by rw[←e,h3],h4⟩
      have hbk:(nb:Int)∈xn.es.map (·.1):=(hmem _).1 (by rw[←hnb,List.getD_eq_getElem?_getD,List.getElem?_eq_getElem hj];exact List.getElem_mem hj)
      obtain⟨cz,hcz⟩:=kJ hbk
      obtain⟨cc,hWb,hcc⟩:∃cc,ww u nb=some cc∧cz=(cc:Int):=by
        have:=hedge nb
        rw[hcz] at this
        cases hw':ww u nb with
        |none=>rw[hw'] at this;cases this
        |some cc=>rw[hw'] at this;injection this with this;exact⟨cc,rfl,this⟩
      subst hcc
      have hkD:=lD D1
      have hfD:=lH (nb:Int) D1
      have ro:q2 oo=some (.map (jI D1)):=K.sub _ _ (ao _ _ _)
      have hSj:(fun y:Nat=>∃i,i<j+1∧os.getD i 0=(y:Int))=fun y:Nat=>(∃i,i<j∧os.getD i 0=(y:Int))∨y=nb:=by
        funext y
        refine propext ⟨?_,?_⟩
        · rintro⟨i,hi,e⟩
          by_cases hij:i=j
          · subst hij;rw[hnb] at e;exact .inr (by omega)
          · exact .inl ⟨i,by omega,e⟩
        · rintro(⟨i,hi,e⟩|rfl)
          · exact⟨i,by omega,e⟩
          · exact⟨j,by omega,hnb⟩
      have hgi:=gy hj
      rw[hnb] at hgi
      cases hfr:dA (nb:Int) D1 with
      | some r'=>
        rw[hfr] at hfD
        simp only[Option.map_some] at hfD
        (have kX:=uS @ro @hkD @hfD @hgi @hnb;repeat' first|refine zh ?_|(refine al ?_;intro b hb)|refine zy fun nu _ _=>?_|refine zc rfl (fun h=>?_) fun h=>?_|refine zi (fun h=>?_) fun h=>?_|exact .intro|fail);all_goals clear kX
        have hsk:=kx.skip (b:=nb) (by unfold rX;rw[hfr];rfl)
        rw[←hSj] at hsk
        exact⟨⟨j+1,c2,em2,w2,v2,q2⟩,by simp only;omega,⟨K,hsk,kc,by simp only;omega,by simp only;omega⟩,Env.ab (by simp[Env.Has,Env.get]),aa.Sub.refl _⟩
      | none=>
        rw[hfr] at hfD
        simp only[Option.map_none] at hfD
        (have kX:=uS @ro @hkD @hfD @hgi @hnb;have kS:Sa 15:=⟨⟩;repeat' ((fail_if_success refine ss kS ?_);first|refine zh ?_|(refine al ?_;intro b hb)|refine zy fun nu _ _=>?_|refine zc rfl (fun h=>?_) fun h=>?_|refine zi (fun h=>?_) fun h=>?_|exact .intro|fail));all_goals clear kX kS
        have g5:GR g m0 L q2:=G.sub (sF (an hoo) K.sub)
        have r5:=g5.rg
        have r6:=g5.rm
        have r7:=g5.ob xn (cI hxn).1
        have hfu:=fe (u:Int) L
        rw[hxn] at hfu
        simp only[Option.map_some] at hfu
        have hk2:=rJ xn.es
        have hf2:=rQ (nb:Int) xn.es
        rw[hcz] at hf2
        simp only[Option.map_some] at hf2
        have hrc:r.c≤65536*n:=hbest.kQ GWh.le (fun u b c h=>(GWh.in_ u b c h).2) ha
        have hccl:cc≤65536:=GWh.le _ _ _ hWb
        refine s1 ?_
        refine rp (P:=Tryz.prog) (id:=15) [] ⟨[5,7,9],[18],[13],[(16,13),(19,18)]⟩ (fun nv hn1 hn2=>?_)
        simp -dsimp (disch:=omega) only[go_sem,r5,r6,r7,hk,hfu,hk2,hf2]
        (have kX:=qC @r5 @r6 @r7 @hk @hfu @hk2 @hf2;repeat' first|refine zw ?_|refine zy fun nu _ _=>?_|refine zc rfl (fun h=>?_) fun h=>?_|refine zi (fun h=>?_) fun h=>?_|exact .intro|fail);all_goals clear kX
        refine⟨bI r.l,r.l.length,3,1,?_,?_⟩
        · unfold qz
          intro s'
          simp -dsimp (disch:=omega) only[go_sem]
          refine aK (xT r.kd r.l r.hl hkd hl0 s') ?_
          exact fun _ _ h=>h
        (have kX:=qC @r5 @r6 @r7 @hk @hfu @hk2 @hf2;repeat' first|refine zw ?_|refine zy fun nu _ _=>?_|refine zc rfl (fun h=>?_) fun h=>?_|refine zi (fun h=>?_) fun h=>?_|exact .intro|fail);all_goals clear kX
        have hrl:=r.hl
        refine⟨.tip r.l.length 3 1,.sl (.tip (nv 13)) (bI (r.l++[nb])),.tip (r.l.length+1) 3 1,rfl,fun s' hs'=>⟨by omega,by omega,hs',by rw[oK],by rw[oK,dO,List.length_append];rfl⟩,?_⟩
        (have kX:=qC @r5 @r6 @r7 @hk @hfu @hk2 @hf2;repeat' first|refine zw ?_|refine zy fun nu _ _=>?_|refine zc rfl (fun h=>?_) fun h=>?_|refine zi (fun h=>?_) fun h=>?_|exact .intro|fail);all_goals clear kX
        have hln:r.l.length≤n:=hbest.qb (fun u b c h=>(GWh.in_ u b c h).2) ha
        obtain⟨rn,hrn⟩:∃rn:Rk,rn=⟨r.c+cc,.tip (nv 13),r.l++[nb],by simp;omega⟩:=⟨_,rfl⟩
        have hrw:pM rn=aJ (pM r) cc nb:=by rw[hrn];rfl
        have hcast:((r.c:Int)+(cc:Int))=(rn.c:Int):=by rw[hrn];simp
        have hnl:bI (r.l++[nb])=bI rn.l:=by rw[hrn]
        have hnk:SK.tip (nv 13)=rn.kd:=by rw[hrn]
        refine⟨_,.bK [],.arr 281 [.agg [.int .i64 rn.c,.sl rn.kd (bI rn.l)]],rfl,fun s' hs'=>by rw[hs',←hcast,←hnl,←hnk];simp,?_⟩
        have hn13:q2 (nv 13)=none:=hn1 13
        have hne:nv 18≠nv 13:=fun e=>by have:=hn2 _ _ e;omega
        have hn18:(q2.put (nv 13) (.tip (r.l.length+1) 3 1)) (nv 18)=none:=by rw[au hne];exact hn1 18
        (have kX:=@iT;have kS:Sa 16:=⟨⟩;repeat' ((fail_if_success refine ss kS ?_);first|refine zh ?_|(refine al ?_;intro b hb)|refine zy fun nu _ _=>?_|refine zc rfl (fun h=>?_) fun h=>?_|refine zi (fun h=>?_) fun h=>?_|exact .intro|fail));all_goals clear kX kS
        have K3:=K.nw hn13 (.tip (r.l.length+1) 3 1)
        have hxD:rX D1 u=some (pM r):=by rw[hD1,e1,ca]
        have hnD:rX D1 nb=none:=by unfold rX;rw[hfr];rfl
        have hcl:c2.length≤n:=K.B7 fun t ht=>(kc t ht).1
        have hDle:D.length*n≤100*n:=Nat.mul_le_mul_right _ (by omega)
        have hset2:=uF c2 nb rn (w2+1)
        rw[hrw] at hset2
        have hcnew:CN n (aQ c2 (nb:Int)++[(⟨(nb:Int),rn,w2+1⟩:Th)]):=fun t ht=>by
          rcases List.mem_append.1 ht with ht|ht
          · exact kc t (List.mem_filter.1 ht).1
          · rw[List.mem_singleton.1 ht]
            exact⟨⟨nb,rfl,hnb1⟩,by rw[hrn];simp,by rw[hrn];simp⟩
        have last:(∀old,qA c2 nb=some old→cF (aJ (pM r) cc nb) old)→uT ww a u (fun y:Nat=>∃i,i<j+1∧os.getD i 0=(y:Int)) (rX D1) (qA (aQ c2 (nb:Int)++[(⟨(nb:Int),rn,w2+1⟩:Th)])):=fun hbt=>by
          rw[hSj,hset2]
          exact kx.set hxD hWb hnD hbt
        cases hfc:fV c2 (nb:Int) with
        | none=>
          (have kS:Sa 18:=⟨⟩;repeat' ((fail_if_success refine ss kS ?_);first|refine zh ?_|(refine al ?_;intro b hb)|refine zy fun nu _ _=>?_|refine zc rfl (fun h=>?_) fun h=>?_|refine zi (fun h=>?_) fun h=>?_|exact .intro|refine uw (vk K3 (nb:Int) (tC.1 hfc)) ?_|fail));all_goals clear kS
          repeat' first|refine zw ?_|refine zy fun nu _ _=>?_|refine zc rfl (fun h=>?_) fun h=>?_|refine zi (fun h=>?_) fun h=>?_|exact .intro|fail
          refine aK (pI fI eM K3 (by omega) (by omega) (nb:Int) rn) ?_
          rintro _ q4 ⟨b4,v4,em4,rfl,K4⟩
          simp -dsimp (disch:=omega) only[go_sem]
          repeat' first|refine zw ?_|refine zy fun nu _ _=>?_|refine zc rfl (fun h=>?_) fun h=>?_|refine zi (fun h=>?_) fun h=>?_|exact .intro|fail
          exact⟨⟨j+1,_,em4,w2+1,v4,q4⟩,by simp only;omega,⟨K4,last (fun old ho=>by unfold qA at ho;rw[hfc] at ho;cases ho),hcnew,by simp only;omega,by simp only;omega⟩,Env.ab (by simp[Env.Has,Env.get]),aa.Sub.refl _⟩
        | some th=>
          obtain⟨tk,tr,ttw⟩:=th
          obtain⟨hthm,hthk⟩:=ni hfc
          simp only at hthk
          subst hthk
          have hold:qA c2 nb=some (pM tr):=by unfold qA;rw[hfc];rfl
          have hbr:=fI rn tr
          rw[hrw] at hbr
          (have kS:Sa 18:=⟨⟩;repeat' ((fail_if_success refine ss kS ?_);first|refine zh ?_|(refine al ?_;intro b hb)|refine zy fun nu _ _=>?_|refine zc rfl (fun h=>?_) fun h=>?_|refine zi (fun h=>?_) fun h=>?_|exact .intro|refine uw (vj K3 _ hthm) ?_|refine us (eM rn tr) ?_|fail));all_goals clear kS
          · skip
            repeat' first|refine zw ?_|refine zy fun nu _ _=>?_|refine zc rfl (fun h=>?_) fun h=>?_|refine zi (fun h=>?_) fun h=>?_|exact .intro|fail
            refine aK (pI fI eM K3 (by omega) (by omega) (nb:Int) rn) ?_
            rintro _ q4 ⟨b4,v4,em4,rfl,K4⟩
            simp -dsimp (disch:=omega) only[go_sem]
            repeat' first|refine zw ?_|refine zy fun nu _ _=>?_|refine zc rfl (fun h=>?_) fun h=>?_|refine zi (fun h=>?_) fun h=>?_|exact .intro|fail
            exact⟨⟨j+1,_,em4,w2+1,v4,q4⟩,by simp only;omega,⟨K4,last (fun old ho=>by rw[hold] at ho;injection ho with ho;rw[←ho];exact hbr.1 h),hcnew,by simp only;omega,by simp only;omega⟩,Env.ab (by simp[Env.Has,Env.get]),aa.Sub.refl _⟩
          · have bg:=kx.stay hxD hWb hold (fun hw=>by have:=hbr.2 hw;rw[h] at this;cases this)
            rw[←hSj] at bg
            exact⟨⟨j+1,c2,em2,w2,v2,_⟩,by simp only;omega,⟨K3,bg,kc,by simp only;omega,by simp only;omega⟩,Env.ab (by simp[Env.Has,Env.get]),aa.Sub.refl _⟩
    · have hje:j=os.length:=by omega
      repeat' first|refine zw ?_|refine zy fun nu _ _=>?_|refine zc rfl (fun h=>?_) fun h=>?_|refine zi (fun h=>?_) fun h=>?_|exact .intro|fail
      refine⟨⟨D1,c2,em2,w2,v2,q2⟩,by simp only;omega,⟨K,kx.close fun b cc hb=>?_,dn1,kc,by simp only;omega⟩,Env.ab (by simp[Env.Has,Env.get]),aa.Sub.refl _⟩
      have h1:=hedge b
      rw[hb] at h1
      have h2:(b:Int)∈os:=(hmem _).2 (List.mem_map.2 ⟨_,o4 h1,rfl⟩)
      obtain⟨i,hi,e⟩:=List.getElem_of_mem h2
      exact⟨i,by omega,by rw[List.getD_eq_getElem?_getD,List.getElem?_eq_getElem hi];exact e⟩
end
end Go.Proofs.YtgfjihpbphplhaaGreat

namespace Go.Proofs.YtgfjihpbphplhaaGreat
open Go.Kern Go.RowKit
set_option maxRecDepth 100000
set_option maxHeartbeats 4000000
attribute [local irreducible] af W
def wi:Option Wk→AV
 |none=> .sl .nil []
 |some x=> .sl .bf (bI x.2)
def wC:Option Wk→Int
 |none=>0
 |some x=>x.1
section
variable {ww:Nat→Nat→Option Nat} {n a:Nat} {σ:aa} {g m0:Nat} {L:List bq}
theorem uV (G:GR g m0 L σ) (GWh:GW ww n L) (hn:n<100) (hL:∀x,x∈L→x.es.length≤n) (ha:1≤a∧a≤n) (hnd:∀x,x∈L→(x.es.map (·.1)).Nodup) (b:Nat):af Tryz.prog 142 [.ptr g 0 0,.int .i64 a,.int .i64 b] σ (fun r t=>r= .bK [wi (aV ww a b),.int .i64 (wC (aV ww a b)),.bool (aV ww a b).isSome]∧t=σ):=by
  suffices h:af Tryz.prog 142 [.ptr g 0 0,.int .i64 a,.int .i64 b] σ (fun r t=>(match aV ww a b with
      |none=>r= .bK [.sl .nil [],.int .i64 0,.bool false]
      |some x=>∃kd:SK,kd.isNil=false∧r= .bK [.sl kd (bI x.2),.int .i64 x.1,.bool true])∧σ.Sub t) by
    refine jS h ?_
    rintro r t ⟨h1,h2⟩
    cases hb:aV ww a b with
    | none=>
      rw[hb] at h1
      exact⟨_,cH.refl _,σ,h2,h1,rfl⟩
    | some x=>
      rw[hb] at h1
      obtain⟨kd,h3,rfl⟩:=h1
      exact⟨.bK [.sl .bf (bI x.2),.int .i64 x.1,.bool true],cH.bK ⟨cH.bf h3,cH.refl _,cH.refl _,trivial⟩,σ,h2,rfl,rfl⟩
  refine ai [.tmp 6,.tmp 7,.tmp 8] 24 Tryz.func142 (by rfl) rfl rfl rfl rfl ?_
  repeat' first|refine zw ?_|refine zy fun nu _ _=>?_|refine zc rfl (fun h=>?_) fun h=>?_|refine zi (fun h=>?_) fun h=>?_|exact .intro|fail
  refine aK (sC G GWh hn hL ha hnd) ?_
  rintro _ t ⟨oo,D,rfl,hoo,bg,hto,dn,hD⟩
  have hk:=lD D
  have hf:=lH (b:Int) D
  rw[←hD b]
  cases hfr:dA (b:Int) D with
  | none=>
    have e:rX D b=none:=by unfold rX;rw[hfr];rfl
    rw[hfr] at hf
    simp only[Option.map_none] at hf
    rw[e]
    simp -dsimp (disch:=omega) only[go_sem,hto,hk,hf]
    (have kX:=g8 @hto @hk @hf;repeat' first|refine zh ?_|(refine al ?_;intro b hb)|refine zy fun nu _ _=>?_|refine zc rfl (fun h=>?_) fun h=>?_|refine zi (fun h=>?_) fun h=>?_|exact .intro|fail);all_goals clear kX
    exact⟨_,aa.Sub.refl _,bg⟩
  | some r=>
    have e:rX D b=some (pM r):=by unfold rX;rw[hfr];rfl
    rw[hfr] at hf
    simp only[Option.map_some] at hf
    rw[e]
    obtain⟨_,hkd,_⟩:=dn.2 _ (o3 hfr)
    simp -dsimp (disch:=omega) only[go_sem,hto,hk,hf]
    (have kX:=g8 @hto @hk @hf;repeat' first|refine zh ?_|(refine al ?_;intro b hb)|refine zy fun nu _ _=>?_|refine zc rfl (fun h=>?_) fun h=>?_|refine zi (fun h=>?_) fun h=>?_|exact .intro|fail);all_goals clear kX
    exact⟨_,aa.Sub.refl _,⟨r.kd,og hkd,rfl⟩,bg⟩
end
end Go.Proofs.YtgfjihpbphplhaaGreat

namespace Go.Proofs.YtgfjihpbphplhaaGreat
open Go.Kern Go.RowKit
set_option maxRecDepth 100000
set_option maxHeartbeats 4000000
attribute [local irreducible] af W
def ej (o:Option Wk):AV:= .agg [.int .i64 (wC o),wi o]
noncomputable def l9 (ww:Nat→Nat→Option Nat) (n i:Nat):List AV:=(List.range n).map fun k=>ej (aV ww (i+1) (k+1))
noncomputable def cV (ww:Nat→Nat→Option Nat) (n m:Nat):List AV:=(List.range m).map fun i=> .sl .bf (l9 ww n i)
def gu {α:Type} (f:Nat→α) (z:α) (n k:Nat):List α:=(List.range k).map f++List.replicate (n-k) z
theorem wH {α:Type} (f:Nat→α) (z:α) {n k:Nat} (h:k≤n):(gu f z n k).length=n:=by simp[gu];omega
theorem qY {α:Type} (f:Nat→α) (z:α) {n k:Nat} (h:k<n):(gu f z n k)[k]? =some z:=by
 rw[gu,List.getElem?_append_right (by simp)]
 simp only[List.length_map,List.length_range,Nat.sub_self,List.getElem?_replicate]
 rw[if_pos (by omega)]
theorem qX {α:Type} (f:Nat→α) (z:α) {n k:Nat} (h:k<n):(gu f z n k).set k (f k)=gu f z n (k+1):=by
 obtain⟨m,hm⟩:∃m,n-k=m+1:=⟨n-k-1,by omega⟩
 have h2:n-(k+1)=m:=by omega
 rw[gu,gu,hm,h2,List.replicate_succ,List.set_append_right _ _ (by simp),List.range_succ]
 simp
theorem vh {α:Type} (f:Nat→α) (z:α) {n k:Nat} (h:k<n) (hf:f k=z):gu f z n (k+1)=gu f z n k:=by
 rw[←qX f z h,hf]
 have:=qY f z h
 apply List.ext_getElem?
 intro i
 rw[List.getElem?_set]
 split
 ·rename_i e;subst e
  rw[this,if_pos (by rw[wH f z (by omega)];exact h)]
 ·rfl
theorem vg {α:Type} (f:Nat→α) (z:α) (n:Nat):gu f z n 0=List.replicate n z:=by simp[gu]
theorem wI {α:Type} (f:Nat→α) (z:α) (n:Nat):gu f z n n=(List.range n).map f:=by simp[gu]
structure FS (σ s:aa) (x:Nat) (n:Int) (gp:AV) (k:SK) (rows:List AV):Prop where
 net:s x=some (.arr 123 [.agg [.int .i64 n,gp,.sl k rows]])
 sub:σ.Sub s
 fx:σ x=none
 tip:ef σ s k rows.length 182 1
theorem FS.new {σ s:aa} {x:Nat} {n:Int} {gp:AV} {k:SK} {rows:List AV} (h:FS σ s x n gp k rows) {b:Nat} (hb:s b=none) (X:Ob):FS σ (s.put b X) x n gp k rows:=
 ⟨aD h.net hb X,ax h.sub (bo h.sub hb),h.fx,by
  rcases h.tip with h1|⟨t,h1,h2,h3,h4⟩
  ·exact .inl h1
  ·exact .inr ⟨t,h1,aD h2 hb X,h3,h4⟩⟩
structure Fl where
 i:Nat
 k:SK
 s:aa
def B4 (n:Nat):SK:=if n=0 then .nil else .bf
noncomputable def ma (ww:Nat→Nat→Option Nat) (n g:Nat):AV:= .ip (.agg [.int .i64 n,.ptr g 0 0,.sl (B4 n) (cV ww n n)]) 0
section
variable {ww:Nat→Nat→Option Nat} {n:Nat} {σ:aa} {g m0:Nat} {L:List bq}
theorem rS (G:GR g m0 L σ) (GWh:GW ww n L) (hn:n<100) (hL:∀x,x∈L→x.es.length≤n) (hnd:∀x,x∈L→(x.es.map (·.1)).Nodup):af Tryz.prog 80 [.int .i64 n,.ptr g 0 0] σ (fun r t=>r=ma ww n g∧t=σ):=by
  suffices h:af Tryz.prog 80 [.int .i64 n,.ptr g 0 0] σ (fun r t=>∃kd:SK,(n=0→kd= .nil)∧(n≠0→kd.isNil=false)∧r= .ip (.agg [.int .i64 n,.ptr g 0 0,.sl kd (cV ww n n)]) 0∧σ.Sub t) by
    refine jS h ?_
    rintro r t ⟨kd,h1,h2,rfl,h3⟩
    have hw:cH (.sl kd (cV ww n n)) (.sl (B4 n) (cV ww n n)):=by
      by_cases h0:n=0
      · rw[h1 h0,B4,if_pos h0];exact cH.refl _
      · rw[B4,if_neg h0];exact cH.bf (h2 h0)
    exact⟨ma ww n g,cH.ip (xs:=[.int .i64 n,.ptr g 0 0,.sl kd (cV ww n n)]) (ys:=[.int .i64 n,.ptr g 0 0,.sl (B4 n) (cV ww n n)]) ⟨cH.refl _,cH.refl _,hw,trivial⟩ 0,σ,h3,rfl,rfl⟩
  refine ai [.tmp 4] 56 Tryz.func80 (by rfl) rfl rfl rfl rfl ?_
  (have kM:Mu [15]:=⟨⟩;repeat' first|refine zw ?_|refine ry [15] c0 fun nu _ _=>?_|refine zc rfl (fun h=>?_) fun h=>?_|refine zi (fun h=>?_) fun h=>?_|exact .intro|fail);all_goals clear kM
  intro x hx
  repeat' first|refine zw ?_|refine zy fun nu _ _=>?_|refine zc rfl (fun h=>?_) fun h=>?_|refine zi (fun h=>?_) fun h=>?_|exact .intro|fail
  refine ak (fun q:Fl=>[(0,.int .i64 n),(1,.ptr g 0 0),(5,.ptr x 0 0),(16,.int .i64 n),(17,.int .i64 q.i)]) (fun q=>q.s) (fun q=>q.i≤n∧FS σ q.s x n (.ptr g 0 0) q.k (cV ww n q.i)) (fun q=>n-q.i) ⟨0,.nil,_⟩ ⟨Nat.zero_le _,ao _ _ _,an hx,hx,.inl ⟨rfl,rfl⟩⟩ (Env.ab (by simp[Env.Has,Env.get])) (aa.Sub.refl _) ?_
  rintro⟨i,k,s⟩ ⟨hi,H⟩
  simp only at hi H
  by_cases hlt:i<n
  · have hnp:((n:Int)=0)=False:=eq_false (by omega)
    (have kX:=@hnp;repeat' first|refine zw ?_|refine zy fun nu _ _=>?_|refine zc rfl (fun h=>?_) fun h=>?_|refine zi (fun h=>?_) fun h=>?_|exact .intro|fail);all_goals clear kX
    intro b hb
    (have kX:=@hnp;repeat' first|refine zw ?_|refine zy fun nu _ _=>?_|refine zc rfl (fun h=>?_) fun h=>?_|refine zi (fun h=>?_) fun h=>?_|exact .intro|fail);all_goals clear kX
    refine ak (fun q:Fl=>[(0,.int .i64 n),(1,.ptr g 0 0),(5,.ptr x 0 0),(16,.int .i64 n),(17,.int .i64 i),(6,.int .i64 i),(7,.ms b 2 0 n),(22,.int .i64 n),(23,.int .i64 q.i)]) (fun q=>s.put b (.arr 111 (gu (fun k=>ej (aV ww (i+1) (k+1))) (ej none) n q.i))) (fun q=>q.i≤n) (fun q=>n-q.i) ⟨0,.nil,s⟩ (Nat.zero_le _) (Env.ab (by simp[Env.Has,Env.get])) (sub_eq (by rw[vg];rfl)) ?_
    rintro⟨j,_,_⟩ hj
    simp only at hj
    by_cases hjn:j<n
    · have hS:=H.new hb (.arr 111 (gu (fun k=>ej (aV ww (i+1) (k+1))) (ej none) n j))
      have hw:=uV (G.sub hS.sub) GWh hn hL (a:=i+1) (by omega) hnd (j+1)
      rw[show((i+1:Nat):Int)=(i:Int)+1 by omega,show((j+1:Nat):Int)=(j:Int)+1 by omega] at hw
      have hget:(gu (fun k=>ej (aV ww (i+1) (k+1))) (ej none) n j)[j]? =some (.agg [.int .i64 0,.sl .nil []]):=qY (fun k=>ej (aV ww (i+1) (k+1))) (ej none) hjn
      have hse:=qX (fun k=>ej (aV ww (i+1) (k+1))) (ej none) hjn
      cases hbo:aV ww (i+1) (j+1) with
      | none=>
        rw[hbo] at hw
        have hsm:=vh (fun k=>ej (aV ww (i+1) (k+1))) (ej none) hjn (by simp only[hbo])
        simp only[wC,wi,Option.isSome] at hw
        repeat' first|refine zw ?_|refine zy fun nu _ _=>?_|refine zc rfl (fun h=>?_) fun h=>?_|refine zi (fun h=>?_) fun h=>?_|exact .intro|refine uw (hw) ?_|fail
        exact⟨⟨j+1,.nil,s⟩,by simp only;omega,by simp only;omega,Env.ab (by simp[Env.Has,Env.get]),sub_eq (by simp only;rw[hsm])⟩
      | some y=>
        rw[hbo] at hw
        simp only[wC,wi,Option.isSome] at hw
        simp only[hbo] at hse
        have hse2:(gu (fun k=>ej (aV ww (i+1) (k+1))) (ej none) n j).set j (.agg [.int .i64 y.1,.sl .bf (bI y.2)])=gu (fun k=>ej (aV ww (i+1) (k+1))) (ej none) n (j+1):=hse
        (have kX:=g9 @hget @hse2;repeat' first|refine zw ?_|refine zy fun nu _ _=>?_|refine zc rfl (fun h=>?_) fun h=>?_|refine zi (fun h=>?_) fun h=>?_|exact .intro|refine uw (hw) ?_|fail);all_goals clear kX
        exact⟨⟨j+1,.nil,s⟩,by simp only;omega,by simp only;omega,Env.ab (by simp[Env.Has,Env.get]),aa.Sub.refl _⟩
    · have hje:j=n:=by omega
      have hP:gu (fun k=>ej (aV ww (i+1) (k+1))) (ej none) n j=l9 ww n i:=by rw[hje,wI];rfl
      have hrl:(l9 ww n i).length=n:=by simp[l9]
      (have kS:Sa 13:=⟨⟩;repeat' ((fail_if_success refine ss kS ?_);first|refine zw ?_|refine zy fun nu _ _=>?_|refine zc rfl (fun h=>?_) fun h=>?_|refine zi (fun h=>?_) fun h=>?_|exact .intro|fail));all_goals clear kS
      rw[hP]
      haveI:Cv b 2 (l9 ww n i) (.ms b 2 0 n) (.sl .bf (l9 ww n i)):=⟨.inr ⟨_,hrl.symm,rfl,rfl⟩⟩
      refine yi (sz:=2) (ao _ _ _) inferInstance ?_
      rw[nD hb]
      have hnet:=H.net
      have hsn:cV ww n i++[.sl .bf (l9 ww n i)]=cV ww n (i+1):=by simp[cV,List.range_succ]
      have hrs:aO 1 (cV ww n i)=true:=jG 1 _ (fun _=>rfl) _
      have hln:(cV ww n i).length=i:=by simp[cV]
      rcases H.tip with ⟨rfl,i0⟩|⟨t,rfl,ht,hts,hpos⟩
      · rw[hln] at i0
        subst i0
        have hr0:cV ww n 0=[]:=rfl
        rw[hr0] at hnet hsn
        (have kX:=@hnet;repeat' first|refine zw ?_|refine zy fun nu _ _=>?_|refine zc rfl (fun h=>?_) fun h=>?_|refine zi (fun h=>?_) fun h=>?_|exact .intro|fail);all_goals clear kX
        intro t ht
        have kt:=aD hnet ht
        have bg:=bo H.sub ht
        have htx:t≠x:=fun q=>by rw[q,H.net] at ht;cases ht
        simp -dsimp (disch:=omega) only[go_sem,kt]
        (have kX:=@kt;repeat' first|refine zw ?_|refine zy fun nu _ _=>?_|refine zc rfl (fun h=>?_) fun h=>?_|refine zi (fun h=>?_) fun h=>?_|exact .intro|fail);all_goals clear kX
        exact⟨⟨0+1,.tip t,(s.put t (.tip 1 182 1)).put x (.arr 123 [.agg [.int .i64 n,.ptr g 0 0,.sl (.tip t) (cV ww n (0+1))]])⟩,by simp only;omega,⟨by simp only;omega,ao _ _ _,ax (ax H.sub bg) H.fx,H.fx,.inr ⟨t,rfl,by simp only;rw[au htx,ao];rfl,bg,by simp[cV]⟩⟩,Env.ab (by simp[Env.Has,Env.get]),sub_eq (by simp only;rw[←hsn];rfl)⟩
      · have htx:t≠x:=fun q=>by rw[q,H.net] at ht;cases ht
        have kn:∀y,(s.put t y) x=some _:=fun y=>(au htx.symm).trans hnet
        rw[hln] at ht
        (have kX:=Dc @hnet @ht @kn @hrs @hln @hsn;repeat' first|refine zw ?_|refine zy fun nu _ _=>?_|refine zc rfl (fun h=>?_) fun h=>?_|refine zi (fun h=>?_) fun h=>?_|exact .intro|fail);all_goals clear kX
        exact⟨⟨i+1,.tip t,(s.put t (.tip (cV ww n (i+1)).length 182 1)).put x (.arr 123 [.agg [.int .i64 n,.ptr g 0 0,.sl (.tip t) (cV ww n (i+1))]])⟩,by simp only;omega,⟨by simp only;omega,ao _ _ _,ax (ax H.sub hts) H.fx,H.fx,.inr ⟨t,rfl,by simp only;rw[au htx,ao],hts,by simp[cV]⟩⟩,Env.ab (by simp[Env.Has,Env.get]),aa.Sub.refl _⟩
  · have hie:i=n:=by omega
    subst hie
    have hnet:=H.net
    (have kS:Sa 15:=⟨⟩;repeat' ((fail_if_success refine ss kS ?_);first|refine zw ?_|refine zy fun nu _ _=>?_|refine zc rfl (fun h=>?_) fun h=>?_|refine zi (fun h=>?_) fun h=>?_|exact .intro|fail));all_goals clear kS
    refine yk hnet ?_
    repeat' first|refine zw ?_|refine zy fun nu _ _=>?_|refine zc rfl (fun h=>?_) fun h=>?_|refine zi (fun h=>?_) fun h=>?_|exact .intro|fail
    refine⟨_,aa.Sub.refl _,k,fun h0=>?_,fun h0=>?_,rfl,lf H.sub H.fx⟩
    · rcases H.tip with ⟨q1,q2⟩|⟨t,q1,q2,q3,q4⟩
      · exact q1
      · simp[cV] at q4;omega
    · rcases H.tip with ⟨q1,q2⟩|⟨t,q1,q2,q3,q4⟩
      · simp[cV] at q2;omega
      · rw[q1]
end
end Go.Proofs.YtgfjihpbphplhaaGreat

namespace Go.Proofs.YtgfjihpbphplhaaGreat
open Go.Kern Go.RowKit
structure Dk where
 j:Nat
 v:AV
 τ:aa
def Ct (σ τ:aa) (o no mo:Nat) (v:AV) (l:List aU):Prop:=(v= .sl .nil []∧l=[])∨∃ol,v= .ms ol 5 0 l.length∧τ ol=some (.arr 147 (aj bB l))∧l≠[]∧σ ol=none∧ol≠no∧ol≠mo∧ol≠o
theorem Ct.new {σ τ:aa} {o no mo c:Nat} {v:AV} {l:List aU} (h:Ct σ τ o no mo v l) (hc:τ c=none) (X:Ob):Ct σ (τ.put c X) o no mo v l:=by
 rcases h with h|⟨ol,h1,h2,h3⟩
 ·exact .inl h
 ·exact .inr ⟨ol,h1,aD h2 hc X,h3⟩
theorem wO (s:aa) (o:Nat) (x:Ob):(s.put o x).drop o=s.drop o:=by
 funext p
 simp only[aa.drop,aa.put]
 split<;>rfl
theorem vI {τ:aa} {o c:Nat} (h:τ c=none):(τ.drop o) c=none:=by
 simp only[aa.drop]
 split
 ·rfl
 ·exact h
structure Dl where
 i:Nat
 k:SK
 τ:aa
 P:List (List aU)
theorem dW:∀ (l pre:List ByteArray),aN pre l=true→l.Nodup∧∀s,s∈l→s∉pre
  | [],_,_=>⟨.nil,fun s hs=>by simp at hs⟩
  | x::l,pre,h=>by
    simp only[aN,Bool.and_eq_true,Bool.not_eq_true',List.any_eq_false,decide_eq_true_eq] at h
    obtain⟨⟨h1,_⟩,h2⟩:=h
    obtain⟨g1,g2⟩:=dW l _ h2
    refine⟨List.nodup_cons.2 ⟨fun hx=>g2 x hx (by simp),g1⟩,fun s hs hp=>?_⟩
    rcases List.mem_cons.1 hs with rfl|hs
    · exact h1 s hp rfl
    · exact g2 s hs (by simp[hp])
def sY (c:fN) (kL kM kR:SK):Nt:=⟨kL,c.lists.map eh,kM,c.maps.map eQ,kR,c.routers.map cJ⟩
theorem w7 (c:fN) (hc:c.S) (kL kM kR:SK):(sY c kL kM kR).Ck:=by
 obtain⟨⟨c1,c2,c3⟩,c4,c5,c6⟩:=hc
 refine⟨by simp[sY];omega,by simp[sY];omega,by simp[sY];omega,fun m hm=>?_,fun r hr=>?_,fun r hr=>?_⟩
 ·obtain⟨y,hy,rfl⟩:=List.mem_map.1 hm
  have:=(c5 y hy).1.2
  simp[eQ];omega
 ·obtain⟨y,hy,rfl⟩:=List.mem_map.1 hr
  have:=(c6 y hy).2.2.1
  simp[cJ];omega
 ·obtain⟨y,hy,rfl⟩:=List.mem_map.1 hr
  have:=(c6 y hy).2.2.2
  simp[cJ];omega
theorem sX (c:fN) (kL kM kR:SK):(sY c kL kM kR).rs.map (·.name)=c.routers.map (·.name):=by simp[sY,List.map_map,cJ]
def np (c:fN):l5:=iI (c.lists.map eh) (c.maps.map eQ) (c.routers.map cJ)
def fU (rs:List bX) (r:bX):List aU:=r.nbrs.map fun x=>⟨(((iB x.name (rs.map (·.name))).getD 0+1:Nat):Int),!decide ((rs.getD ((iB x.name (rs.map (·.name))).getD 0) default).asn=r.asn),x.client,x.imp,x.exp⟩
theorem known {lists:List cC} {maps:List bS} {rs:List bX} (h:iI lists maps rs=bl) {i:Nat} (hi:i<rs.length):∀y,y∈(rs.getD i default).nbrs→(∃q,iB y.name (rs.map (·.name))=some q∧q<rs.length)∧y.name≠(rs.getD i default).name:=by
 intro y hy
 have h1:dt maps rs i=bl:=eJ (fun f hf=>by
  rcases List.mem_append.1 hf with hf|hf
  ·obtain⟨c,_,rfl⟩:=List.mem_map.1 hf;exact iW _ _
  ·obtain⟨c,_,rfl⟩:=List.mem_map.1 hf;exact iS _ _ _) h _ (List.mem_append_right _ (List.mem_map.2 ⟨i,by simpa using hi,rfl⟩))
 unfold dt at h1
 simp only at h1
 split at h1
 ·have:=congrArg l5.e h1;cases this
 ·have h2:eP maps rs (rs.getD i default) y=bl:=eJ (fun f hf=>by
   rcases List.mem_append.1 hf with hf|hf
   ·obtain⟨c,_,rfl⟩:=List.mem_map.1 hf;exact iV _ _ _ _
   ·obtain⟨c,_,rfl⟩:=List.mem_map.1 hf;exact iX _ _ _) h1 _ (List.mem_append_left _ (List.mem_map.2 ⟨y,hy,rfl⟩))
  unfold eP at h2
  split at h2
  ·rename_i q;have:=congrArg l5.e h2;exact absurd this q
  ·rename_i q
   unfold bZ at q
   split at q
   ·exact absurd (by decide) q
   ·rename_i j hj
    split at q
    ·exact absurd (by decide) q
    ·rename_i hne
     exact⟨⟨j,hj,by have:=(di hj).1;simpa using this⟩,hne⟩
def tK (l:List aU):AV:= .sl (if l=[] then .nil else .bf) (aj bB l)
structure pr (rs:List bX) (P:List (List aU)) (n:Nat):Prop where
 len:P.length=n
 at_:∀i,i<n→(P.getD i []).Perm (fU rs (rs.getD i default))∧(P.getD i []).Pairwise fun a b=>a.to≤b.to
theorem pr.snoc {rs:List bX} {P:List (List aU)} {n:Nat} (h:pr rs P n) {l:List aU} (h1:l.Perm (fU rs (rs.getD n default))) (h2:l.Pairwise fun a b=>a.to≤b.to):pr rs (P++[l]) (n+1):=by
 refine⟨by simp[h.len],fun i hi=>?_⟩
 by_cases e:i=n
 ·subst e
  rw[show(P++[l]).getD i []=l by simp[List.getD_eq_getElem?_getD,←h.len]]
  exact⟨h1,h2⟩
 ·rw[show(P++[l]).getD i []=P.getD i [] by simp[List.getD_eq_getElem?_getD,List.getElem?_append_left (show i<P.length by rw[h.len];omega)]]
  exact h.at_ i (by omega)
set_option maxRecDepth 100000
set_option maxHeartbeats 4000000
attribute [local irreducible] af W
theorem pR (a b:aU):Pure Tryz.prog 73 [bB a,bB b] (.int .i64 (iG a.to b.to)):=by
 intro σ
 have h:=dD a.to b.to
 refine ah [.tmp 4] 10 Tryz.func73 (by rfl) rfl rfl rfl rfl ?_
 repeat' first|refine zw ?_|refine zy fun nu _ _=>?_|refine zc rfl (fun h=>?_) fun h=>?_|refine zi (fun h=>?_) fun h=>?_|exact .intro|refine us (h) ?_|fail
theorem tc (c:fN) (hc:c.S) (hf:c.Fits) (σ:aa):af Tryz.prog 22 [aX c] σ (fun r t=>σ.Sub t∧(
    (cL c=false∧r= .bK [.nilp,fM ⟨⟨#[]⟩,⟨#[]⟩,1⟩])∨(cL c=true∧(np c).e≠0∧r= .bK [.nilp,fM (np c)])∨
    (cL c=true∧np c=bl∧∃kL kM kR kP P mo,yB kL c.lists∧yB kM c.maps∧yB kR c.routers∧yB kP c.routers∧pr (c.routers.map cJ) P c.routers.length∧
      r= .bK [.ip (.agg [.sl kL (aj bd (c.lists.map eh)),.sl kM (aj ba (c.maps.map eQ)),.sl kR (aj aC (c.routers.map cJ)),.map mo,.sl kP (aj tK P)]) 0,fM bl]∧t mo=some (.map (sh (c.routers.map (·.name)) 0))∧σ mo=none))):=by
  have hmay:=sc c hf
  have hcS:=hc
  obtain⟨⟨c1,c2,c3⟩,c4,c5,c6⟩:=hc
  cases hm:cL c with
  | false=>
    rw[hm] at hmay
    refine ai [.tmp 2,.cell 3 51] 180 Tryz.func22 (by rfl) rfl rfl rfl rfl ?_
    repeat' first|refine zw ?_|refine zy fun nu _ _=>?_|refine zc rfl (fun h=>?_) fun h=>?_|refine zi (fun h=>?_) fun h=>?_|exact .intro|fail
    intro o ho
    replace ho:=eU.mk ho
    repeat' first|refine zh ?_|(refine al ?_;intro b hb)|refine zy fun nu _ _=>?_|refine zc rfl (fun h=>?_) fun h=>?_|refine zi (fun h=>?_) fun h=>?_|exact .intro|refine us (hmay) ?_|fail
    exact⟨_,aa.Sub.refl _,an ho.h⟩
  |true=>
  rw[hm] at hmay
  have hun:(c.routers.map (·.name)).Nodup:=by
    simp only[cL,Bool.and_eq_true] at hm
    exact(dW _ _ hm.2.2.2.2.2).1
  refine ai [.tmp 2,.cell 3 51] 180 Tryz.func22 (by rfl) rfl rfl rfl rfl ?_
  (have kM:Mu [24]:=⟨⟩;repeat' first|refine zw ?_|refine ry [24] c0 fun nu _ _=>?_|refine zc rfl (fun h=>?_) fun h=>?_|refine zi (fun h=>?_) fun h=>?_|exact .intro|fail);all_goals clear kM
  intro o ho
  (have kM:Mu [24]:=⟨⟩;repeat' first|refine zw ?_|refine ry [24] c0 fun nu _ _=>?_|refine zc rfl (fun h=>?_) fun h=>?_|refine zi (fun h=>?_) fun h=>?_|exact .intro|refine us (hmay) ?_|fail);all_goals clear kM
  intro mo hmo no hno
  have hS:oF σ o no mo ⟨.nil,[],.nil,[],.nil,[]⟩ [] (.sl .nil []) (((σ.put o (nk bl)).put mo (.map (sh [] 0))).put no (cG ⟨.nil,[],.nil,[],.nil,[]⟩ (.map mo) (.sl .nil []))):=by
    have n1:mo≠o:=aP hmo
    have n2:no≠mo:=aP hno
    have h2:=hno
    rw[aq n2] at h2
    have n3:no≠o:=aP h2
    have f1:σ mo=none:=by rw[←hmo,aq n1]
    have f2:σ no=none:=by rw[←h2,aq n3]
    exact⟨ao _ _ _,by rw[au n2.symm,ao],by rw[au n3.symm,au n1.symm,ao],ax (ax (ax (fun _ _ h=>h) ho) f1) f2,n2,n3,n1,f2,f1,ho⟩
  obtain⟨τ0,hτ0⟩:∃τ,(((σ.put o (nk bl)).put mo (.map (sh [] 0))).put no (cG ⟨.nil,[],.nil,[],.nil,[]⟩ (.map mo) (.sl .nil [])))=τ:=⟨_,rfl⟩
  rw[hτ0] at hS
  refine lb (fun i=> .inr rfl) (show τ0.Sub _ by rw[←hτ0];exact aa.Sub.refl _) ?_
  clear hτ0 hno hmo ho
  repeat' first|refine zw ?_|refine zy fun nu _ _=>?_|refine zc rfl (fun h=>?_) fun h=>?_|refine zi (fun h=>?_) fun h=>?_|exact .intro|fail
  refine ak (fun a:C3=>[(1,.ip (aX c) 0),(3,.ptr o 0 0),(4,.ptr no 0 0),(26,.sl c.kL (aj bd c.lists)),(27,.int .i64 c.lists.length),(28,.int .i64 a.i)]) (fun a=>a.τ) (fun a=>a.i≤c.lists.length∧oF σ o no mo ⟨a.k,(c.lists.take a.i).map eh,.nil,[],.nil,[]⟩ [] (.sl .nil []) a.τ∧ef σ a.τ a.k a.i 130 2) (fun a=>c.lists.length-a.i) ⟨0,.nil,τ0⟩ ⟨Nat.zero_le _,hS,.inl ⟨rfl,rfl⟩⟩ (Env.ab (by simp[Env.Has,Env.get,Env.aG,ba,aC,aT,aW,aM,bd,aX,aS,bA,aY])) (aa.Sub.refl _) ?_
  clear hS τ0
  rintro⟨i,k,τ⟩ ⟨hi,hS,hT⟩
  simp only at hi hS hT
  by_cases hlt:i<c.lists.length
  · obtain⟨x,hx⟩:∃x,c.lists.getD i default=x:=⟨_,rfl⟩
    have hxm:x∈c.lists:=hx▸eH hlt
    have hcl:=xU x.k x.l (by have:=(c4 x hxm).2;omega)
    obtain⟨L,hL⟩:∃L,(c.lists.take i).map eh=L:=⟨_,rfl⟩
    have hL':=eA eh hlt
    rw[hx,hL] at hL'
    have hLl:L.length=i:=by rw[←hL];simp;omega
    rw[hL] at hS
    have hrow:aO 2 (aj bd L)=true:=cW 2 bd (fun _=>rfl) L
    have hnet:=hS.net
    simp only[cG] at hnet
    (have kX:=@hx;have kS:Sa 7:=⟨⟩;repeat' ((fail_if_success refine ss kS ?_);first|refine zh ?_|(refine al ?_;intro b hb)|refine zy fun nu _ _=>?_|refine zc rfl (fun h=>?_) fun h=>?_|refine zi (fun h=>?_) fun h=>?_|exact .intro|fail));all_goals clear kX kS
    refine ry (id:=7) [] (cw [5] [13,17] [] [13] []) fun nv hn1 hn2=>?_
    have e13:τ (nv 13)=none:=hn1 13 (by simp)
    have kn:=aD hnet e13
    rcases hT with ⟨rfl,h0⟩|⟨t,rfl,ht,hts,hpos⟩
    · have hL0:L=[]:=List.eq_nil_of_length_eq_zero (by omega)
      have hE0:aj bd L=[]:=by rw[hL0];rfl
      rw[hE0] at hnet kn
      simp -dsimp (disch:=omega) only[go_sem,hnet,kn,hx]
      (have kX:=g8 @hnet @kn @hx;repeat' first|refine zh ?_|(refine al ?_;intro b hb)|refine zy fun nu _ _=>?_|refine zc rfl (fun h=>?_) fun h=>?_|refine zi (fun h=>?_) fun h=>?_|exact .intro|refine us (hcl) ?_|fail);all_goals clear kX
      refine⟨⟨i+1,.tip (nv 13),(τ.put (nv 13) (.tip 1 130 2)).put no (cG ⟨.tip (nv 13),(c.lists.take (i+1)).map eh,.nil,[],.nil,[]⟩ (.map mo) (.sl .nil []))⟩,by simp only;omega,⟨by simp only;omega,(hS.new e13 _).wr _ _,.inr ⟨nv 13,rfl,?_,bo hS.sub e13,Nat.succ_pos _⟩⟩,(Env.ab (by simp[Env.Has,Env.get,Env.aG,ba,aC,aT,aW,aM,bd,aX,aS,bA,aY])),?_⟩
      · dsimp only
        rw[au (bh hS.net e13).symm,ao,show i=0 by omega]
      · refine sub_eq ?_
        simp only[cG,hL',hL0,List.nil_append]
        rfl
    · have hto:t≠no:=fun q=>by rw[q,hS.net] at ht;cases ht
      have kt:=aD ht e13
      have knt:∀y,(τ.put t y) no=some _:=fun y=>by rw[au hto.symm];exact hnet
      rw[←hLl] at ht
      simp -dsimp (disch:=omega) only[go_sem,hnet,kn,hx,ht,kt,hrow,knt]
      (have kX:=qC @hnet @kn @hx @ht @kt @hrow @knt;repeat' first|refine zh ?_|(refine al ?_;intro b hb)|refine zy fun nu _ _=>?_|refine zc rfl (fun h=>?_) fun h=>?_|refine zi (fun h=>?_) fun h=>?_|exact .intro|refine us (hcl) ?_|fail);all_goals clear kX
      refine⟨⟨i+1,.tip t,(τ.put t (.tip (i+1) 130 2)).put no (cG ⟨.tip t,(c.lists.take (i+1)).map eh,.nil,[],.nil,[]⟩ (.map mo) (.sl .nil []))⟩,by simp only;omega,⟨by simp only;omega,(hS.grow ht hts).wr _ _,.inr ⟨t,rfl,?_,hts,Nat.succ_pos _⟩⟩,(Env.ab (by simp[Env.Has,Env.get,Env.aG,ba,aC,aT,aW,aM,bd,aX,aS,bA,aY])),?_⟩
      · dsimp only
        rw[au hto,ao]
      · refine sub_eq ?_
        simp only[cG,hL',←eW,List.length_append,cb,hLl,List.length_cons,List.length_nil]
        rfl
  · have hi':i=c.lists.length:=by omega
    subst hi'
    rw[List.take_length] at hS
    clear hi hlt
    obtain⟨k0,hk0⟩:∃q,k=q:=⟨_,rfl⟩
    have hTA:yB k0 c.lists:=by rw[←hk0];exact hT.Cq
    rw[hk0] at hS
    clear hk0
    clear hT
    obtain⟨τ0,hτ0⟩:∃q,τ=q:=⟨_,rfl⟩
    subst hτ0
    repeat' first|refine zw ?_|refine zy fun nu _ _=>?_|refine zc rfl (fun h=>?_) fun h=>?_|refine zi (fun h=>?_) fun h=>?_|exact .intro|fail
    refine ak (fun a:C3=>[(1,.ip (aX c) 0),(3,.ptr o 0 0),(4,.ptr no 0 0),(51,.sl c.kM (aj ba c.maps)),(52,.int .i64 c.maps.length),(53,.int .i64 a.i)]) (fun a=>a.τ) (fun a=>a.i≤c.maps.length∧oF σ o no mo ⟨k0,c.lists.map eh,a.k,(c.maps.take a.i).map eQ,.nil,[]⟩ [] (.sl .nil []) a.τ∧ef σ a.τ a.k a.i 139 2) (fun a=>c.maps.length-a.i) ⟨0,.nil,τ⟩ ⟨Nat.zero_le _,hS,.inl ⟨rfl,rfl⟩⟩ (Env.ab (by simp[Env.Has,Env.get,Env.aG,ba,aC,aT,aW,aM,bd,aX,aS,bA,aY])) (aa.Sub.refl _) ?_
    clear hS
    clear τ
    rintro⟨i,k,τ⟩ ⟨hi,hS,hT⟩
    simp only at hi hS hT
    by_cases hlt:i<c.maps.length
    · obtain⟨x,hx⟩:∃x,c.maps.getD i default=x:=⟨_,rfl⟩
      have hxm:x∈c.maps:=hx▸eH hlt
      have hcl:=xZ x.k x.l (by have:=(c5 x hxm).1.2;omega) (fun y hy=>by have:=(c5 x hxm).2 y hy;unfold hJ.S at this;omega)
      obtain⟨L,hL⟩:∃L,(c.maps.take i).map eQ=L:=⟨_,rfl⟩
      have hL':=eA eQ hlt
      rw[hx,hL] at hL'
      have hLl:L.length=i:=by rw[←hL];simp;omega
      rw[hL] at hS
      have hrow:aO 2 (aj ba L)=true:=cW 2 ba (fun _=>rfl) L
      have hnet:=hS.net
      simp only[cG] at hnet
      (have kX:=@hx;have kS:Sa 12:=⟨⟩;repeat' ((fail_if_success refine ss kS ?_);first|refine zh ?_|(refine al ?_;intro b hb)|refine zy fun nu _ _=>?_|refine zc rfl (fun h=>?_) fun h=>?_|refine zi (fun h=>?_) fun h=>?_|exact .intro|fail));all_goals clear kX kS
      refine ry (id:=12) [] (cw [5] [13,17] [] [13] []) fun nv hn1 hn2=>?_
      have e13:τ (nv 13)=none:=hn1 13 (by simp)
      have kn:=aD hnet e13
      rcases hT with ⟨rfl,h0⟩|⟨t,rfl,ht,hts,hpos⟩
      · have hL0:L=[]:=List.eq_nil_of_length_eq_zero (by omega)
        have hE0:aj ba L=[]:=by rw[hL0];rfl
        rw[hE0] at hnet kn
        simp -dsimp (disch:=omega) only[go_sem,hnet,kn,hx]
        (have kX:=g8 @hnet @kn @hx;repeat' first|refine zh ?_|(refine al ?_;intro b hb)|refine zy fun nu _ _=>?_|refine zc rfl (fun h=>?_) fun h=>?_|refine zi (fun h=>?_) fun h=>?_|exact .intro|refine us (hcl) ?_|fail);all_goals clear kX
        refine⟨⟨i+1,.tip (nv 13),(τ.put (nv 13) (.tip 1 139 2)).put no (cG ⟨k0,c.lists.map eh,.tip (nv 13),(c.maps.take (i+1)).map eQ,.nil,[]⟩ (.map mo) (.sl .nil []))⟩,by simp only;omega,⟨by simp only;omega,(hS.new e13 _).wr _ _,.inr ⟨nv 13,rfl,?_,bo hS.sub e13,Nat.succ_pos _⟩⟩,(Env.ab (by simp[Env.Has,Env.get,Env.aG,ba,aC,aT,aW,aM,bd,aX,aS,bA,aY])),?_⟩
        · dsimp only
          rw[au (bh hS.net e13).symm,ao,show i=0 by omega]
        · refine sub_eq ?_
          simp only[cG,hL',hL0,List.nil_append]
          rfl
      · have hto:t≠no:=fun q=>by rw[q,hS.net] at ht;cases ht
        have kt:=aD ht e13
        have knt:∀y,(τ.put t y) no=some _:=fun y=>by rw[au hto.symm];exact hnet
        rw[←hLl] at ht
        simp -dsimp (disch:=omega) only[go_sem,hnet,kn,hx,ht,kt,hrow,knt]
        (have kX:=qC @hnet @kn @hx @ht @kt @hrow @knt;repeat' first|refine zh ?_|(refine al ?_;intro b hb)|refine zy fun nu _ _=>?_|refine zc rfl (fun h=>?_) fun h=>?_|refine zi (fun h=>?_) fun h=>?_|exact .intro|refine us (hcl) ?_|fail);all_goals clear kX
        refine⟨⟨i+1,.tip t,(τ.put t (.tip (i+1) 139 2)).put no (cG ⟨k0,c.lists.map eh,.tip t,(c.maps.take (i+1)).map eQ,.nil,[]⟩ (.map mo) (.sl .nil []))⟩,by simp only;omega,⟨by simp only;omega,(hS.grow ht hts).wr _ _,.inr ⟨t,rfl,?_,hts,Nat.succ_pos _⟩⟩,(Env.ab (by simp[Env.Has,Env.get,Env.aG,ba,aC,aT,aW,aM,bd,aX,aS,bA,aY])),?_⟩
        · dsimp only
          rw[au hto,ao]
        · refine sub_eq ?_
          simp only[cG,hL',←eW,List.length_append,cb,hLl,List.length_cons,List.length_nil]
          rfl
    · have hi':i=c.maps.length:=by omega
      subst hi'
      rw[List.take_length] at hS
      clear hi hlt
      obtain⟨k1,hk1⟩:∃q,k=q:=⟨_,rfl⟩
      have hTB:yB k1 c.maps:=by
        rw[←hk1];exact hT.Cq
      rw[hk1] at hS
      clear hk1 hT
      repeat' first|refine zw ?_|refine zy fun nu _ _=>?_|refine zc rfl (fun h=>?_) fun h=>?_|refine zi (fun h=>?_) fun h=>?_|exact .intro|fail
      refine ak (fun a:C3=>[(1,.ip (aX c) 0),(3,.ptr o 0 0),(4,.ptr no 0 0),(76,.sl c.kR (aj aC c.routers)),(77,.int .i64 c.routers.length),(78,.int .i64 a.i)]) (fun a=>a.τ) (fun a=>a.i≤c.routers.length∧oF σ o no mo ⟨k0,c.lists.map eh,k1,c.maps.map eQ,a.k,(c.routers.take a.i).map cJ⟩ ((c.routers.take a.i).map (·.name)) (.sl .nil []) a.τ∧ef σ a.τ a.k a.i 66 6) (fun a=>c.routers.length-a.i) ⟨0,.nil,τ⟩ ⟨Nat.zero_le _,hS,.inl ⟨rfl,rfl⟩⟩ (Env.ab (by simp[Env.Has,Env.get,Env.aG,ba,aC,aT,aW,aM,bd,aX,aS,bA,aY])) (aa.Sub.refl _) ?_
      clear hS
      clear τ
      rintro⟨i,k,τ⟩ ⟨hi,hS,hT⟩
      simp only at hi hS hT
      by_cases hlt:i<c.routers.length
      · obtain⟨x,hx⟩:∃x,c.routers.getD i default=x:=⟨_,rfl⟩
        have hxm:x∈c.routers:=hx▸eH hlt
        have hxs:=c6 x hxm
        unfold bX.S at hxs
        have hcl:=rY x (by omega) (by omega) (by omega)
        obtain⟨L,hL⟩:∃L,(c.routers.take i).map cJ=L:=⟨_,rfl⟩
        have hL':=eA cJ hlt
        rw[hx,hL] at hL'
        have hLl:L.length=i:=by rw[←hL];simp;omega
        rw[hL] at hS
        obtain⟨N,hN⟩:∃N,(c.routers.take i).map (·.name)=N:=⟨_,rfl⟩
        have hN':=eA (·.name) hlt
        rw[hx,hN] at hN'
        have hNl:N.length=i:=by rw[←hN];simp;omega
        rw[hN] at hS
        have hnot:x.name∉N:=by
          have h1:c.routers.map (·.name)=(N++[x.name])++(c.routers.drop (i+1)).map (·.name):=by
            rw[←hN',←List.map_append,List.take_append_drop]
          rw[h1] at hun
          have h2:=(List.nodup_append.1 (List.nodup_append.1 hun).1).2.2
          intro hh
          exact h2 _ hh _ (by simp) rfl
        have hrow:aO 6 (aj aC L)=true:=cW 6 aC (fun _=>rfl) L
        have hkeys:=nJ N 0
        have hset:=sg x.name N 0 hnot
        rw[hNl,Nat.zero_add] at hset
        have hnet:=hS.net
        simp only[cG] at hnet
        (have kX:=@hx;have kS:Sa 17:=⟨⟩;repeat' ((fail_if_success refine ss kS ?_);first|refine zh ?_|(refine al ?_;intro b hb)|refine zy fun nu _ _=>?_|refine zc rfl (fun h=>?_) fun h=>?_|refine zi (fun h=>?_) fun h=>?_|exact .intro|fail));all_goals clear kX kS
        refine s1 ?_
        refine ry (id:=17) [] (cw [5] [9,13] [] [9] []) fun nv hn1 hn2=>?_
        have e13:τ (nv 9)=none:=hn1 9 (by simp)
        have kn:=aD hnet e13
        rcases hT with ⟨rfl,h0⟩|⟨t,rfl,ht,hts,hpos⟩
        · have hL0:L=[]:=List.eq_nil_of_length_eq_zero (by omega)
          have hE0:aj aC L=[]:=by rw[hL0];rfl
          rw[hE0] at hnet kn
          have km:=aD hS.map e13
          have kom:=aq hS.nm.symm
          simp -dsimp (disch:=omega) only[go_sem,hnet,kn,hx]
          (have kX:=qC @hnet @kn @km @kom @hx @hkeys @hset;repeat' first|refine zh ?_|(refine al ?_;intro b hb)|refine ry (id:=18) [] (cw [3] [7] [] [] []) fun nu _ _=>?_|refine zy fun nu _ _=>?_|refine zc rfl (fun h=>?_) fun h=>?_|refine zi (fun h=>?_) fun h=>?_|exact .intro|refine us (hcl) ?_|fail);all_goals clear kX
          refine⟨⟨i+1,.tip (nv 9),((τ.put (nv 9) (.tip 1 66 6)).put no (cG ⟨k0,c.lists.map eh,k1,c.maps.map eQ,.tip (nv 9),(c.routers.take (i+1)).map cJ⟩ (.map mo) (.sl .nil []))).put mo (.map (sh ((c.routers.take (i+1)).map (·.name)) 0))⟩,by simp only;omega,⟨by simp only;omega,((hS.new e13 _).wr _ _).at_ _,.inr ⟨nv 9,rfl,?_,bo hS.sub e13,Nat.succ_pos _⟩⟩,(Env.ab (by simp[Env.Has,Env.get,Env.aG,ba,aC,aT,aW,aM,bd,aX,aS,bA,aY])),?_⟩
          · dsimp only
            rw[au (bh hS.map e13).symm,au (bh hS.net e13).symm,ao,show i=0 by omega]
          · refine sub_eq ?_
            simp only[cG,hL',hN',hL0,List.nil_append]
            rfl
        · have hto:t≠no:=fun q=>by rw[q,hS.net] at ht;cases ht
          have htm:t≠mo:=fun q=>by rw[q,hS.map] at ht;cases ht
          have kt:=aD ht e13
          have knt:∀y,(τ.put t y) no=some _:=fun y=>by rw[au hto.symm];exact hnet
          have knm:∀y,(τ.put t y) mo=some _:=fun y=>by rw[au htm.symm];exact hS.map
          have kom:=aq hS.nm.symm
          rw[←hLl] at ht
          simp -dsimp (disch:=omega) only[go_sem,hnet,kn,hx,ht,kt,hrow,knt]
          (have kX:=sv @hnet @kn @hx @ht @kt @hrow @knt @knm @kom @hkeys @hset;repeat' first|refine zh ?_|(refine al ?_;intro b hb)|refine ry (id:=18) [] (cw [3] [7] [] [] []) fun nu _ _=>?_|refine zy fun nu _ _=>?_|refine zc rfl (fun h=>?_) fun h=>?_|refine zi (fun h=>?_) fun h=>?_|exact .intro|refine us (hcl) ?_|fail);all_goals clear kX
          refine⟨⟨i+1,.tip t,((τ.put t (.tip (i+1) 66 6)).put no (cG ⟨k0,c.lists.map eh,k1,c.maps.map eQ,.tip t,(c.routers.take (i+1)).map cJ⟩ (.map mo) (.sl .nil []))).put mo (.map (sh ((c.routers.take (i+1)).map (·.name)) 0))⟩,by simp only;omega,⟨by simp only;omega,((hS.grow ht hts).wr _ _).at_ _,.inr ⟨t,rfl,?_,hts,Nat.succ_pos _⟩⟩,(Env.ab (by simp[Env.Has,Env.get,Env.aG,ba,aC,aT,aW,aM,bd,aX,aS,bA,aY])),?_⟩
          · dsimp only
            rw[au htm,au hto,ao]
          · refine sub_eq ?_
            simp only[cG,hL',hN',←eW,List.length_append,cb,hLl,List.length_cons,List.length_nil]
            rfl
      · have hi':i=c.routers.length:=by omega
        subst hi'
        rw[List.take_length] at hS
        clear hi hlt
        obtain⟨k2,hk2⟩:∃q,k=q:=⟨_,rfl⟩
        have hTC:yB k2 c.routers:=by
          rw[←hk2];exact hT.Cq
        rw[hk2] at hS
        clear hk2 hT
        obtain⟨x,hx⟩:∃x,sY c k0 k1 k2=x:=⟨_,rfl⟩
        have hxd:(⟨k0,c.lists.map eh,k1,c.maps.map eQ,k2,c.routers.map cJ⟩:Nt)=x:=hx
        have hxn:c.routers.map (·.name)=x.rs.map (·.name):=by rw[←hx,sX]
        have hfew:x.Ck:=by rw[←hx];exact w7 c hcS _ _ _
        have hflt:iI x.lists x.maps x.rs=np c:=by rw[←hx];rfl
        rw[hxd] at hS
        have hfl:=tI x hfew no mo (.sl .nil []) τ hS.net (by rw[←hxn];exact hS.map)
        rw[hflt] at hfl
        obtain⟨F,hF⟩:∃F,np c=F:=⟨_,rfl⟩
        have fok:yC F:=by rw[←hF];exact vP _ _ _
        rw[hF] at hfl ⊢
        rcases fok with rfl|hz
        · have hrk:x.rs=c.routers.map cJ:=by rw[←hx];rfl
          have hrl:x.rs.length=c.routers.length:=by rw[hrk,List.length_map]
          have hkn:∀i,i<x.rs.length→∀y,y∈(x.rs.getD i default).nbrs→(∃q,iB y.name (x.rs.map (·.name))=some q∧q<x.rs.length)∧y.name≠(x.rs.getD i default).name:=fun i hi=>known (by rw[hflt,hF]) hi
          have hnb:∀i,i<x.rs.length→(x.rs.getD i default).nbrs.length≤12∧((x.rs.getD i default).nbrs.map (·.name)).Nodup:=by
            intro i hi
            have hmem:=eH hi
            rw[hrk] at hmem
            obtain⟨r0,h0,h1⟩:=List.mem_map.1 hmem
            have hr0:=(lB hm).routers r0 h0
            have h2:(x.rs.getD i default).nbrs=r0.nbrs:=by rw[hrk,←h1];rfl
            have h3:(r0.nbrs.map (·.name)).Nodup:=by
              have:=hr0.1
              simp only[gC,Bool.and_eq_true] at this
              exact(dW _ _ this.2.2.2.2.2.2.1).1
            refine⟨?_,by rw[h2];exact h3⟩
            have:=Co (r0.nbrs.map (·.name)) (x.rs.map (·.name)) h3 (fun s hs=>by
              obtain⟨y,hy,rfl⟩:=List.mem_map.1 hs
              obtain⟨⟨q,hq,_⟩,_⟩:=hkn i hi y (by rw[h2];exact hy)
              refine Classical.byContradiction fun hn=>?_
              rw[oY.2 hn] at hq;cases hq)
            rw[h2]
            simp only[List.length_map] at this
            omega
          rw[hxn] at hS
          have hnet:=hS.net
          simp only[cG] at hnet
          (have kX:=@hnet;repeat' first|refine zh ?_|(refine al ?_;intro b hb)|refine zy fun nu _ _=>?_|refine zc rfl (fun h=>?_) fun h=>?_|refine zi (fun h=>?_) fun h=>?_|exact .intro|refine uw (hfl) ?_|fail);all_goals clear kX
          refine ak (fun a:Dl=>[(3,.ptr o 0 0),(4,.ptr no 0 0),(114,.sl x.kR (aj aC x.rs)),(115,.int .i64 x.rs.length),(116,.int .i64 a.i)]) (fun a=>a.τ) (fun a=>a.i≤x.rs.length∧oF σ o no mo x (x.rs.map (·.name)) (.sl a.k (aj tK a.P)) a.τ∧ef σ a.τ a.k a.i 143 1∧pr x.rs a.P a.i) (fun a=>x.rs.length-a.i) ⟨0,.nil,τ,[]⟩ ⟨Nat.zero_le _,hS,.inl ⟨rfl,rfl⟩,⟨rfl,fun i hi=>absurd hi (Nat.not_lt_zero _)⟩⟩ (Env.ab (by simp[Env.Has,Env.get,Env.aG,ba,aC,aT,aW,aM,bd,aX,aS,bA,aY])) (aa.Sub.refl _) ?_
          clear hS hfl hnet
          rintro⟨i,k,τ,P⟩ ⟨hi,hS,hT,hP⟩
          simp only at hi hS hT hP
          by_cases hlt:i<x.rs.length
          · obtain⟨r,hr⟩:∃r,x.rs.getD i default=r:=⟨_,rfl⟩
            have hkr:=hkn i hlt
            have hnr:=hnb i hlt
            rw[hr] at hkr hnr
            obtain⟨l,hl⟩:∃l,fU x.rs r=l:=⟨_,rfl⟩
            have hll:l.length=r.nbrs.length:=by rw[←hl,fU,List.length_map]
            (have kX:=@hr;repeat' first|refine zh ?_|(refine al ?_;intro b hb)|refine zy fun nu _ _=>?_|refine zc rfl (fun h=>?_) fun h=>?_|refine zi (fun h=>?_) fun h=>?_|exact .intro|fail);all_goals clear kX
            refine ak (fun a:Dk=>[(3,.ptr o 0 0),(4,.ptr no 0 0),(114,.sl x.kR (aj aC x.rs)),(115,.int .i64 x.rs.length),(116,.int .i64 i),(13,.ip (aC r) 0),(14,a.v),(121,.sl r.kB (aj aT r.nbrs)),(122,.int .i64 r.nbrs.length),(123,.int .i64 a.j)]) (fun a=>a.τ) (fun a=>a.j≤r.nbrs.length∧oF σ o no mo x (x.rs.map (·.name)) (.sl k (aj tK P)) a.τ∧ef σ a.τ k i 143 1∧Ct σ a.τ o no mo a.v (l.take a.j)) (fun a=>r.nbrs.length-a.j) ⟨0,.sl .nil [],τ⟩ ⟨Nat.zero_le _,hS,hT,.inl ⟨rfl,rfl⟩⟩ (Env.ab (by simp[Env.Has,Env.get,Env.aG,ba,aC,aT,aW,aM,bd,aX,aS,bA,aY])) (aa.Sub.refl _) ?_
            clear hS hT
            rintro⟨j,v,τ⟩ ⟨hj,hS,hT,hV⟩
            simp only at hj hS hT hV
            by_cases hjl:j<r.nbrs.length
            · obtain⟨y,hy⟩:∃y,r.nbrs.getD j default=y:=⟨_,rfl⟩
              obtain⟨⟨q,hq,hql⟩,_⟩:=hkr y (hy▸eH hjl)
              obtain⟨o1,ho1⟩:∃o1,x.rs.getD q default=o1:=⟨_,rfl⟩
              have hpl:l.getD j default=⟨(q:Int)+1,!decide (o1.asn=r.asn),y.client,y.imp,y.exp⟩:=by
                rw[←hl,fU,List.getD_eq_getElem?_getD,List.getElem?_map,List.getElem?_eq_getElem hjl]
                simp only[Option.map_some,Option.getD_some]
                have:r.nbrs[j]=y:=by rw[←hy,List.getD_eq_getElem?_getD,List.getElem?_eq_getElem hjl];rfl
                rw[this,hq]
                simp only[Option.getD_some,ho1,Int.natCast_add,Int.cast_ofNat_Int]
              have htk:l.take (j+1)=l.take j++[l.getD j default]:=by
                rw[List.take_succ_eq_append_getElem (by omega)]
                simp[List.getD_eq_getElem?_getD,show j<l.length by omega]
              rw[hpl] at htk
              have hlt':(l.take j).length=j:=by rw[List.length_take];omega
              have hkeys:=nJ (x.rs.map (·.name)) 0
              have hfnd:=nK y.name (x.rs.map (·.name)) 0
              rw[hq] at hfnd
              simp only[Option.map_some,Nat.zero_add] at hfnd
              have hnet:=hS.net
              simp only[cG] at hnet
              have hmap:=hS.map
              (have kX:=@hy;have kS:Sa 30:=⟨⟩;repeat' ((fail_if_success refine ss kS ?_);first|refine zh ?_|(refine al ?_;intro b hb)|refine zy fun nu _ _=>?_|refine zc rfl (fun h=>?_) fun h=>?_|refine zi (fun h=>?_) fun h=>?_|exact .intro|fail));all_goals clear kX kS
              refine s1 ?_
              refine ry (id:=30) [] (ce [4,8,11] [15] [14] [] []) fun nv hn1 hn2=>?_
              have e14:τ (nv 14)=none:=hn1 14 (by simp)
              have kn:=aD hnet e14
              have km:=aD hmap e14
              have dn:(τ.drop (nv 14)) no=_:=(eT (bh hnet e14)).trans hnet
              have dm:(τ.drop (nv 14)) mo=_:=(eT (bh hmap e14)).trans hmap
              simp -dsimp (disch:=omega) only[go_sem,hnet,hmap,kn,km,dn,dm,hkeys,hfnd,ho1]
              (have kX:=A3 @hnet @hmap @kn @km @dn @dm @hkeys @hfnd @ho1;have kS:Sa 31:=⟨⟩;repeat' ((fail_if_success refine ss kS ?_);first|refine zh ?_|(refine al ?_;intro b hb)|refine zy fun nu _ _=>?_|refine zc rfl (fun h=>?_) fun h=>?_|refine zi (fun h=>?_) fun h=>?_|exact .intro|fail));all_goals clear kX kS
              refine ry (id:=31) [163] (cw [4,7] [22] [] [22] []) fun nv hn1 hn2=>?_
              have e22:τ (nv 22)=none:=hn1 22 (by simp)
              have kn:=aD hnet e22
              have km:=aD hmap e22
              have nno:nv 22≠no:=(bh hnet e22).symm
              have nmo:nv 22≠mo:=(bh hmap e22).symm
              have noo:nv 22≠o:=(bh hS.cell e22).symm
              have hso:σ (nv 22)=none:=bo hS.sub e22
              rcases hV with ⟨rfl,h0⟩|⟨ol,rfl,hol,hne,hos,g1,g2,g3⟩
              · have hj0:j=0:=by rw[h0] at hlt';simpa using hlt'.symm
                simp -dsimp (disch:=omega) only[go_sem,hnet,hmap,kn,km,hkeys,hfnd,hy]
                (have kX:=qC @hnet @hmap @kn @km @hkeys @hfnd @hy;repeat' first|refine zw ?_|refine zy fun nu _ _=>?_|refine zc rfl (fun h=>?_) fun h=>?_|refine zi (fun h=>?_) fun h=>?_|exact .intro|fail);all_goals clear kX
                exact⟨⟨j+1,.ms (nv 22) 5 0 1,τ.put (nv 22) (.arr 147 (aj bB (l.take (j+1))))⟩,by simp only;omega,⟨by simp only;omega,hS.new e22 _,hT.new e22 _,.inr ⟨nv 22,by dsimp only;rw[htk,h0];rfl,ao _ _ _,by dsimp only;rw[htk];simp,hso,nno,nmo,noo⟩⟩,(Env.ab (by simp[Env.Has,Env.get,Env.aG,ba,aC,aT,aW,aM,bd,aX,aS,bA,aY])),sub_eq (by dsimp only;rw[htk,h0];rfl)⟩
              · have hrow:aO 5 (aj bB (l.take j))=true:=cW 5 bB (fun _=>rfl) _
                have htt:(aj bB (l.take j)).take j=aj bB (l.take j):=List.take_of_length_le (by rw[cb,hlt'];exact Nat.le_refl _)
                have hd22:(τ.drop ol) (nv 22)=none:=vI e22
                simp -dsimp (disch:=omega) only[go_sem,hnet,hmap,kn,km,hkeys,hfnd,hy,hol,hrow,htt,hlt']
                (have kX:=sv @hnet @hmap @kn @km @hkeys @hfnd @hy @hol @hrow @htt @hlt';repeat' first|refine zw ?_|refine zy fun nu _ _=>?_|refine zc rfl (fun h=>?_) fun h=>?_|refine zi (fun h=>?_) fun h=>?_|exact .intro|fail);all_goals clear kX
                exact⟨⟨j+1,.ms (nv 22) 5 0 (j+1),(τ.drop ol).put (nv 22) (.arr 147 (aj bB (l.take (j+1))))⟩,by simp only;omega,⟨by simp only;omega,(hS.drop g1 g2 g3 hos).new hd22 _,(hT.drop hol).new hd22 _,.inr ⟨nv 22,by dsimp only;rw[htk,List.length_append,hlt'];rfl,ao _ _ _,by dsimp only;rw[htk];simp,hso,nno,nmo,noo⟩⟩,(Env.ab (by simp[Env.Has,Env.get,Env.aG,ba,aC,aT,aW,aM,bd,aX,aS,bA,aY])),sub_eq (by dsimp only;rw[htk,←eW];rfl)⟩
            · have hj':j=r.nbrs.length:=by omega
              subst hj'
              rw[List.take_of_length_le (by omega)] at hV
              have hcmp:∀a b:aU,a∈l→b∈l→Pure Tryz.prog 73 [bB a,bB b] (.int .i64 (iG a.to b.to)):=fun a b _ _=>pR a b
              have hnet:=hS.net
              simp only[cG] at hnet
              have hrowP:aO 1 (aj tK P)=true:=cW 1 tK (fun _=>rfl) P
              have hPl:=hP.len
              rcases hV with ⟨rfl,h0⟩|⟨ol,rfl,hol,hne,hos,g1,g2,g3⟩
              · have hsnoc:=hP.snoc (l:=[]) (by rw[hr,hl,h0]) .nil
                have hs0:=va 73 τ
                have hePr:tK []= .sl .nil []:=rfl
                rcases hT with ⟨rfl,i0⟩|⟨t,rfl,ht,hts,hpos⟩
                · have hP0:P=[]:=List.eq_nil_of_length_eq_zero (by omega)
                  subst hP0
                  (have kX:=@hnet;repeat' first|refine zw ?_|refine zy fun nu _ _=>?_|refine zc rfl (fun h=>?_) fun h=>?_|refine zi (fun h=>?_) fun h=>?_|exact .intro|refine uw (hs0) ?_|fail);all_goals clear kX
                  intro t ht
                  have kt:=aD hnet ht
                  simp -dsimp (disch:=omega) only[go_sem,kt]
                  (have kX:=@kt;repeat' first|refine zw ?_|refine zy fun nu _ _=>?_|refine zc rfl (fun h=>?_) fun h=>?_|refine zi (fun h=>?_) fun h=>?_|exact .intro|fail);all_goals clear kX
                  exact⟨⟨i+1,.tip t,((τ).put t (.tip 1 143 1)).put no (cG x (.map mo) (.sl (.tip t) (aj tK ([]++[([]:List aU)])))),[]++[([]:List aU)]⟩,by simp only;omega,⟨by simp only;omega,(hS.new ht _).wr _ _,.inr ⟨t,rfl,by dsimp only;rw[au (bh hS.net ht).symm,ao,show i=0 by omega],bo hS.sub ht,Nat.succ_pos _⟩,hsnoc⟩,(Env.ab (by simp[Env.Has,Env.get,Env.aG,ba,aC,aT,aW,aM,bd,aX,aS,bA,aY])),sub_eq (by simp only[cG,List.nil_append,aj,List.map_cons,List.map_nil,hePr])⟩
                · have hto:t≠no:=fun q=>by rw[q,hS.net] at ht;cases ht
                  have knt:∀y,((τ).put t y) no=some _:=fun y=>by rw[au hto.symm];exact hnet
                  have hPe:(aj tK P).length=i:=by rw[cb,hPl]
                  have ht':=ht
                  rw[←hPl] at ht
                  (have kX:=uS @hnet @ht @knt @hrowP @hPl;repeat' first|refine zw ?_|refine zy fun nu _ _=>?_|refine zc rfl (fun h=>?_) fun h=>?_|refine zi (fun h=>?_) fun h=>?_|exact .intro|refine uw (hs0) ?_|fail);all_goals clear kX
                  exact⟨⟨i+1,.tip t,((τ).put t (.tip (i+1) 143 1)).put no (cG x (.map mo) (.sl (.tip t) (aj tK (P++[([]:List aU)])))),P++[([]:List aU)]⟩,by simp only;omega,⟨by simp only;omega,(hS.grow ht' hts).wr _ _,.inr ⟨t,rfl,by dsimp only;rw[au hto,ao],hts,Nat.succ_pos _⟩,hsnoc⟩,(Env.ab (by simp[Env.Has,Env.get,Env.aG,ba,aC,aT,aW,aM,bd,aX,aS,bA,aY])),sub_eq (by simp only[cG,←eW,hePr,List.length_append,hPe,List.length_cons,List.length_nil])⟩
              · have hs1:=wz 73 l hcmp (by omega) ol τ
                rw[wN hol] at hs1
                (have kS:Sa 34:=⟨⟩;repeat' ((fail_if_success refine ss kS ?_);first|refine zw ?_|refine zy fun nu _ _=>?_|refine zc rfl (fun h=>?_) fun h=>?_|refine zi (fun h=>?_) fun h=>?_|exact .intro|fail));all_goals clear kS
                refine ck hs1 ?_
                rintro _ _ ⟨rfl,m,rfl,hpm,hso⟩
                simp -dsimp (disch:=omega) only[go_sem]
                have hml:=hpm.length_eq
                have hmne:m≠[]:=fun e=>by rw[e] at hml;exact hne (List.eq_nil_of_length_eq_zero hml.symm)
                have hsnoc:=hP.snoc (l:=m) (by rw[hr,hl];exact hpm) hso
                have hePr:tK m= .sl .bf (aj bB m):=by rw[tK,if_neg hmne]
                (have kS:Sa 34:=⟨⟩;repeat' ((fail_if_success refine ss kS ?_);first|refine zw ?_|refine zy fun nu _ _=>?_|refine zc rfl (fun h=>?_) fun h=>?_|refine zi (fun h=>?_) fun h=>?_|exact .intro|fail));all_goals clear kS
                haveI:Cv ol 5 (aj bB m) (.ms ol 5 0 l.length) (.sl .bf (aj bB m)):=⟨.inr ⟨_,by rw[cb,hml],rfl,rfl⟩⟩
                refine yi (sz:=5) (ao _ _ _) inferInstance ?_
                rw[wO]
                have hS2:=hS.drop g1 g2 g3 hos
                have hT2:=hT.drop hol
                have hnet2:=hS2.net
                simp only[cG] at hnet2
                rcases hT2 with ⟨rfl,i0⟩|⟨t,rfl,ht,hts,hpos⟩
                · have hP0:P=[]:=List.eq_nil_of_length_eq_zero (by omega)
                  subst hP0
                  (have kX:=@hnet2;repeat' first|refine zw ?_|refine zy fun nu _ _=>?_|refine zc rfl (fun h=>?_) fun h=>?_|refine zi (fun h=>?_) fun h=>?_|exact .intro|fail);all_goals clear kX
                  intro t ht
                  have kt:=aD hnet2 ht
                  simp -dsimp (disch:=omega) only[go_sem,kt]
                  (have kX:=@kt;repeat' first|refine zw ?_|refine zy fun nu _ _=>?_|refine zc rfl (fun h=>?_) fun h=>?_|refine zi (fun h=>?_) fun h=>?_|exact .intro|fail);all_goals clear kX
                  exact⟨⟨i+1,.tip t,((τ.drop ol).put t (.tip 1 143 1)).put no (cG x (.map mo) (.sl (.tip t) (aj tK ([]++[m])))),[]++[m]⟩,by simp only;omega,⟨by simp only;omega,(hS2.new ht _).wr _ _,.inr ⟨t,rfl,by dsimp only;rw[au (bh hS2.net ht).symm,ao,show i=0 by omega],bo hS2.sub ht,Nat.succ_pos _⟩,hsnoc⟩,(Env.ab (by simp[Env.Has,Env.get,Env.aG,ba,aC,aT,aW,aM,bd,aX,aS,bA,aY])),sub_eq (by simp only[cG,List.nil_append,aj,List.map_cons,List.map_nil,hePr])⟩
                · have hto:t≠no:=fun q=>by rw[q,hS2.net] at ht;cases ht
                  have knt:∀y,((τ.drop ol).put t y) no=some _:=fun y=>by rw[au hto.symm];exact hnet2
                  have hPe:(aj tK P).length=i:=by rw[cb,hPl]
                  have ht':=ht
                  rw[←hPl] at ht
                  (have kX:=uS @hnet2 @ht @knt @hrowP @hPl;repeat' first|refine zw ?_|refine zy fun nu _ _=>?_|refine zc rfl (fun h=>?_) fun h=>?_|refine zi (fun h=>?_) fun h=>?_|exact .intro|fail);all_goals clear kX
                  exact⟨⟨i+1,.tip t,((τ.drop ol).put t (.tip (i+1) 143 1)).put no (cG x (.map mo) (.sl (.tip t) (aj tK (P++[m])))),P++[m]⟩,by simp only;omega,⟨by simp only;omega,(hS2.grow ht' hts).wr _ _,.inr ⟨t,rfl,by dsimp only;rw[au hto,ao],hts,Nat.succ_pos _⟩,hsnoc⟩,(Env.ab (by simp[Env.Has,Env.get,Env.aG,ba,aC,aT,aW,aM,bd,aX,aS,bA,aY])),sub_eq (by simp only[cG,←eW,hePr,List.length_append,hPe,List.length_cons,List.length_nil])⟩
          · have hi':i=x.rs.length:=by omega
            subst hi'
            have hTD:yB k c.routers:=by
              rw[hrl] at hT
              exact hT.Cq
            have hnet:=hS.net
            simp only[cG] at hnet
            have hcl:=hS.cell
            simp only[nk,fM] at hcl
            have hno':=hS.no'
            (have kS:Sa 36:=⟨⟩;repeat' ((fail_if_success refine ss kS ?_);first|refine zw ?_|refine zy fun nu _ _=>?_|refine zc rfl (fun h=>?_) fun h=>?_|refine zi (fun h=>?_) fun h=>?_|exact .intro|fail));all_goals clear kS
            refine yk hnet ?_
            have hcd:(τ.drop no) o=some _:=(eT hno'.symm).trans hcl
            (have kX:=@hcd;repeat' first|refine zw ?_|refine zy fun nu _ _=>?_|refine zc rfl (fun h=>?_) fun h=>?_|refine zi (fun h=>?_) fun h=>?_|exact .intro|fail);all_goals clear kX
            subst hx
            exact⟨_,aa.Sub.refl _,ax (lf hS.sub hS.fn) hS.fo,.inr (.inr ⟨k0,k1,k2,k,P,mo,hTA,hTB,hTC,hTD,by rw[hrl] at hP;exact hP,rfl,by rw[au hS.mo',eT hS.nm.symm,hxn];exact hS.map,hS.fm⟩)⟩
        · have hcl:=hS.cell
          simp only[nk,fM] at hcl
          (have kX:=@hcl;repeat' first|refine zh ?_|(refine al ?_;intro b hb)|refine ry (id:=22) [] (cw [] [2] [] [] []) fun nu _ _=>?_|refine zy fun nu _ _=>?_|refine zc rfl (fun h=>?_) fun h=>?_|refine zi (fun h=>?_) fun h=>?_|exact .intro|refine uw (hfl) ?_|fail);all_goals clear kX
          exact⟨_,aa.Sub.refl _,ax hS.sub hS.fo,.inr (.inl hz)⟩
end Go.Proofs.YtgfjihpbphplhaaGreat

namespace Go.Proofs.YtgfjihpbphplhaaGreat
open Go.Kern Go.RowKit
theorem wc {x y:AV} {xs ys:List AV} (h:cH x y) (h2:bV xs ys):bV (x::xs) (y::ys):=⟨h,h2⟩
theorem wn:bV [] []:=trivial
theorem me {α:Type} {k:SK} {l:List α} {xs:List AV} (h:yB k l) (hx:l=[]→xs=[]):cH (.sl k xs) (.sl (Ax l) xs):=by
 rcases h with ⟨rfl,h⟩|⟨h1,h2⟩
 ·rw[Ax,if_pos h];exact cH.refl _
 ·rw[Ax,if_neg h2];exact cH.bf h1
def yI (l:List aU):List aU:=l.mergeSort fun a b=>decide (a.to≤b.to)
theorem oH (l:List aU):(yI l).Perm l:=List.mergeSort_perm _ _
theorem wx (l:List aU):(yI l).Pairwise fun a b=>a.to≤b.to:=by
 have:=List.pairwise_mergeSort (le:=fun a b:aU=>decide (a.to≤b.to)) (fun a b c h1 h2=>by simp only[decide_eq_true_eq] at*;omega) (fun a b=>by simp only[Bool.or_eq_true,decide_eq_true_eq];omega) l
 exact this.imp fun h=>by simpa using h
theorem yH {l m:List aU} (hd:∀a b,a∈l→b∈l→a.to=b.to→a=b) (hp:m.Perm l) (hs:m.Pairwise fun a b=>a.to≤b.to):m=yI l:=
 List.Perm.eq_of_pairwise (le:=fun a b=>a.to≤b.to) (fun a b h1 h2 h3 h4=>hd a b (hp.mem_iff.1 h1) ((oH l).mem_iff.1 h2) (by omega)) hs (wx l) (hp.trans (oH l).symm)
theorem xm {s t:ByteArray} {l:List ByteArray} {i:Nat} (h:iB s l=some i) (k:iB t l=some i):s=t:=(di h).2.symm.trans (di k).2
theorem oS {α β:Type} (f:α→β):∀{l:List α},(l.map f).Nodup→∀{a b},a∈l→b∈l→f a=f b→a=b
  | [],_,a,b,ha,_,_=>by cases ha
  | x::l,hn,a,b,ha,hb,h=>by
    rw[List.map_cons,List.nodup_cons] at hn
    have hno:∀y,y∈l→f y≠f x:=fun y hy e=>hn.1 (List.mem_map.2 ⟨y,hy,e⟩)
    by_cases h1:a=x
    · by_cases h2:b=x
      · rw[h1,h2]
      · rcases List.mem_cons.1 hb with q|q
        · exact absurd q h2
        · exact absurd (by rw[←h,h1]) (hno b q)
    · rcases List.mem_cons.1 ha with q|q
      · exact absurd q h1
      · by_cases h2:b=x
        · exact absurd (by rw[h,h2]) (hno a q)
        · rcases List.mem_cons.1 hb with q2|q2
          · exact absurd q2 h2
          · exact oS f hn.2 q q2 h
def n4 (c:fN):List bX:=c.routers.map cJ
theorem gD (c:fN):(n4 c).length=c.routers.length:=by simp[n4]
theorem lp {c:fN} {i:Nat} (h:i<c.routers.length):(n4 c).getD i default=cJ (c.routers.getD i default):=by
 simp[n4,List.getD_eq_getElem?_getD,h]
def vo (c:fN):List (List aU):=(n4 c).map fun r=>yI (fU (n4 c) r)
theorem vp {c:fN} (hm:cL c=true) {r:bX} (hr:r∈c.routers):(r.nbrs.map (·.name)).Nodup:=by
 have:=((lB hm).routers r hr).1
 simp only[gC,Bool.and_eq_true] at this
 exact(dW _ _ this.2.2.2.2.2.2.1).1
theorem re {c:fN} (hm:cL c=true) (hF:np c=bl) {i:Nat} (hi:i<c.routers.length):∀a b,a∈fU (n4 c) ((n4 c).getD i default)→b∈fU (n4 c) ((n4 c).getD i default)→a.to=b.to→a=b:=by
 intro a b ha hb h
 have hk:=known (lists:=c.lists.map eh) (maps:=c.maps.map eQ) (rs:=n4 c) hF (i:=i) (by rw[gD];exact hi)
 obtain⟨x,hx,rfl⟩:=List.mem_map.1 ha
 obtain⟨y,hy,rfl⟩:=List.mem_map.1 hb
 obtain⟨⟨q,hq,_⟩,_⟩:=hk x hx
 obtain⟨⟨q',hq',_⟩,_⟩:=hk y hy
 rw[hq,hq'] at h
 simp only[Option.getD_some] at h
 have e:q=q':=by omega
 subst e
 have hn:=vp hm (r:=c.routers.getD i default) (eH hi)
 rw[lp hi] at hx hy
 have:x=y:=oS (·.name) hn hx hy (xm hq hq')
 rw[this]
theorem Aq {c:fN} (hm:cL c=true) (hF:np c=bl) {P:List (List aU)} (hP:pr (n4 c) P c.routers.length):P=vo c:=by
 apply List.ext_getElem
 ·rw[hP.len,vo,List.length_map,gD]
 ·intro i h1 h2
  have hi:i<c.routers.length:=by rw[←hP.len];exact h1
  have hi':i<(n4 c).length:=by rw[gD];exact hi
  obtain⟨g1,g2⟩:=hP.at_ i hi
  have:=yH (re hm hF hi) g1 g2
  rw[List.getD_eq_getElem?_getD,List.getElem?_eq_getElem h1] at this
  simp only[Option.getD_some] at this
  rw[this]
  simp[vo,List.getD_eq_getElem?_getD,hi']
def fL (c:fN) (at_:AV):AV:= .agg [.sl (Ax c.lists) (aj bd (c.lists.map eh)),.sl (Ax c.maps) (aj ba (c.maps.map eQ)),.sl (Ax c.routers) (aj aC (n4 c)),at_,.sl (Ax c.routers) (aj tK (vo c))]
def jk (c:fN):Prop:=cL c=true∧np c=bl
instance :DecidableEq l5:=fun a b=>by
 cases a;cases b
 simp only[l5.mk.injEq]
 infer_instance
instance (c:fN):Decidable (jk c):=inferInstanceAs (Decidable (_∧_))
def oU (c:fN):AV:=if jk c then .bK [.ip (fL c .any) 0,fM bl] else .bK [.nilp,fM (if cL c=true then np c else⟨⟨#[]⟩,⟨#[]⟩,1⟩)]
theorem lC (c:fN) (hc:c.S) (hf:c.Fits):Pure Tryz.prog 22 [aX c] (oU c):=fun σ=>by
 refine jS (tc c hc hf σ) ?_
 rintro r t ⟨hs,h⟩
 unfold oU
 rcases h with ⟨h1,rfl⟩|⟨h1,h2,rfl⟩|⟨h1,h2,kL,kM,kR,kP,P,mo,g1,g2,g3,g4,g5,rfl,_⟩
 ·rw[if_neg (fun h=>by rw[h.1] at h1;cases h1),if_neg (by rw[h1];simp)]
  exact⟨_,cH.refl _,σ,hs,rfl,rfl⟩
 ·rw[if_neg (fun h=>by rw[h.2] at h2;exact h2 rfl),if_pos h1]
  exact⟨_,cH.refl _,σ,hs,rfl,rfl⟩
 ·rw[if_pos ⟨h1,h2⟩]
  have hP:P=vo c:=Aq h1 h2 g5
  subst hP
  exact⟨_,cH.bK (wc (cH.ip (wc (me g1 (fun e=>by rw[e];rfl)) (wc (me g2 (fun e=>by rw[e];rfl)) (wc (me g3 (fun e=>by rw[e];rfl)) (wc (cH.any _) (wc (me g4 (fun e=>by rw[vo,n4,e];rfl)) wn))))) 0) (wc (cH.refl _) wn)),σ,hs,rfl,rfl⟩
set_option maxRecDepth 100000
set_option maxHeartbeats 4000000
attribute [local irreducible] af W
attribute [local go_sem] fL
theorem lR (c:fN) (a:AV):Pure Tryz.prog 82 [.ip (fL c a) 0] (.int .i64 c.routers.length):=by
 intro σ
 have hl:=gD c
 refine ah [.tmp 2] 11 Tryz.func82 (by rfl) rfl rfl rfl rfl ?_
 (have kX:=@hl;repeat' first|refine zw ?_|refine zy fun nu _ _=>?_|refine zc rfl (fun h=>?_) fun h=>?_|refine zi (fun h=>?_) fun h=>?_|exact .intro|fail);all_goals clear kX
theorem jv (c:fN) (a:AV) (i:Int):Pure Tryz.prog 75 [.ip (fL c a) 0,.int .i64 i] (.bool (decide (1≤i)&&decide (i≤c.routers.length))):=by
 intro σ
 have h:=lR c a
 unfold fL at h
 by_cases h1:1≤i
 ·skip
  refine ah [.tmp 4] 13 Tryz.func75 (by rfl) rfl rfl rfl rfl ?_
  (have kX:=@h1;repeat' first|refine zw ?_|refine zy fun nu _ _=>?_|refine zc rfl (fun h=>?_) fun h=>?_|refine zi (fun h=>?_) fun h=>?_|exact .intro|refine us (h) ?_|fail);all_goals clear kX
 ·skip
  refine ah [.tmp 4] 13 Tryz.func75 (by rfl) rfl rfl rfl rfl ?_
  (have kX:=@h1;repeat' first|refine zw ?_|refine zy fun nu _ _=>?_|refine zc rfl (fun h=>?_) fun h=>?_|refine zi (fun h=>?_) fun h=>?_|exact .intro|refine us (h) ?_|fail);all_goals clear kX
def m7 (c:fN) (i k:Int):Option gB:=if 1≤i∧i≤c.routers.length∧1≤k∧k≤c.routers.length then fz (c.routers.getD (i-1).toNat default) (c.routers.getD (k-1).toNat default).name else none
def xh (o:Option gB):AV:= .bK [.int .i64 (o.getD w4).cost,.bool o.isSome]
theorem ko (c:fN) (hc:c.S) (a:AV) (i k:Int):Pure Tryz.prog 23 [.ip (fL c a) 0,.int .i64 i,.int .i64 k] (xh (m7 c i k)):=by
 intro σ
 have h1:=jv c a i
 have h2:=jv c a k
 by_cases hi:1≤i∧i≤c.routers.length
 ·by_cases hk:1≤k∧k≤c.routers.length
  ·rw[decide_eq_true hi.1,decide_eq_true hi.2] at h1
   rw[decide_eq_true hk.1,decide_eq_true hk.2] at h2
   obtain⟨n,hn⟩:∃n:Nat,(i-1).toNat=n:=⟨_,rfl⟩
   obtain⟨m,hm⟩:∃n:Nat,(k-1).toNat=n:=⟨_,rfl⟩
   have e1:(n4 c).getD n default=cJ (c.routers.getD n default):=lp (by omega)
   have e2:(n4 c).getD m default=cJ (c.routers.getD m default):=lp (by omega)
   obtain⟨r,hr⟩:∃r,c.routers.getD n default=r:=⟨_,rfl⟩
   obtain⟨q,hq⟩:∃r,c.routers.getD m default=r:=⟨_,rfl⟩
   have hrm:r∈c.routers:=hr▸eH (by omega)
   have hL:=(hc.routers r hrm).2.2.2
   have hl:=oV (cJ r) q.name (by show r.links.length<_;omega)
   have hz:m7 c i k=fz (cJ r) q.name:=by rw[m7,if_pos ⟨hi.1,hi.2,hk.1,hk.2⟩,hn,hm,hr,hq];rfl
   rw[hz]
   have hln:=gD c
   rw[hr] at e1
   rw[hq] at e2
   have hqn:(cJ q).name=q.name:=rfl
   have h12:=hc.len.2.2
   have hb1:((n:Nat):Int)=i-1:=by omega
   have hb2:((m:Nat):Int)=k-1:=by omega
   unfold fL at h1 h2
   unfold qi at hl
   obtain⟨z,hzz⟩:∃z,(fz (cJ r) q.name).getD w4=z:=⟨_,rfl⟩
   obtain⟨b,hb⟩:∃z,(fz (cJ r) q.name).isSome=z:=⟨_,rfl⟩
   rw[xh,hzz,hb]
   rw[hzz,hb] at hl
   refine ah [.tmp 6,.tmp 7] 46 Tryz.func23 (by rfl) rfl rfl rfl rfl ?_
   (have kS:Sa 3:=⟨⟩;repeat' ((fail_if_success refine ss kS ?_);first|refine zw ?_|refine zy fun nu _ _=>?_|refine zc rfl (fun h=>?_) fun h=>?_|refine zi (fun h=>?_) fun h=>?_|exact .intro|refine us (h1) ?_|refine us (h2) ?_|fail));all_goals clear kS
   refine s1 ?_
   refine ry (id:=3) [] (cw [] [24] [23] [] []) fun nv hn1 hn2=>?_
   have e23:σ (nv 23)=none:=hn1 23 (by simp)
   simp -dsimp (disch:=omega) only[go_sem,hln,hn,hm,e1,e2,hqn]
   (have kX:=Dc @hln @hn @hm @e1 @e2 @hqn;repeat' first|refine zh ?_|(refine al ?_;intro b hb)|refine zy fun nu _ _=>?_|refine zc rfl (fun h=>?_) fun h=>?_|refine zi (fun h=>?_) fun h=>?_|exact .intro|refine us (hl) ?_|fail);all_goals clear kX
  ·have hz:m7 c i k=none:=by rw[m7,if_neg (fun h=>hk h.2.2)]
   have hb:(decide (1≤k)&&decide (k≤(c.routers.length:Int)))=false:=by
    cases q:(decide (1≤k)&&decide (k≤(c.routers.length:Int))) with
    |false=>rfl
    |true=>simp only[Bool.and_eq_true,decide_eq_true_eq] at q;exact absurd q hk
   rw[hz]
   rw[hb] at h2
   rw[decide_eq_true hi.1,decide_eq_true hi.2] at h1
   unfold fL at h1 h2
   refine ah [.tmp 6,.tmp 7] 46 Tryz.func23 (by rfl) rfl rfl rfl rfl ?_
   repeat' first|refine zw ?_|refine zy fun nu _ _=>?_|refine zc rfl (fun h=>?_) fun h=>?_|refine zi (fun h=>?_) fun h=>?_|exact .intro|refine us (h1) ?_|refine us (h2) ?_|fail
   rfl
 ·have hz:m7 c i k=none:=by rw[m7,if_neg (fun h=>hi ⟨h.1,h.2.1⟩)]
  have hb:(decide (1≤i)&&decide (i≤(c.routers.length:Int)))=false:=by
   cases q:(decide (1≤i)&&decide (i≤(c.routers.length:Int))) with
   |false=>rfl
   |true=>simp only[Bool.and_eq_true,decide_eq_true_eq] at q;exact absurd q hi
  rw[hz]
  rw[hb] at h1
  unfold fL at h1
  refine ah [.tmp 6,.tmp 7] 46 Tryz.func23 (by rfl) rfl rfl rfl rfl ?_
  repeat' first|refine zw ?_|refine zy fun nu _ _=>?_|refine zc rfl (fun h=>?_) fun h=>?_|refine zi (fun h=>?_) fun h=>?_|exact .intro|refine us (h1) ?_|fail
  rfl
end Go.Proofs.YtgfjihpbphplhaaGreat

namespace Go.Proofs.YtgfjihpbphplhaaGreat
open Go.Kern
theorem vt {lists:List cC} {maps:List bS} {rs:List bX} (h:iI lists maps rs=bl) {i:Nat} (hi:i<rs.length):∀x,x∈(rs.getD i default).links→dH rs (rs.getD i default) x=bl:=by
 intro x hx
 have h1:dt maps rs i=bl:=eJ (fun f hf=>by
  rcases List.mem_append.1 hf with hf|hf
  ·obtain⟨c,_,rfl⟩:=List.mem_map.1 hf;exact iW _ _
  ·obtain⟨c,_,rfl⟩:=List.mem_map.1 hf;exact iS _ _ _) h _ (List.mem_append_right _ (List.mem_map.2 ⟨i,by simpa using hi,rfl⟩))
 unfold dt at h1
 simp only at h1
 split at h1
 ·have:=congrArg l5.e h1;cases this
 ·exact eJ (fun f hf=>by
   rcases List.mem_append.1 hf with hf|hf
   ·obtain⟨c,_,rfl⟩:=List.mem_map.1 hf;exact iV _ _ _ _
   ·obtain⟨c,_,rfl⟩:=List.mem_map.1 hf;exact iX _ _ _) h1 _ (List.mem_append_right _ (List.mem_map.2 ⟨x,hx,rfl⟩))
theorem rE {rs:List bX} {r:bX} {x:gB} (h:dH rs r x=bl):∃q,iB x.name (rs.map (·.name))=some q∧x.name≠r.name∧∃y,fz (rs.getD q default) r.name=some y∧y.cost=x.cost:=by
 have hE:xg rs r x=0:=by
  unfold dH at h
  split at h
  ·rename_i q;have:=congrArg l5.e h;exact absurd this q
  ·rename_i q;exact Classical.byContradiction fun hn=>q hn
 unfold xg at hE
 split at hE
 ·rename_i q;exact absurd hE q
 ·rename_i q
  unfold bZ at q hE
  split at hE
  ·rename_i hj
   rw[hj] at q
   simp at q
  ·rename_i j hj
   rw[hj] at q
   simp only at q
   by_cases hn:x.name=r.name
   ·rw[if_pos hn] at q
    simp at q
   ·rw[if_neg hn] at hE
    refine⟨j,hj,hn,?_⟩
    split at hE
    ·cases hE
    ·split at hE
     ·cases hE
     ·rename_i y hy
      split at hE
      ·rename_i hc;exact⟨y,hy,hc⟩
      ·cases hE
theorem mJ {c:fN} (h:jk c):Sound c.routers:=by
 obtain⟨hm,hF⟩:=h
 have hmm:=hm
 simp only[cL,Bool.and_eq_true] at hmm
 refine⟨(dW _ _ hmm.2.2.2.2.2).1,fun r hr x hx=>?_,fun r hr x hx=>?_⟩
 ·obtain⟨i,hi,rfl⟩:=List.getElem_of_mem hr
  have e:c.routers.getD i default=c.routers[i]:=by simp[List.getD_eq_getElem?_getD,hi]
  have h1:=vt (lists:=c.lists.map eh) (maps:=c.maps.map eQ) (rs:=n4 c) hF (i:=i) (by rw[gD];exact hi) x (by rw[lp hi,e];exact hx)
  rw[lp hi,e] at h1
  obtain⟨q,h2,h3,y,h4,h5⟩:=rE h1
  have hq:=(di h2).1
  rw[List.length_map,gD] at hq
  have h6:=(di h2).2
  rw[lp hq] at h4
  refine⟨c.routers.getD q default,eH hq,?_,?_,y,h4,h5⟩
  ·rw[←h6];simp[n4,List.getD_eq_getElem?_getD,hq,cJ]
  ·intro e2
   apply h3
   rw[←h6]
   have:((n4 c).map (·.name)).getD q ⟨#[]⟩=(c.routers.getD q default).name:=by simp[n4,List.getD_eq_getElem?_getD,hq,cJ]
   rw[this,e2];rfl
 ·have:=((lB hm).routers r hr).1
  simp only[gC,Bool.and_eq_true,lJ] at this
  have h2:=this.2.2.2.2.2.1.2 x hx
  rw[m8,within_iff] at h2
  exact h2
end Go.Proofs.YtgfjihpbphplhaaGreat

namespace Go.Proofs.YtgfjihpbphplhaaGreat
open Go.Kern Go.RowKit
set_option maxRecDepth 100000
set_option maxHeartbeats 4000000
attribute [local irreducible] af W
structure GB (rs:List bX) (σ:aa) (g m:Nat) (i k:Nat) (L:List bq) (s:aa):Prop where
 gs:GS σ g m L s
 node:∀x,x∈L→∃u:Nat,x.a=u∧1≤u∧u≤rs.length
 to:∀x,x∈L→∀p:Int,p∈x.es.map (·.1)→∃b:Nat,p=(b:Int)∧1≤b∧b≤rs.length
 edge:∀u b:Nat,da L (u:Int) (b:Int)=if u≤i∨(u=i+1∧b≤k) then(jr rs u b).map (fun c=>(c:Int)) else none
 all:∀u:Nat,1≤u→u≤i→(bc L (u:Int)).isSome=true
theorem GB.len {rs:List bX} {σ:aa} {g m i k:Nat} {L:List bq} {s:aa} (H:GB rs σ g m i k L s):L.length≤rs.length:=by
 have h1:(L.map (·.a)).Nodup:=List.pairwise_map.2 (H.gs.ad.imp fun h=>h)
 have:=mf h1 (n:=rs.length) (fun x hx=>by
  obtain⟨y,hy,rfl⟩:=List.mem_map.1 hx
  exact H.node y hy)
 simpa using this
theorem GB.C8 {rs:List bX} {σ:aa} {g m i k:Nat} {L:List bq} {s:aa} (H:GB rs σ g m i k L s):∀x,x∈L→x.es.length≤rs.length:=fun x hx=>by
 have:=mf (H.gs.sm x hx).1.2.1 (n:=rs.length) (H.to x hx)
 simpa using this
theorem mw {rs:List bX} {u b:Nat} {p q:Prop} [Decidable p] [Decidable q] (h:(1≤u∧u≤rs.length)→(1≤b∧b≤rs.length)→(p↔q)):(if p then(jr rs u b).map (fun c=>(c:Int)) else none)=if q then(jr rs u b).map (fun c=>(c:Int)) else none:=by
  cases hw:jr rs u b with
  |none=>simp
  | some z=>
    obtain⟨h1,h2⟩:=px hw
    by_cases hp:p
    · rw[if_pos hp,if_pos ((h h1 h2).1 hp)]
    · rw[if_neg hp,if_neg (fun e=>hp ((h h1 h2).2 e))]
theorem GB.B1 {rs:List bX} {σ:aa} {g m i:Nat} {L L':List bq} {s t:aa} (H:GB rs σ g m i 0 L s) (hi:i<rs.length) (H':GS σ g m L' t) (he:∀u v,da L' u v=da L u v) (hn:∀u,(bc L' u).isSome=((bc L u).isSome||decide (u=(i:Int)+1))) (hq:∀x,x∈L'→x∈L∨(x.a=(i:Int)+1∧x.es=[])):GB rs σ g m i 0 L' t:=
 ⟨H',fun x hx=>by
  rcases hq x hx with h|h
  ·exact H.node x h
  ·exact⟨i+1,by rw[h.1];omega,by omega,by omega⟩,fun x hx p hp=>by
  rcases hq x hx with h|h
  ·exact H.to x h p hp
  ·rw[h.2] at hp;simp at hp,fun u b=>by rw[he];exact H.edge u b,fun u h1 h2=>by rw[hn,H.all u h1 h2];rfl⟩
theorem GB.skip {rs:List bX} {σ:aa} {g m i k:Nat} {L:List bq} {s:aa} (H:GB rs σ g m i k L s) (hw:jr rs (i+1) (k+1)=none):GB rs σ g m i (k+1) L s:=
 ⟨H.gs,H.node,H.to,fun u b=>by
  rw[H.edge]
  by_cases e:u=i+1∧b=k+1
  ·rw[e.1,e.2,hw];simp
  ·exact mw fun _ _=>by omega,H.all⟩
theorem GB.CP {rs:List bX} {σ:aa} {g m i k z:Nat} {L L':List bq} {s t:aa} (H:GB rs σ g m i k L s) (hi:i<rs.length) (hk:k<rs.length) (hw:jr rs (i+1) (k+1)=some z) (H':GS σ g m L' t) (he:∀u v,da L' u v=if u=(i:Int)+1∧v=(k:Int)+1 then some (z:Int) else da L u v)
  (hn:∀u,(bc L' u).isSome=((bc L u).isSome||decide (u=(i:Int)+1)||decide (u=(k:Int)+1)))
  (hq:∀x,x∈L'→(∃y,y∈L∧x.a=y.a∧∀p,p∈x.es.map (·.1)→p∈y.es.map (·.1)∨p=(k:Int)+1)∨((x.a=(i:Int)+1∨x.a=(k:Int)+1)∧∀p,p∈x.es.map (·.1)→p=(k:Int)+1)):GB rs σ g m i (k+1) L' t:=
 ⟨H',fun x hx=>by
  rcases hq x hx with ⟨y,hy,e,_⟩|⟨h|h,_⟩
  ·rw[e];exact H.node y hy
  ·exact⟨i+1,by rw[h];omega,by omega,by omega⟩
  ·exact⟨k+1,by rw[h];omega,by omega,by omega⟩,fun x hx p hp=>by
  rcases hq x hx with ⟨y,hy,_,h⟩|⟨_,h⟩
  ·rcases h p hp with h|h
   ·exact H.to y hy p h
   ·exact⟨k+1,by rw[h];omega,by omega,by omega⟩
  ·exact⟨k+1,by rw[h p hp];omega,by omega,by omega⟩,fun u b=>by
  rw[he,H.edge]
  by_cases e:u=i+1∧b=k+1
  ·rw[if_pos (by omega),if_pos (by omega),e.1,e.2,hw];rfl
  ·rw[if_neg (by omega)]
   exact mw fun _ _=>by omega,fun u h1 h2=>by rw[hn,H.all u h1 h2];rfl⟩
theorem GB.row {rs:List bX} {σ:aa} {g m i:Nat} {L:List bq} {s:aa} (H:GB rs σ g m i rs.length L s) (hs:(bc L ((i:Int)+1)).isSome=true):GB rs σ g m (i+1) 0 L s:=
 ⟨H.gs,H.node,H.to,fun u b=>by
  rw[H.edge]
  exact mw fun _ _=>by omega,fun u h1 h2=>by
  by_cases e:u=i+1
  ·rw[e];exact hs
  ·exact H.all u h1 (by omega)⟩
structure Gm where
 i:Nat
 L:List bq
 s:aa
theorem xe {c:fN} (hs:Sound c.routers) {u b:Nat} (hu:1≤u∧u≤c.routers.length) (hb:1≤b∧b≤c.routers.length):(m7 c (u:Int) (b:Int)=none∧jr c.routers u b=none)∨∃l:gB,∃z:Nat,m7 c (u:Int) (b:Int)=some l∧jr c.routers u b=some z∧l.cost=(z:Int)∧z≤65536:=by
  have e1:((u:Int)-1).toNat=u-1:=by omega
  have e2:((b:Int)-1).toNat=b-1:=by omega
  have hz:m7 c (u:Int) (b:Int)=fz (c.routers.getD (u-1) default) (c.routers.getD (b-1) default).name:=by
    rw[m7,if_pos (by omega),e1,e2]
  have hw:jr c.routers u b=(fz (c.routers.getD (u-1) default) (c.routers.getD (b-1) default).name).map fun l=>l.cost.toNat:=by
    rw[jr,if_pos (by omega)]
  cases hl:fz (c.routers.getD (u-1) default) (c.routers.getD (b-1) default).name with
  |none=>rw[hl] at hz hw;exact .inl ⟨hz,hw⟩
  | some l=>
    rw[hl] at hz hw
    have hm:l∈(c.routers.getD (u-1) default).links:=List.mem_of_find?_eq_some hl
    have:=hs.cost _ (at_mem hu.1 hu.2) l hm
    exact .inr ⟨l,l.cost.toNat,hz,hw,by omega,by omega⟩
section
variable {c:fN} {σ:aa} {a:AV}
theorem kH (hc:c.S) (hs:Sound c.routers) (hn:c.routers.length<100):af Tryz.prog 28 [.ip (fL c a) 0] σ (fun r t=>∃g m L,r=ma (jr c.routers) c.routers.length g∧GS σ g m L t∧GW (jr c.routers) c.routers.length L):=by
 obtain⟨rs,hrs⟩:∃rs,rs=c.routers:=⟨_,rfl⟩
 have hln:=lR c a
 rw[←hrs] at hn hs hln ⊢
 refine ai [.tmp 2] 48 Tryz.func28 (by rfl) rfl rfl rfl rfl ?_
 repeat' first|refine zw ?_|refine zy fun nu _ _=>?_|refine zc rfl (fun h=>?_) fun h=>?_|refine zi (fun h=>?_) fun h=>?_|exact .intro|fail
 refine aK (oz σ) ?_
 rintro _ t0 ⟨g,m,rfl,H0⟩
 simp -dsimp (disch:=omega) only[go_sem]
 repeat' first|refine zw ?_|refine zy fun nu _ _=>?_|refine zc rfl (fun h=>?_) fun h=>?_|refine zi (fun h=>?_) fun h=>?_|exact .intro|refine us (hln) ?_|fail
 refine ak (fun q:Gm=>[(0,.ip (fL c a) 0),(3,.ptr g 0 0),(12,.int .i64 rs.length),(13,.int .i64 q.i)]) (fun q=>q.s) (fun q=>q.i≤rs.length∧GB rs σ g m q.i 0 q.L q.s) (fun q=>rs.length-q.i) ⟨0,[],t0⟩ ⟨Nat.zero_le _,H0,nofun,nofun,fun u b=>?_,fun u h1 h2=>by simp only at h2;omega⟩ (Env.ab (by simp[Env.Has,Env.get])) (aa.Sub.refl _) ?_
 ·simp only
  split
  ·rename_i h
   have:jr rs u b=none:=by rw[jr,if_neg (by omega)]
   rw[this];rfl
  ·rfl
 rintro⟨i,L,s⟩ ⟨hi,H⟩
 simp only at hi H
 by_cases hlt:i<rs.length
 ·have hlen:=H.len
  (have kS:Sa 7:=⟨⟩;repeat' ((fail_if_success refine ss kS ?_);first|refine zw ?_|refine zy fun nu _ _=>?_|refine zc rfl (fun h=>?_) fun h=>?_|refine zi (fun h=>?_) fun h=>?_|exact .intro|fail));all_goals clear kS
  refine s1 ?_
  repeat' first|refine zw ?_|refine zy fun nu _ _=>?_|refine zc rfl (fun h=>?_) fun h=>?_|refine zi (fun h=>?_) fun h=>?_|exact .intro|fail
  refine ck (lz H.gs (by omega) ((i:Int)+1) (by omega)) ?_
  rintro _ t1 ⟨b1,L1,rfl,H1,l1,g1,n1,q1⟩
  have HB:=H.B1 hlt H1 g1 n1 q1
  have hsm:(bc L1 ((i:Int)+1)).isSome=true:=by rw[n1];simp
  simp -dsimp (disch:=omega) only[go_sem]
  repeat' first|refine zw ?_|refine zy fun nu _ _=>?_|refine zc rfl (fun h=>?_) fun h=>?_|refine zi (fun h=>?_) fun h=>?_|exact .intro|refine us (hln) ?_|fail
  refine ak (fun q:Gm=>[(0,.ip (fL c a) 0),(3,.ptr g 0 0),(12,.int .i64 rs.length),(13,.int .i64 i),(4,.int .i64 i),(21,.int .i64 rs.length),(22,.int .i64 q.i)]) (fun q=>q.s) (fun q=>q.i≤rs.length∧GB rs σ g m i q.i q.L q.s∧(bc q.L ((i:Int)+1)).isSome=true) (fun q=>rs.length-q.i) ⟨0,L1,t1⟩ ⟨Nat.zero_le _,HB,hsm⟩ (Env.ab (by simp[Env.Has,Env.get])) (aa.Sub.refl _) ?_
  rintro⟨k,L2,s'⟩ ⟨hk,H2,hs2⟩
  simp only at hk H2 hs2
  by_cases hkl:k<rs.length
  ·have hlk:=ko c hc a ((i:Int)+1) ((k:Int)+1)
   have hl2:=H2.len
   have hz:=xe (c:=c) (by rw[←hrs];exact hs) (u:=i+1) (b:=k+1) (by rw[←hrs];omega) (by rw[←hrs];omega)
   rw[←hrs,show((i+1:Nat):Int)=(i:Int)+1 by omega,show((k+1:Nat):Int)=(k:Int)+1 by omega] at hz
   rcases hz with ⟨z1,z2⟩|⟨l,z,z1,z2,z3,z4⟩
   ·rw[z1] at hlk
    simp only[xh,Option.isSome] at hlk
    repeat' first|refine zw ?_|refine zy fun nu _ _=>?_|refine zc rfl (fun h=>?_) fun h=>?_|refine zi (fun h=>?_) fun h=>?_|exact .intro|refine us (hlk) ?_|fail
    exact⟨⟨k+1,L2,s'⟩,by simp only;omega,⟨by simp only;omega,H2.skip z2,hs2⟩,Env.ab (by simp[Env.Has,Env.get]),aa.Sub.refl _⟩
   ·rw[z1] at hlk
    simp only[xh,Option.isSome,Option.getD] at hlk
    rw[z3] at hlk
    repeat' first|refine zw ?_|refine zy fun nu _ _=>?_|refine zc rfl (fun h=>?_) fun h=>?_|refine zi (fun h=>?_) fun h=>?_|exact .intro|refine us (hlk) ?_|fail
    refine ck (vF H2.gs (by omega) ((i:Int)+1) ((k:Int)+1) (z:Int) (by omega) (by omega) (by omega) (fun x hx=>by have:=H2.C8 x hx;omega)) ?_
    rintro _ t3 ⟨rfl,L3,H3,l3,g3,n3,q3⟩
    simp -dsimp (disch:=omega) only[go_sem]
    repeat' first|refine zw ?_|refine zy fun nu _ _=>?_|refine zc rfl (fun h=>?_) fun h=>?_|refine zi (fun h=>?_) fun h=>?_|exact .intro|fail
    exact⟨⟨k+1,L3,t3⟩,by simp only;omega,⟨by simp only;omega,H2.CP hlt hkl z2 H3 g3 n3 q3,by simp only;rw[n3];simp⟩,Env.ab (by simp[Env.Has,Env.get]),aa.Sub.refl _⟩
  ·have hke:k=rs.length:=by omega
   subst hke
   repeat' first|refine zw ?_|refine zy fun nu _ _=>?_|refine zc rfl (fun h=>?_) fun h=>?_|refine zi (fun h=>?_) fun h=>?_|exact .intro|fail
   exact⟨⟨i+1,L2,s'⟩,by simp only;omega,⟨by simp only;omega,H2.row hs2⟩,Env.ab (by simp[Env.Has,Env.get]),aa.Sub.refl _⟩
 ·have hie:i=rs.length:=by omega
  have hG:GW (jr rs) rs.length L:=by
   have hE:=H.edge
   refine⟨fun u b=>?_,H.node,fun x hx p hp=>H.to x hx p.1 (List.mem_map.2 ⟨p,hp,rfl⟩),fun u h1 h2=>H.all u h1 (by omega),fun u b z h=>Ae hs h,fun u b z h=>px h⟩
   have h1:=mw (rs:=rs) (u:=u) (b:=b) (p:=u≤i∨(u=i+1∧b≤0)) (q:=True) (fun _ _=>by simp only[iff_true];omega)
   rw[hE,h1];simp
  have hfl:=rS H.gs.gr hG hn H.C8 (fun x hx=>(H.gs.sm x hx).1.2.1)
  repeat' first|refine zw ?_|refine zy fun nu _ _=>?_|refine zc rfl (fun h=>?_) fun h=>?_|refine zi (fun h=>?_) fun h=>?_|exact .intro|refine us (hln) ?_|refine uw (hfl) ?_|fail
  exact⟨_,aa.Sub.refl _,g,m,L,rfl,H.gs,hG⟩
end
end Go.Proofs.YtgfjihpbphplhaaGreat

namespace Go.Proofs.YtgfjihpbphplhaaGreat
open Go.Kern Go.RowKit
set_option maxRecDepth 100000
set_option maxHeartbeats 4000000
attribute [local irreducible] af W
theorem mT (f:Nat→AV) {n j:Nat} (h:j<n):((List.range n).map f).getD j .any=f j:=by simp[List.getD_eq_getElem?_getD,h]
noncomputable def bz (ww:Nat→Nat→Option Nat) (n:Nat) (i k:Int):Option Wk:=if 1≤i∧i≤n∧1≤k∧k≤n then aV ww i.toNat k.toNat else none
section
variable {ww:Nat→Nat→Option Nat} {n:Nat} {g:Nat}
theorem lT:Pure Tryz.prog 21 [ma ww n g] (.int .i64 n):=by
 intro σ
 rw[ma]
 refine ah [.tmp 2] 9 Tryz.func21 (by rfl) rfl rfl rfl rfl ?_
 repeat' first|refine zw ?_|refine zy fun nu _ _=>?_|refine zc rfl (fun h=>?_) fun h=>?_|refine zi (fun h=>?_) fun h=>?_|exact .intro|fail
theorem find_spec (hn:n<100) (i k:Int):Pure Tryz.prog 59 [ma ww n g,.int .i64 i,.int .i64 k] (ej (bz ww n i k)):=by
 intro σ
 have hl:=lT (ww:=ww) (n:=n) (g:=g)
 rw[ma] at hl ⊢
 by_cases h:1≤i∧i≤n∧1≤k∧k≤n
 ·obtain⟨h1,h2,h3,h4⟩:=h
  have hb:bz ww n i k=aV ww i.toNat k.toNat:=by rw[bz,if_pos ⟨h1,h2,h3,h4⟩]
  rw[hb]
  have e1:(cV ww n n).getD (i-1).toNat .any= .sl .bf (l9 ww n (i-1).toNat):=mT _ (by omega)
  have e2:(l9 ww n (i-1).toNat).getD (k-1).toNat .any= .agg [.int .i64 (wC (aV ww i.toNat k.toNat)),wi (aV ww i.toNat k.toNat)]:=by
   have h6:(i-1).toNat+1=i.toNat:=by omega
   have h7:(k-1).toNat+1=k.toNat:=by omega
   have:=mT (fun k=>ej (aV ww ((i-1).toNat+1) (k+1))) (n:=n) (j:=(k-1).toNat) (by omega)
   rw[l9,this,h6,h7];rfl
  have e3:(cV ww n n).length=n:=by simp[cV]
  have e4:(l9 ww n (i-1).toNat).length=n:=by simp[l9]
  refine ah [.cell 6 111] 38 Tryz.func59 (by rfl) rfl rfl rfl rfl ?_
  repeat' first|refine zw ?_|refine zy fun nu _ _=>?_|refine zc rfl (fun h=>?_) fun h=>?_|refine zi (fun h=>?_) fun h=>?_|exact .intro|fail
  intro o ho
  replace ho:=eU.mk ho
  (have kX:=nO @e1 @e2 @e3 @e4;repeat' first|refine zh ?_|(refine al ?_;intro b hb)|refine zy fun nu _ _=>?_|refine zc rfl (fun h=>?_) fun h=>?_|refine zi (fun h=>?_) fun h=>?_|exact .intro|refine us (hl) ?_|fail);all_goals clear kX
  refine⟨by cases aV ww i.toNat k.toNat<;>rfl,?_⟩
  repeat' first|refine zw ?_|refine zy fun nu _ _=>?_|refine zc rfl (fun h=>?_) fun h=>?_|refine zi (fun h=>?_) fun h=>?_|exact .intro|fail
  exact⟨rfl,an ho.h⟩
 ·have hb:bz ww n i k=none:=by rw[bz,if_neg h]
  rw[hb]
  refine ah [.cell 6 111] 38 Tryz.func59 (by rfl) rfl rfl rfl rfl ?_
  repeat' first|refine zw ?_|refine zy fun nu _ _=>?_|refine zc rfl (fun h=>?_) fun h=>?_|refine zi (fun h=>?_) fun h=>?_|exact .intro|fail
  intro o ho
  replace ho:=eU.mk ho
  by_cases h1:i<1
  ·skip
   repeat' first|refine zh ?_|(refine al ?_;intro b hb)|refine zy fun nu _ _=>?_|refine zc rfl (fun h=>?_) fun h=>?_|refine zi (fun h=>?_) fun h=>?_|exact .intro|refine us (hl) ?_|fail
   exact⟨rfl,an ho.h⟩
  ·by_cases h2:i≤n
   ·by_cases h3:k<1
    ·skip
     repeat' first|refine zh ?_|(refine al ?_;intro b hb)|refine zy fun nu _ _=>?_|refine zc rfl (fun h=>?_) fun h=>?_|refine zi (fun h=>?_) fun h=>?_|exact .intro|refine us (hl) ?_|fail
     exact⟨rfl,an ho.h⟩
    ·skip
     repeat' first|refine zh ?_|(refine al ?_;intro b hb)|refine zy fun nu _ _=>?_|refine zc rfl (fun h=>?_) fun h=>?_|refine zi (fun h=>?_) fun h=>?_|exact .intro|refine us (hl) ?_|fail
     exact⟨rfl,an ho.h⟩
   ·skip
    repeat' first|refine zh ?_|(refine al ?_;intro b hb)|refine zy fun nu _ _=>?_|refine zc rfl (fun h=>?_) fun h=>?_|refine zi (fun h=>?_) fun h=>?_|exact .intro|refine us (hl) ?_|fail
    exact⟨rfl,an ho.h⟩
def pq (ww:Nat→Nat→Option Nat) (n:Nat):Prop:=∀i k y,bz ww n i k=some y→y.2.length≤n∧1≤y.2.length∧y.1≤65536*n
theorem qS (hc:∀u b c,ww u b=some c→c≤65536) (hw:∀u b c,ww u b=some c→1≤b∧b≤n):pq ww n:=fun i k y h=>by
 unfold bz at h
 split at h
 ·rename_i q
  have hb:=cj h
  exact⟨hb.qb hw (by omega),hb.1.len,hb.kQ hc hw (by omega)⟩
 ·cases h
theorem kI (hn:n<100) (hs:pq ww n) (i k:Int):Pure Tryz.prog 14 [ma ww n g,.int .i64 i,.int .i64 k] (.bK [.int .i64 (wC (bz ww n i k)),.bool (bz ww n i k).isSome]):=by
  intro σ
  have hf:=find_spec (ww:=ww) (n:=n) (g:=g) hn i k
  cases hb:bz ww n i k with
  | none=>
    rw[hb] at hf
    simp only[ej,wC,wi] at hf
    refine ah [.tmp 6,.tmp 7] 19 Tryz.func14 (by rfl) rfl rfl rfl rfl ?_
    repeat' first|refine zw ?_|refine zy fun nu _ _=>?_|refine zc rfl (fun h=>?_) fun h=>?_|refine zi (fun h=>?_) fun h=>?_|exact .intro|refine us (hf) ?_|fail
    intro o ho
    repeat' first|refine zh ?_|(refine al ?_;intro b hb)|refine zy fun nu _ _=>?_|refine zc rfl (fun h=>?_) fun h=>?_|refine zi (fun h=>?_) fun h=>?_|exact .intro|refine us (hf) ?_|fail
    rfl
  | some y=>
    rw[hb] at hf
    simp only[ej,wC,wi] at hf
    obtain⟨q1,q2,q3⟩:=hs i k y hb
    refine ah [.tmp 6,.tmp 7] 19 Tryz.func14 (by rfl) rfl rfl rfl rfl ?_
    repeat' first|refine zw ?_|refine zy fun nu _ _=>?_|refine zc rfl (fun h=>?_) fun h=>?_|refine zi (fun h=>?_) fun h=>?_|exact .intro|refine us (hf) ?_|fail
    intro o ho
    (have kX:=@dO;repeat' first|refine zh ?_|(refine al ?_;intro b hb)|refine zy fun nu _ _=>?_|refine zc rfl (fun h=>?_) fun h=>?_|refine zi (fun h=>?_) fun h=>?_|exact .intro|refine us (hf) ?_|fail);all_goals clear kX
    rfl
theorem rK (hn:n<100) (hs:pq ww n) (i k:Int):Pure Tryz.prog 15 [ma ww n g,.int .i64 i,.int .i64 k] (wi (bz ww n i k)):=by
  intro σ
  have hf:=find_spec (ww:=ww) (n:=n) (g:=g) hn i k
  cases hb:bz ww n i k with
  | none=>
    rw[hb] at hf
    simp only[ej,wC,wi] at hf
    have hcl:=tQ .nil [] (by decide)
    simp only[ints,List.map_nil,cK] at hcl
    refine ah [.tmp 6] 13 Tryz.func15 (by rfl) rfl rfl rfl rfl ?_
    repeat' first|refine zw ?_|refine zy fun nu _ _=>?_|refine zc rfl (fun h=>?_) fun h=>?_|refine zi (fun h=>?_) fun h=>?_|exact .intro|refine us (hf) ?_|refine us (hcl) ?_|fail
    rfl
  | some y=>
    rw[hb] at hf
    simp only[ej,wC,wi] at hf
    obtain⟨q1,q2,q3⟩:=hs i k y hb
    have hcl:=tQ .bf (y.2.map fun(n:Nat)=>(n:Int)) (by rw[List.length_map];omega)
    simp only[cK] at hcl
    refine ah [.tmp 6] 13 Tryz.func15 (by rfl) rfl rfl rfl rfl ?_
    repeat' first|refine zw ?_|refine zy fun nu _ _=>?_|refine zc rfl (fun h=>?_) fun h=>?_|refine zi (fun h=>?_) fun h=>?_|exact .intro|refine us (hf) ?_|refine us (hcl) ?_|fail
    rfl
theorem kG (hn:n<100) (hs:pq ww n) (i k:Int):Pure Tryz.prog 16 [ma ww n g,.int .i64 i,.int .i64 k] (.int .i64 (kj (bz ww n i k))):=by
  intro σ
  have hf:=find_spec (ww:=ww) (n:=n) (g:=g) hn i k
  cases hb:bz ww n i k with
  | none=>
    rw[hb] at hf
    simp only[ej,wC,wi] at hf
    refine ah [.tmp 6] 20 Tryz.func16 (by rfl) rfl rfl rfl rfl ?_
    repeat' first|refine zw ?_|refine zy fun nu _ _=>?_|refine zc rfl (fun h=>?_) fun h=>?_|refine zi (fun h=>?_) fun h=>?_|exact .intro|refine us (hf) ?_|fail
    intro o ho
    repeat' first|refine zh ?_|(refine al ?_;intro b hb)|refine zy fun nu _ _=>?_|refine zc rfl (fun h=>?_) fun h=>?_|refine zi (fun h=>?_) fun h=>?_|exact .intro|refine us (hf) ?_|fail
    rfl
  | some y=>
    rw[hb] at hf
    simp only[ej,wC,wi] at hf
    obtain⟨q1,q2,q3⟩:=hs i k y hb
    by_cases h2:y.2.length<2
    · have hx:kj (some y)=0:=by
        unfold kj Ad
        simp[List.getD_eq_getElem?_getD,List.getElem?_eq_none (show y.2.length≤1 by omega)]
      rw[hx]
      refine ah [.tmp 6] 20 Tryz.func16 (by rfl) rfl rfl rfl rfl ?_
      repeat' first|refine zw ?_|refine zy fun nu _ _=>?_|refine zc rfl (fun h=>?_) fun h=>?_|refine zi (fun h=>?_) fun h=>?_|exact .intro|refine us (hf) ?_|fail
      intro o ho
      (have kX:=@dO;repeat' first|refine zh ?_|(refine al ?_;intro b hb)|refine zy fun nu _ _=>?_|refine zc rfl (fun h=>?_) fun h=>?_|refine zi (fun h=>?_) fun h=>?_|exact .intro|refine us (hf) ?_|fail);all_goals clear kX
      rfl
    · have hx:=oZ (l:=y.2) (i:=1) (by omega)
      have hx2:kj (some y)=y.2.getD 1 0:=rfl
      rw[hx2]
      refine ah [.tmp 6] 20 Tryz.func16 (by rfl) rfl rfl rfl rfl ?_
      repeat' first|refine zw ?_|refine zy fun nu _ _=>?_|refine zc rfl (fun h=>?_) fun h=>?_|refine zi (fun h=>?_) fun h=>?_|exact .intro|refine us (hf) ?_|fail
      intro o ho
      (have kX:=g9 @dO @hx;repeat' first|refine zh ?_|(refine al ?_;intro b hb)|refine zy fun nu _ _=>?_|refine zc rfl (fun h=>?_) fun h=>?_|refine zi (fun h=>?_) fun h=>?_|exact .intro|refine us (hf) ?_|fail);all_goals clear kX
      rfl
end
end Go.Proofs.YtgfjihpbphplhaaGreat

namespace Go.Proofs.YtgfjihpbphplhaaGreat
open Go.Kern Go.RowKit
set_option maxRecDepth 100000
set_option maxHeartbeats 4000000
attribute [local irreducible] af W
attribute [local go_sem] aX
theorem xH {f:l5} (h:f.r=⟨#[]⟩∧f.n=⟨#[]⟩∧f.e=0):f=bl:=by
 obtain⟨r,n,e⟩:=f
 obtain⟨rfl,rfl,rfl⟩:=h
 rfl
structure AY (c:fN) (σ:aa) (r:AV) (t:aa):Prop where
 s:c.S
 nf:jk c
 net:∃g m L,r=ma (jr c.routers) c.routers.length g∧GS σ g m L t∧GW (jr c.routers) c.routers.length L
theorem vr (c:fN) (hw:c.Wf) (σ:aa):af Tryz.prog 12 [aX c] σ (fun r t=>σ.Sub t∧(r= .nilp∨AY c σ r t)):=by
 refine ai [.tmp 2] 18 Tryz.func12 (by rfl) rfl rfl rfl rfl ?_
 repeat' first|refine zw ?_|refine zy fun nu _ _=>?_|refine zc rfl (fun h=>?_) fun h=>?_|refine zi (fun h=>?_) fun h=>?_|exact .intro|fail
 refine aK (sJ c σ) ?_
 rintro r0 t0 ⟨h0,h1⟩
 rw[h1]
 rcases h0 with rfl|⟨rfl,hS⟩
 ·skip
  simp -dsimp (disch:=omega) only[go_sem]
  repeat' first|refine zw ?_|refine zy fun nu _ _=>?_|refine zc rfl (fun h=>?_) fun h=>?_|refine zi (fun h=>?_) fun h=>?_|exact .intro|fail
  exact⟨σ,aa.Sub.refl _,aa.Sub.refl _⟩
 ·have hm:=lC c hS (qf c hS hw)
  by_cases hN:jk c
  ·have e:oU c= .bK [.ip (fL c .any) 0,fM bl]:=if_pos hN
   rw[e] at hm
   simp only[fM,bl] at hm
   simp -dsimp (disch:=omega) only[go_sem]
   repeat' first|refine zh ?_|(refine al ?_;intro b hb)|refine zy fun nu _ _=>?_|refine zc rfl (fun h=>?_) fun h=>?_|refine zi (fun h=>?_) fun h=>?_|exact .intro|refine us (hm) ?_|fail
   refine aK (kH hS (mJ hN) (by have:=hS.len;omega)) ?_
   rintro _ t ⟨g,m,L,rfl,hgs,hgw⟩
   simp -dsimp (disch:=omega) only[go_sem]
   repeat' first|refine zw ?_|refine zy fun nu _ _=>?_|refine zc rfl (fun h=>?_) fun h=>?_|refine zi (fun h=>?_) fun h=>?_|exact .intro|fail
   exact⟨_,aa.Sub.refl _,hgs.sub,.inr ⟨hS,hN,g,m,L,rfl,hgs,hgw⟩⟩
  ·have e:oU c= .bK [.nilp,fM (if cL c=true then np c else⟨⟨#[]⟩,⟨#[]⟩,1⟩)]:=if_neg hN
   rw[e] at hm
   obtain⟨f,hf⟩:∃f,f=(if cL c=true then np c else(⟨⟨#[]⟩,⟨#[]⟩,1⟩:l5)):=⟨_,rfl⟩
   rw[←hf] at hm
   have hne:f≠bl:=fun q=>by
    rw[q] at hf
    split at hf
    ·rename_i h1;exact hN ⟨h1,hf.symm⟩
    ·exact absurd (congrArg l5.e hf) (by decide)
   simp only[fM] at hm
   have hdec:(decide (f.r= {data:= #[]})&&(decide (f.n= {data:= #[]})&&decide (f.e=0)))=false:=by
    rw[←Bool.not_eq_true]
    intro q
    simp only[Bool.and_eq_true,decide_eq_true_eq] at q
    exact hne (xH q)
   simp -dsimp (disch:=omega) only[go_sem]
   repeat' first|refine zh ?_|(refine al ?_;intro b hb)|refine zy fun nu _ _=>?_|refine zc rfl (fun h=>?_) fun h=>?_|refine zi (fun h=>?_) fun h=>?_|exact .intro|refine us (hm) ?_|fail
   exact⟨σ,aa.Sub.refl _,aa.Sub.refl _⟩
end Go.Proofs.YtgfjihpbphplhaaGreat

namespace Go.Proofs.YtgfjihpbphplhaaGreat
open Go.Kern Go.RowKit
set_option maxRecDepth 100000
set_option maxHeartbeats 4000000
attribute [local irreducible] af W
theorem xR (k1 k2:SK) (l:List Int) (hl:l.length<1000000):Pure Tryz.prog 66 [.sl k1 (ints l),.sl k2 (ints l)] (.int .i64 0):=by
 intro σ
 refine ah [.tmp 4] 40 Tryz.func66 (by rfl) rfl rfl rfl rfl ?_
 (have kX:=@dP;repeat' first|refine zw ?_|refine zy fun nu _ _=>?_|refine zc rfl (fun h=>?_) fun h=>?_|refine zi (fun h=>?_) fun h=>?_|exact .intro|fail);all_goals clear kX
 refine ak (fun i:Nat=>[(0,.sl k1 (ints l)),(1,.sl k2 (ints l)),(5,.int .i64 i)]) (fun _=>σ) (fun i=>i≤l.length) (fun i=>l.length-i) 0 (Nat.zero_le _) (Env.ab (by simp[Env.Has,Env.get])) (aa.Sub.refl _) ?_
 intro i hi
 by_cases hlt:i<l.length
 ·have hx:=gy hlt
  have hd:decide (l.getD i 0<l.getD i 0)=false:=decide_eq_false (by omega)
  (have kX:=g8 @hx @dP @hd;repeat' first|refine zw ?_|refine zy fun nu _ _=>?_|refine zc rfl (fun h=>?_) fun h=>?_|refine zi (fun h=>?_) fun h=>?_|exact .intro|fail);all_goals clear kX
  exact⟨i+1,by omega,by omega,Env.ab (by simp[Env.Has,Env.get]),aa.Sub.refl _⟩
 ·skip
  (have kX:=@dP;repeat' first|refine zw ?_|refine zy fun nu _ _=>?_|refine zc rfl (fun h=>?_) fun h=>?_|refine zi (fun h=>?_) fun h=>?_|exact .intro|fail);all_goals clear kX
theorem vf (k1 k2:SK) (l:List Int) (hl:l.length<1000000):Pure Tryz.prog 20 [.sl k1 (ints l),.sl k2 (ints l)] (.bool true):=by
 intro σ
 have h:=xR k1 k2 l hl
 refine ah [.tmp 4] 9 Tryz.func20 (by rfl) rfl rfl rfl rfl ?_
 repeat' first|refine zw ?_|refine zy fun nu _ _=>?_|refine zc rfl (fun h=>?_) fun h=>?_|refine zi (fun h=>?_) fun h=>?_|exact .intro|refine us (h) ?_|fail
def ou (n:UInt8):gB:=⟨⟨#[n]⟩,1⟩
def kU:fN:=⟨.nil,[],.nil,[],.full,[⟨⟨#[97]⟩,1,1,.nil,[],.nil,[],.full,[ou 98]⟩,⟨⟨#[98]⟩,1,2,.nil,[],.nil,[],.full,[ou 97,ou 99]⟩,⟨⟨#[99]⟩,1,3,.nil,[],.nil,[],.full,[ou 98]⟩]⟩
theorem m6 (n:ByteArray):Pure Tryz.prog 103 [.str n] (.agg [.str n,.int .i64 1]):=by
 intro σ
 refine ah [.cell 2 68] 5 Tryz.func103 (by rfl) rfl rfl rfl rfl ?_
 repeat' first|refine zw ?_|refine zy fun nu _ _=>?_|refine zc rfl (fun h=>?_) fun h=>?_|refine zi (fun h=>?_) fun h=>?_|exact .intro|fail
 intro o ho
 have h2:=ao σ o
 (have kX:=@h2;repeat' first|refine zw ?_|refine zy fun nu _ _=>?_|refine zc rfl (fun h=>?_) fun h=>?_|refine zi (fun h=>?_) fun h=>?_|exact .intro|fail);all_goals clear kX
 exact an ho
theorem sE:Pure Tryz.prog 58 [] (aX kU):=by
 intro σ
 have h1:=m6 ⟨#[98]⟩
 have h2:=m6 ⟨#[97]⟩
 have h3:=m6 ⟨#[99]⟩
 refine ah [.cell 0 26] 18 Tryz.func58 (by rfl) rfl rfl rfl rfl ?_
 repeat' first|refine zw ?_|refine zy fun nu _ _=>?_|refine zc rfl (fun h=>?_) fun h=>?_|refine zi (fun h=>?_) fun h=>?_|exact .intro|fail
 intro o ho
 have hs:=ao σ o
 (have kX:=@hs;repeat' first|refine zw ?_|refine zy fun nu _ _=>?_|refine zc rfl (fun h=>?_) fun h=>?_|refine zi (fun h=>?_) fun h=>?_|exact .intro|refine us (h1) ?_|refine us (h2) ?_|refine us (h3) ?_|fail);all_goals clear kX
 exact⟨rfl,an ho⟩
theorem sd:jk kU:=⟨by kernel_rfl,by kernel_rfl⟩
theorem AM:jr kU.routers=w3:=by
 funext u b
 by_cases h:1≤u∧u≤3∧1≤b∧b≤3
 ·obtain⟨h1,h2,h3,h4⟩:=h
  have hu:u=1∨u=2∨u=3:=by omega
  have hb:b=1∨b=2∨b=3:=by omega
  rcases hu with rfl|rfl|rfl<;>rcases hb with rfl|rfl|rfl<;>rfl
 ·have e:jr kU.routers u b=none:=by rw[jr,if_neg (by simpa [kU] using h)]
  rw[e,w3,if_neg (by omega)]
theorem kT {p:bX→Prop} (h:p ⟨⟨#[97]⟩,1,1,.nil,[],.nil,[],.full,[ou 98]⟩∧p ⟨⟨#[98]⟩,1,2,.nil,[],.nil,[],.full,[ou 97,ou 99]⟩∧p ⟨⟨#[99]⟩,1,3,.nil,[],.nil,[],.full,[ou 98]⟩):∀x,x∈kU.routers→p x:=fun x hx=>by
 simp only[kU,List.mem_cons,List.not_mem_nil,or_false] at hx
 rcases hx with rfl|rfl|rfl
 ·exact h.1
 ·exact h.2.1
 ·exact h.2.2
theorem tS:kU.S:=
 ⟨by decide,nofun,nofun,kT ⟨⟨by decide,by decide,by decide,by decide⟩,⟨by decide,by decide,by decide,by decide⟩,⟨by decide,by decide,by decide,by decide⟩⟩⟩
theorem iY (b:UInt8):(ou b).name.size≤9223372036854775807:=by simp[ou,ByteArray.size]
theorem zO:kU.Wf:=
 ⟨nofun,kT ⟨nofun,nofun,nofun⟩,kT ⟨nofun,nofun,nofun⟩,kT ⟨fun n hn=>by rw[List.mem_singleton.1 hn];exact iY _,fun n hn=>by
  rcases List.mem_cons.1 hn with h|h
  ·rw[h];exact iY _
  ·rw[List.mem_singleton.1 h];exact iY _,fun n hn=>by rw[List.mem_singleton.1 hn];exact iY _⟩⟩
attribute [local go_sem] aX
theorem m9 (σ:aa):af Tryz.prog 13 [] σ (fun r t=>r= .bool true∧t=σ):=by
 have h3:=sE
 have hm:=lC kU tS (qf kU tS zO)
 have e:oU kU= .bK [.ip (fL kU .any) 0,fM bl]:=if_pos sd
 rw[e] at hm
 simp only[fM,bl] at hm
 refine ah [.tmp 0] 34 Tryz.func13 (by rfl) rfl rfl rfl rfl ?_
 repeat' first|refine zw ?_|refine zy fun nu _ _=>?_|refine zc rfl (fun h=>?_) fun h=>?_|refine zi (fun h=>?_) fun h=>?_|exact .intro|refine us (h3) ?_|refine us (hm) ?_|fail
 intro o ho
 repeat' first|refine zh ?_|(refine al ?_;intro b hb)|refine zy fun nu _ _=>?_|refine zc rfl (fun h=>?_) fun h=>?_|refine zi (fun h=>?_) fun h=>?_|exact .intro|refine us (h3) ?_|refine us (hm) ?_|fail
 refine aK (kH tS (mJ sd) (by decide)) ?_
 rintro _ t ⟨g,m,L,rfl,hgs,hgw⟩
 rw[AM]
 have hsh:pq w3 3:=qS (fun u b c h=>by have:=py h;omega) (fun u b c h=>by have:=py h;omega)
 have hb:bz w3 3 1 3=some (2,[1,2,3]):=by
  have:bz w3 3 1 3=aV w3 1 3:=if_pos (by decide)
  rw[this];exact gN Ce
 have c1:=kI (g:=g) (by decide) hsh 1 3
 have c2:=rK (g:=g) (by decide) hsh 1 3
 have c3:=kG (g:=g) (by decide) hsh 1 3
 rw[hb] at c1 c2 c3
 have d1:Pure Tryz.prog _ _ (.bK [.int .i64 2,.bool true]):=c1
 have d2:Pure Tryz.prog _ _ (.sl .bf (ints [1,2,3])):=c2
 have d3:Pure Tryz.prog _ _ (.int .i64 2):=c3
 have c4:=vf .bf .full [1,2,3] (by decide)
 have e3:kU.routers.length=3:=rfl
 rw[e3]
 simp -dsimp (disch:=omega) only[go_sem]
 repeat' first|refine zw ?_|refine zy fun nu _ _=>?_|refine zc rfl (fun h=>?_) fun h=>?_|refine zi (fun h=>?_) fun h=>?_|exact .intro|refine us (d1) ?_|refine us (d2) ?_|refine us (d3) ?_|refine us (c4) ?_|fail
 exact hgs.sub
end Go.Proofs.YtgfjihpbphplhaaGreat

namespace Go.Proofs.YtgfjihpbphplhaaGreat
open Go.Kern
section
variable {w:Nat→Nat→Option Nat}
theorem pc (hs:∀u b,w u b=w b u) (i k:Nat):(aV w k i).isSome=(aV w i k).isSome∧wC (aV w k i)=wC (aV w i k):=by
  cases h1:aV w i k with
  | none=>
    cases h2:aV w k i with
    |none=>exact⟨rfl,rfl⟩
    | some y=>
      obtain⟨x',g1,_⟩:=(cj h2).1.back hs
      exact absurd g1 (se h1 _)
  | some x=>
    cases h2:aV w k i with
    | none=>
      obtain⟨x',g1,_⟩:=(cj h1).1.back hs
      exact absurd g1 (se h2 _)
    | some y=>
      have:=(cj h1).xN hs (cj h2)
      exact⟨rfl,by simp only[wC];omega⟩
theorem tW {i k:Nat} {y:Wk} (hik:i≠k) (h:aV w i k=some y):∃c z,w i (kj (some y))=some c∧aV w (kj (some y)) k=some z∧y.1=c+z.1∧z.2.length+1=y.2.length:=by
 obtain⟨v,c,z,h1,h2,h3,h4,h5⟩:=(cj h).step hik
 have e:kj (some y)=v:=by
  simp only[kj,Ad,List.getD_eq_getElem?_getD,h5];rfl
 rw[e]
 exact⟨c,z,h1,gN h2,by rw[h3];rfl,h4⟩
theorem vR {i j k:Nat} {x z:Wk} (h1:aV w i j=some x) (h2:aV w j k=some z):∃y,aV w i k=some y∧y.1≤x.1+z.1:=by
 obtain⟨v,g1,_⟩:=iN (cj h1).1 (cj h2).1
 obtain⟨y,hy⟩:=kY g1
 exact⟨y,hy,(cj h1).Aa (cj h2) (cj hy)⟩
end
theorem nI {ww:Nat→Nat→Option Nat} {n i k:Nat} (hi:1≤i∧i≤n) (hk:1≤k∧k≤n):bz ww n (i:Int) (k:Int)=aV ww i k:=by
 rw[bz,if_pos (by omega)];rfl
theorem tR {c:fN} (h:cL c=true):c.routers.length≤8:=by
 simp only[cL,Bool.and_eq_true,lJ] at h
 omega
open Go.Kern Go.RowKit
set_option maxRecDepth 100000
set_option maxHeartbeats 4000000
attribute [local irreducible] af W
attribute [local go_sem] aX
structure Dm where
 at_:Nat
 z:Wk
 s:Nat
 hop:Int
section
theorem vB (c:fN) (hw:c.Wf) (σ:aa):af Tryz.prog 4 [aX c] σ (fun r t=>r= .bool true∧t=σ):=by
  refine ah [.tmp 2] 144 Tryz.func4 (by rfl) rfl rfl rfl rfl ?_
  repeat' first|refine zw ?_|refine zy fun nu _ _=>?_|refine zc rfl (fun h=>?_) fun h=>?_|refine zi (fun h=>?_) fun h=>?_|exact .intro|fail
  refine aK (vr c hw σ) ?_
  rintro r t ⟨bg,rfl|⟨hS,hN,g,m,L,rfl,hgs,hgw⟩⟩
  · have hlv:=m9 t
    simp -dsimp (disch:=omega) only[go_sem]
    repeat' first|refine zw ?_|refine zy fun nu _ _=>?_|refine zc rfl (fun h=>?_) fun h=>?_|refine zi (fun h=>?_) fun h=>?_|exact .intro|refine uw (hlv) ?_|fail
    exact bg
  · have hm:=lC c hS (qf c hS hw)
    have e:oU c= .bK [.ip (fL c .any) 0,fM bl]:=if_pos hN
    rw[e] at hm
    simp only[fM,bl] at hm
    have hsd:=mJ hN
    have hn8:=tR hN.1
    obtain⟨n,hn⟩:∃n,n=c.routers.length:=⟨_,rfl⟩
    rw[←hn] at hgw hn8 ⊢
    obtain⟨ww,hww⟩:∃ww,ww=jr c.routers:=⟨_,rfl⟩
    rw[←hww] at hgw ⊢
    have hsh:pq ww n:=qS hgw.le (fun u b c h=>(hgw.in_ u b c h).2)
    have hsym:∀u b,ww u b=ww b u:=by rw[hww];exact yD hsd
    have hlen:=lT (ww:=ww) (n:=n) (g:=g)
    have hcost:=fun i k=>kI (ww:=ww) (n:=n) (g:=g) (by omega) hsh i k
    have hnext:=fun i k=>kG (ww:=ww) (n:=n) (g:=g) (by omega) hsh i k
    have hlink:=fun i k=>ko c hS .any i k
    obtain⟨X,hX⟩:∃X,ma ww n g= .ip X 0:=⟨_,rfl⟩
    rw[hX] at hlen
    simp only[hX] at hcost hnext
    rw[hX]
    simp -dsimp (disch:=omega) only[go_sem]
    repeat' first|refine zw ?_|refine zy fun nu _ _=>?_|refine zc rfl (fun h=>?_) fun h=>?_|refine zi (fun h=>?_) fun h=>?_|exact .intro|refine us (hm) ?_|fail
    intro o ho
    repeat' first|refine zh ?_|(refine al ?_;intro b hb)|refine zy fun nu _ _=>?_|refine zc rfl (fun h=>?_) fun h=>?_|refine zi (fun h=>?_) fun h=>?_|exact .intro|refine us (hm) ?_|fail
    refine ak (fun i:Nat=>[(3,.ip X 0),(4,.ip (fL c .any) 0),(6,.int .i64 i)]) (fun _=>t) (fun i=>1≤i∧i≤n+1) (fun i=>n+1-i) 1 (by omega) (Env.ab (by simp[Env.Has,Env.get])) (aa.Sub.refl _) ?_
    rintro i ⟨hi1,hi2⟩
    by_cases hi:i≤n
    · skip
      repeat' first|refine zw ?_|refine zy fun nu _ _=>?_|refine zc rfl (fun h=>?_) fun h=>?_|refine zi (fun h=>?_) fun h=>?_|exact .intro|refine us (hlen) ?_|fail
      refine ak (fun k:Nat=>[(3,.ip X 0),(4,.ip (fL c .any) 0),(6,.int .i64 i),(7,.int .i64 k)]) (fun _=>t) (fun k=>1≤k∧k≤n+1) (fun k=>n+1-k) 1 (by omega) (Env.ab (by simp[Env.Has,Env.get])) (aa.Sub.refl _) ?_
      rintro k ⟨hk1,hk2⟩
      by_cases hk:k≤n
      · have c1:=hcost i k
        have c2:=hcost k i
        rw[nI ⟨hi1,hi⟩ ⟨hk1,hk⟩] at c1
        rw[nI ⟨hk1,hk⟩ ⟨hi1,hi⟩,(pc hsym i k).1,(pc hsym i k).2] at c2
        obtain⟨o1,ho1⟩:∃o1,o1=aV ww i k:=⟨_,rfl⟩
        rw[←ho1] at c1 c2
        have hne:decide (wC o1=wC o1)=true:=by simp
        (have kS:Sa 15:=⟨⟩;repeat' ((fail_if_success refine ss kS ?_);first|refine zw ?_|refine zy fun nu _ _=>?_|refine zc rfl (fun h=>?_) fun h=>?_|refine zi (fun h=>?_) fun h=>?_|exact .intro|refine us (hlen) ?_|refine us (c1) ?_|refine us (c2) ?_|fail));all_goals clear kS
        refine s1 ?_
        (have kS:Sa 16:=⟨⟩;repeat' ((fail_if_success refine ss kS ?_);first|refine zw ?_|refine zy fun nu _ _=>?_|refine zc rfl (fun h=>?_) fun h=>?_|refine zi (fun h=>?_) fun h=>?_|exact .intro|fail));all_goals clear kS
        refine AS (α:=Int×Int) (fun q=>[(3,.ip X 0),(4,.ip (fL c .any) 0),(6,.int .i64 i),(7,.int .i64 k),(8,.int .i64 (wC o1)),(9,.bool o1.isSome),(12,.int .i64 q.1),(13,.int .i64 q.2)]) (fun _=>t) (fun q=>o1.isSome=true→q.1=k∧q.2=wC o1) ?_ ?_
        · cases ho:o1 with
          | none=>
            simp only[Option.isSome]
            repeat' first|refine zw ?_|refine zy fun nu _ _=>?_|refine zc rfl (fun h=>?_) fun h=>?_|refine zi (fun h=>?_) fun h=>?_|exact .intro|fail
            refine ak (fun _:Unit=>[(3,.ip X 0),(4,.ip (fL c .any) 0),(6,.int .i64 i),(7,.int .i64 k),(8,.int .i64 (wC none)),(9,.bool false),(12,.int .i64 i),(13,.int .i64 0),(14,.int .i64 0)]) (fun _=>t) (fun _=>True) (fun _=>0) () trivial (Env.ab (by simp[Env.Has,Env.get])) (aa.Sub.refl _) ?_
            rintro _ _
            repeat' first|refine zw ?_|refine zy fun nu _ _=>?_|refine zc rfl (fun h=>?_) fun h=>?_|refine zi (fun h=>?_) fun h=>?_|exact .intro|fail
            exact⟨((i:Int),0),(fun h=>by cases h),Env.ab (by simp[Env.Has,Env.get]),aa.Sub.refl _⟩
          | some y=>
            simp only[Option.isSome,wC]
            have hyb:y.1≤65536*n:=(cj (show aV ww i k=some y by rw[←ho1,ho])).kQ hgw.le (fun u b c h=>(hgw.in_ u b c h).2) ⟨hi1,hi⟩
            repeat' first|refine zw ?_|refine zy fun nu _ _=>?_|refine zc rfl (fun h=>?_) fun h=>?_|refine zi (fun h=>?_) fun h=>?_|exact .intro|fail
            refine ak (fun q:Dm=>[(3,.ip X 0),(4,.ip (fL c .any) 0),(6,.int .i64 i),(7,.int .i64 k),(8,.int .i64 y.1),(9,.bool true),(12,.int .i64 q.at_),(13,.int .i64 q.hop),(14,.int .i64 q.s)]) (fun _=>t) (fun q=>(1≤q.at_∧q.at_≤n)∧aV ww q.at_ k=some q.z∧q.hop+q.z.1=y.1∧0≤q.hop∧q.z.2.length+q.s≤8) (fun q=>q.z.2.length) ⟨i,y,0,0⟩ ⟨⟨hi1,hi⟩,by rw[←ho1,ho],by simp,by simp,by simp only;have:=(cj (show aV ww i k=some y by rw[←ho1,ho])).qb (fun u b c h=>(hgw.in_ u b c h).2) ⟨hi1,hi⟩;omega⟩ (Env.ab (by simp[Env.Has,Env.get])) (aa.Sub.refl _) ?_
            rintro⟨at_,z,s,hop⟩ ⟨ha,hb,hc,hp,hl⟩
            simp only at ha hb hc hp hl
            by_cases hak:at_=k
            · subst hak
              have hz:=(cj hb).unique (cE.self at_)
              subst hz
              have hd:decide ((at_:Int)=(at_:Int))=true:=by simp
              repeat' first|refine zw ?_|refine zy fun nu _ _=>?_|refine zc rfl (fun h=>?_) fun h=>?_|refine zi (fun h=>?_) fun h=>?_|exact .intro|fail
              exact⟨((at_:Int),hop),fun _=>⟨rfl,by simp at hc;exact hc⟩,Env.ab (by simp[Env.Has,Env.get]),aa.Sub.refl _⟩
            · have h1:=hnext at_ k
              rw[nI ha ⟨hk1,hk⟩,hb] at h1
              obtain⟨c',z',g1,g2,g3,g4⟩:=tW hak hb
              obtain⟨vn,hvn⟩:∃vn,vn=kj (some z):=⟨_,rfl⟩
              rw[←hvn] at g1 g2 h1
              obtain⟨_,hv⟩:=hgw.in_ _ _ _ g1
              have hlk:=hlink at_ vn
              rw[hww] at g1
              rw[hn] at hv ha
              have hs10:z.2.length≤8:=by omega
              rcases xe hsd ha hv with ⟨_,q2⟩|⟨l,zc,q1,q2,q3,q4⟩
              · rw[g1] at q2;cases q2
              · rw[g1] at q2
                injection q2 with q2
                subst q2
                rw[q1] at hlk
                simp only[xh,Option.isSome,Option.getD] at hlk
                rw[q3] at hlk
                repeat' first|refine zw ?_|refine zy fun nu _ _=>?_|refine zc rfl (fun h=>?_) fun h=>?_|refine zi (fun h=>?_) fun h=>?_|exact .intro|refine us (h1) ?_|refine us (hlk) ?_|fail
                exact⟨⟨vn,z',s+1,hop+c'⟩,by simp only;omega,⟨by rw[hn];exact hv,g2,by simp only;omega,by simp only;omega,by simp only;omega⟩,Env.ab (by simp[Env.Has,Env.get]),aa.Sub.refl _⟩
        · rintro⟨q1,q2⟩ hq
          simp only at hq
          refine Ab [(3,.ip X 0),(4,.ip (fL c .any) 0),(6,.int .i64 i),(7,.int .i64 k),(8,.int .i64 (wC o1)),(9,.bool o1.isSome)] t ?_ ?_
          · cases ho:o1 with
            | none=>
              simp only[Option.isSome]
              repeat' first|refine zw ?_|refine zy fun nu _ _=>?_|refine zc rfl (fun h=>?_) fun h=>?_|refine zi (fun h=>?_) fun h=>?_|exact .intro|fail
              exact⟨Env.ab (by simp[Env.Has,Env.get]),aa.Sub.refl _⟩
            | some y=>
              obtain⟨e1,e2⟩:=hq (by rw[ho];rfl)
              rw[ho] at e2
              subst e1
              subst e2
              simp only[Option.isSome]
              have hd:decide ((k:Int)=(k:Int))=true:=by simp
              have hd2:decide (wC (some y)=wC (some y))=true:=by simp
              (have kX:=g9 @hd @hd2;repeat' first|refine zw ?_|refine zy fun nu _ _=>?_|refine zc rfl (fun h=>?_) fun h=>?_|refine zi (fun h=>?_) fun h=>?_|exact .intro|fail);all_goals clear kX
              exact⟨Env.ab (by simp[Env.Has,Env.get]),aa.Sub.refl _⟩
          · skip
            repeat' first|refine zw ?_|refine zy fun nu _ _=>?_|refine zc rfl (fun h=>?_) fun h=>?_|refine zi (fun h=>?_) fun h=>?_|exact .intro|fail
            refine ak (fun j:Nat=>[(3,.ip X 0),(4,.ip (fL c .any) 0),(6,.int .i64 i),(7,.int .i64 k),(8,.int .i64 (wC o1)),(9,.bool o1.isSome),(18,.int .i64 j)]) (fun _=>t) (fun j=>1≤j∧j≤n+1) (fun j=>n+1-j) 1 (by omega) (Env.ab (by simp[Env.Has,Env.get])) (aa.Sub.refl _) ?_
            rintro j ⟨hj1,hj2⟩
            by_cases hj:j≤n
            · have f1:=hcost i j
              have f2:=hcost j k
              rw[nI ⟨hi1,hi⟩ ⟨hj1,hj⟩] at f1
              rw[nI ⟨hj1,hj⟩ ⟨hk1,hk⟩] at f2
              cases h2:aV ww i j with
              | none=>
                rw[h2] at f1
                simp only[Option.isSome] at f1
                repeat' first|refine zw ?_|refine zy fun nu _ _=>?_|refine zc rfl (fun h=>?_) fun h=>?_|refine zi (fun h=>?_) fun h=>?_|exact .intro|refine us (hlen) ?_|refine us (f1) ?_|refine us (f2) ?_|fail
                exact⟨j+1,by omega,by omega,Env.ab (by simp[Env.Has,Env.get]),aa.Sub.refl _⟩
              | some x2=>
                cases h3:aV ww j k with
                | none=>
                  rw[h2] at f1
                  rw[h3] at f2
                  simp only[Option.isSome] at f1 f2
                  repeat' first|refine zw ?_|refine zy fun nu _ _=>?_|refine zc rfl (fun h=>?_) fun h=>?_|refine zi (fun h=>?_) fun h=>?_|exact .intro|refine us (hlen) ?_|refine us (f1) ?_|refine us (f2) ?_|fail
                  exact⟨j+1,by omega,by omega,Env.ab (by simp[Env.Has,Env.get]),aa.Sub.refl _⟩
                | some x3=>
                  rw[h2] at f1
                  rw[h3] at f2
                  simp only[Option.isSome,wC] at f1 f2
                  obtain⟨y,hy,hyl⟩:=vR h2 h3
                  rw[←ho1] at hy
                  rw[hy]
                  simp only[Option.isSome,wC]
                  have b2:=hsh i j x2 (by rw[nI ⟨hi1,hi⟩ ⟨hj1,hj⟩];exact h2)
                  have b3:=hsh j k x3 (by rw[nI ⟨hj1,hj⟩ ⟨hk1,hk⟩];exact h3)
                  repeat' first|refine zw ?_|refine zy fun nu _ _=>?_|refine zc rfl (fun h=>?_) fun h=>?_|refine zi (fun h=>?_) fun h=>?_|exact .intro|refine us (hlen) ?_|refine us (f1) ?_|refine us (f2) ?_|fail
                  exact⟨j+1,by omega,by omega,Env.ab (by simp[Env.Has,Env.get]),aa.Sub.refl _⟩
            · skip
              repeat' first|refine zw ?_|refine zy fun nu _ _=>?_|refine zc rfl (fun h=>?_) fun h=>?_|refine zi (fun h=>?_) fun h=>?_|exact .intro|refine us (hlen) ?_|fail
              exact⟨k+1,by omega,by omega,Env.ab (by simp[Env.Has,Env.get]),aa.Sub.refl _⟩
      · skip
        repeat' first|refine zw ?_|refine zy fun nu _ _=>?_|refine zc rfl (fun h=>?_) fun h=>?_|refine zi (fun h=>?_) fun h=>?_|exact .intro|refine us (hlen) ?_|fail
        exact⟨i+1,by omega,by omega,Env.ab (by simp[Env.Has,Env.get]),aa.Sub.refl _⟩
    · have hlv:=m9 t
      repeat' first|refine zw ?_|refine zy fun nu _ _=>?_|refine zc rfl (fun h=>?_) fun h=>?_|refine zi (fun h=>?_) fun h=>?_|exact .intro|refine us (hlen) ?_|refine uw (hlv) ?_|fail
      exact bg
end
end Go.Proofs.YtgfjihpbphplhaaGreat

namespace Go.Proofs.YtgfjihpbphplhaaGreat
open Go.Kern Go.RowKit Go.ChangeShapes
theorem oA (H:Type) (enc:TypeId×Value→H) (W:World) (args:Array Value) (ds gs:List (DataW H)) (before:List MemPlace)
  (hW:DataW.Whole enc Tryz.prog Tryz.f4.params.toList Rows.igpGoesSpec.vars false W args.toList ds gs before):
  Calls Tryz.prog 4 args W fun e W'=>∃v,e= .returned v∧Rows.igpGoesSpec.post enc Tryz.prog Tryz.f4 false true false false W args v W':=by
 have hA:=hW
 obtain⟨p,q,hA,_⟩:=hA
 have hA2:DataW.TrodAll enc Tryz.prog W 0 (fun _=>true) true [26] args.toList ds p:=hA
 obtain⟨v,d,rfl,rfl,h0⟩:=trodAll_one hA2
 obtain⟨c,hc,rc⟩:=xY h0
 obtain⟨hxl,hx⟩:=yq [aX c] [v] (.cons rc .nil)
 refine y3 laid (fun t ht=>?_) (by rfl) Tryz.underlying4 rfl rfl hW _ hxl hx (vB c hc Cn)
 have ht':t∈[26]:=ht
 obtain rfl:t=26:=by simpa using ht'
 exact uX
set_option maxRecDepth 100000 in
theorem rN (os:Os) (started:os.Started) (H:Type) (enc:TypeId×Value→H):
  ReturnsInHanded {} Tryz.checked os 4 .any (Rows.igpGoesSpec.pre6 enc Tryz.prog Tryz.f4 Rows.igpGoesRow.domain false) (Rows.igpGoesSpec.post enc Tryz.prog Tryz.f4 false true false false):=by
 refine returnsInHanded_of_change (C:=Tryz.checked) own started (by kernel_rfl) Tryz.func4
  (ChangeSpec.witness6 (enc:=enc) (C:=Tryz.checked) false ⟨#[],#[.agg #[.slice none 0 0,.slice none 0 0,.slice none 0 0]],[]⟩ 8 (by kernel_rfl) (by kernel_rfl) (by kernel_rfl) (by kernel_rfl)) ?_
 intro W base args ds gs before _ hW _ _
 exact oA H enc W args ds gs before hW
set_option maxHeartbeats 4000000 in
theorem rO:joinedFacts Tryz.prog 4 Tryz.f4 Rows.igpGoesSpec Rows.igpGoesRow=true:=by
 unfold joinedFacts
 repeat' (with_reducible refine Bool.and_eq_true_iff.2 ⟨?_,?_⟩)
 all_goals (as_aux_lemma=>kernel_rfl)
theorem igpGoes_holds:Rows.IgpGoesSaid:=
 OpenClaim.holds_of_wide 4 Tryz.f4 rfl rfl rfl rfl rfl rfl rfl ⟨rfl,rfl,rfl,rfl,rfl⟩ rfl rfl rfl rfl rfl (by kernel_rfl) Tryz.func4 rO
  (of_decide_eq_true (by as_aux_lemma=>kernel_rfl)) (by unfold Func.isWrapper;first|(rw[if_pos (by decide+kernel)];kernel_rfl)|(rw[if_neg (by decide+kernel)];exact⟨rfl,rfl⟩))
  (fun os started H enc _=>rN os started H enc)
#print axioms igpGoes_holds
end Go.Proofs.YtgfjihpbphplhaaGreat

