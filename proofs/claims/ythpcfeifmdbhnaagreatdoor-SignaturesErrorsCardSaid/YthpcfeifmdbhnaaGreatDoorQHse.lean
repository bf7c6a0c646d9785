/- The tables of quarters and of turns out of what the row lists. · A list of rows of numbers that came in. · SignaturesErrors: for every forme and every G the law returns true, where the listed package variables lie as the program's text lays them. -/
import Derived.Test.YthpcfeifmdbhnaaGreatDoorQCrd
import Derived.Test.YthpcfeifmdbhnaaGreatDoorQHvg
import Derived.Test.YthpcfeifmdbhnaaGreatDoorRows
import Derived.DeepKeys2
import Derived.MapViews
import Derived.OpenShut
import Derived.LaidLaws
import Derived.LaidMore
import Derived.Carry
import Derived.Test.YthpcfeifmdbhnaaGreatDoorQFrm
import Derived.Lib.SmallJoins
import Derived.ChangeSlices
import Derived.Deep.Matrix
import Derived.ProofKit
import Derived.Test.YthpcfeifmdbhnaaGreatDoorQLsf
import Derived.Test.YthpcfeifmdbhnaaGreatDoorQKje
import Derived.Test.YthpcfeifmdbhnaaGreatDoorTie
import Derived.Test.YthpcfeifmdbhnaaGreatDoorCards
import Derived.Lay
import Derived.SevenTiedAt
import Derived.Deep.Slices
import Derived.Deep.Fields
import Derived.Stop.Joined
import Derived.HandedShaped
import Derived.Shelf.Vars
open Go renaming Value→Ak,World→Aj
open Go.IntKind renaming u8→Ac
open Go.Value renaming int→Aa,slice→Ad
open List renaming getElem?_eq_some_iff→Ax,length_take→Bm,mem_cons→Bk
open Nat renaming zero_add→Bt
open Option renaming none→Ae,some→Af
set_option maxRecDepth 100000
namespace Go.Proofs.YthpcfeifmdbhnaaGreatDoor
open Go.RowKit
theorem Yc {P:Program} {W:Aj} {n:String} {d:DataW Unit}:∀{l:List (String×DataW Unit)} {ps:List MemPlace},DataW.LaidVars P W l ps→(n,d)∈l→∃g t cs fuel p,P.globalNamed n=Af g∧(P.globals[g]?).map (·.type)=Af t∧W.var? P n=Af cs∧DataW.trod (λ_=>()) P W 0 (λ_=>true) false fuel t cs.toList=Af (d,p)
 |(n',d')::r,ps,h,hm=>by
  obtain⟨g,t,cs,fuel,p,q,h1,h2,h3,h4,h5,_⟩:=h;rcases Bk.1 hm with e|hm
  ·injection e with e1 e2;subst e1;subst e2;exact⟨g,t,cs,fuel,p,h1,h2,h3,h4⟩
  ·exact Yc h5 hm
theorem Xb {P:Program} {W:Aj} {n:String} {d:DataW Unit} {l:List (String×DataW Unit)} {g t:Nat} (hg:P.globalNamed n=Af g) (ht:(P.globals[g]?).map (·.type)=Af t) {m:Nat} (hk:P.keyTypeAt m t=true) (hti:P.tiled m t=true)
  (hl:(n,d)∈l) (h:laidMet P l W) (i:Nat):W.cell? ⟨g,i,Ae⟩=(d.flat.map Lit.toCell)[i]? :=by
 obtain⟨ps,hv,_⟩:=h;obtain⟨g',t',cs,fuel,p,hg',ht',hcs,htr⟩:=Yc hv hl;obtain rfl:=Option.some.inj (hg.symm.trans hg');obtain rfl:=Option.some.inj (ht.symm.trans ht');obtain⟨h1,_⟩:=keyLits_of_trod m _ hk _ _ _ htr;have h2:=cells_of_lits m _ hti _ _ _ h1;rw[World.var?_cell hg hcs i];rw[←h2];simp
theorem Bb4 {W:Aj} {l:List (String×DataW Unit)} (hl:("crimp/cells.quarters",Rows.laid_crimp_cells_quarters)∈l) (h:laidMet Tryz.prog l W):Qf W:=by
 have hc:=Xb (m:=9) (t:=283) (show Tryz.prog.globalNamed "crimp/cells.quarters" =Af 1 by kernel_rfl) Cm Cm Cm hl h;have he:(Rows.laid_crimp_cells_quarters:DataW Unit).flat.map Lit.toCell=Ki:=by rfl
 rw[he]at hc;refine⟨World.block_lt_of_cell? W _ ((hc 0).trans rfl),λj v hj=>?_⟩;rw[Bt,hc j,hj]
theorem Bc8 {W:Aj} {l:List (String×DataW Unit)} (hl:("crimp/moves.turns",Rows.laid_crimp_moves_turns)∈l) (h:laidMet Tryz.prog l W):Tn W:=by
 have hc:=Xb (m:=9) (t:=202) (show Tryz.prog.globalNamed "crimp/moves.turns" =Af 0 by kernel_rfl) Cm Cm Cm hl h;refine⟨World.block_lt_of_cell? W _ ((hc 0).trans rfl),λt ht=>?_⟩;rw[hc,hc,hc,hc]
 match t,ht with
 |0,_=>exact⟨rfl,rfl,rfl,rfl⟩
 |1,_=>exact⟨rfl,rfl,rfl,rfl⟩
 |2,_=>exact⟨rfl,rfl,rfl,rfl⟩
 |3,_=>exact⟨rfl,rfl,rfl,rfl⟩
 |4,_=>exact⟨rfl,rfl,rfl,rfl⟩
 |5,_=>exact⟨rfl,rfl,rfl,rfl⟩
 |6,_=>exact⟨rfl,rfl,rfl,rfl⟩
 |7,_=>exact⟨rfl,rfl,rfl,rfl⟩
theorem Bb2 {W:Aj} {l:List (String×DataW Unit)} (hl:("internal/strconv.uint64pow10",Rows.laid_internal_strconv_uint64pow10)∈l) (h:laidMet Tryz.prog l W):Pw W:=by
 obtain⟨ps,hv,_⟩:=h;obtain⟨g',t',cs,fuel,p,hg',ht',hcs,htr⟩:=Yc hv hl;have hg:Tryz.prog.globalNamed "internal/strconv.uint64pow10" =Af 2:=Cm;have ht:(Tryz.prog.globals[2]?).map (·.type)=Af 333:=Cm;obtain rfl:=Option.some.inj (hg.symm.trans hg');obtain rfl:=Option.some.inj (ht.symm.trans ht');obtain⟨h1,_⟩:=keyLits_of_trod 9 _ Cm _ _ _ htr;have h2:=cells_of_lits 9 _ Cm _ _ _ h1;have he:(Rows.laid_internal_strconv_uint64pow10:DataW Unit).flat.map Lit.toCell=Lib.pow10Tab.map λz=>Value.int .u64 z:=Cm;unfold Pw Lib.TabIs;rw[hcs,←he,←h2]
end Go.Proofs.YthpcfeifmdbhnaaGreatDoor
namespace Go.Proofs.YthpcfeifmdbhnaaGreatDoor
open Go.ChangeShapes Go.WideShapes Go.ChangeAt Go.RowKit Go.Deep
theorem Xd1:Tryz.prog.underlying 37=Af (.slice 46):=Cm
theorem Xd5:Tryz.prog.underlying 46=Af (.slice 3):=Cm
theorem Xd8:Tryz.prog.underlying 3=Af (.int .i64):=Cm
theorem Xd9:Tryz.prog.cellsOf 46=1:=Cm
theorem Xd6:Tryz.prog.cellsOf 3=1:=Cm
theorem Xd7 {W:Aj} {a:Addr} {u:Ak} (h:W.cell? a=Af u):a.spot=Ae:=by
 unfold World.cell? at h
 split at h
 ·cases hs:a.spot with
  |none=>rfl
  |some s=>simp[hs]at h
 ·cases h
theorem Xe1 {a:Addr} (h:a.spot=Ae) (j:Nat):a.add j=⟨a.block,a.off+j,Ae⟩:=by
 unfold Addr.add
 split
 ·rename_i e;subst e;cases a;simp_all
 ·rfl
theorem Xa3 {W:Aj} {a:Addr} (n:Nat) (f:Nat→Ak) (h:∀i,i<n→W.cell? (a.add i)=Af (f i)):Rd W (Af a) 1 n ((List.range n).map f):=by
 refine⟨Cn,λhn=>?_⟩;have h0:=h 0 hn;rw[show a.add 0=a from rfl]at h0;have hs:=Xd7 h0;refine⟨a.block,a.off,by cases a;simp_all,World.block_lt_of_cell? W _ h0,λj u hu=>?_⟩;have hj:j<n:=by have:=(Ax.1 hu).1;simpa using this
 rw[List.getElem?_map,List.getElem?_range hj]at hu;simp only[Option.map_some,Option.some.injEq]at hu;rw[←Xe1 hs,h j hj,hu]
theorem Xa5 {H:Type} {enc:TypeId×Ak→H} {W:Aj} {fuel:Nat} {v:Ak} {y:DataW H×List MemPlace} (h:DataW.trod enc Tryz.prog W 0 (λ_=>true) true fuel 37 [v]=Af y):
  ∃A c R,v= Ad A R.length c∧Ik W A R∧R.length≤maxLen∧∀r∈R,r.ks.length≤maxLen∧∀x∈r.ks,(Lit.int .i64 x).wf=true:=by
 rcases open_int_rows Xd1 Xd5 Xd8 Xd9 Xd6 h with⟨hcs,_⟩|⟨a,len,cap,A,L,C,Z,hcs,_,hlc,hcm,_,hi⟩
 ·obtain rfl:v= Ad Ae 0 0:=by simpa using hcs
  exact⟨Ae,0,[],rfl,⟨Rd.nil,λ_=>rfl,Cn⟩,Cn,Cn⟩
 ·obtain rfl:v= Ad (Af a) len cap:=by simpa using hcs
  have hR:((List.range len).map λr=>(⟨A r,C r,(Z r).take (L r)⟩:Gq)).length=len:=Cn
  have hks:∀r,r<len→((Z r).take (L r)).length=L r:=λr hr=>by
   obtain⟨_,h1,_,h3,_⟩:=hi r Ci;rw[Bm,h3];omega
  refine⟨Af a,cap,(List.range len).map λr=>⟨A r,C r,(Z r).take (L r)⟩,by rw[hR],⟨?_,Cn,?_⟩,by rw[hR];omega,?_⟩
  ·rw[hR,List.map_map];refine Xa3 len _ λi hil=>?_;obtain⟨h0,_⟩:=hi i Ci;rw[h0];simp only[Function.comp,Gq.head,hks i hil]
  ·intro r hr;obtain⟨i,hi',rfl⟩:=List.mem_map.1 hr;have hil:i<len:=by simpa using hi'
   obtain⟨_,h1,h2,h3,h4,h5,h6⟩:=hi i Ci;have hk:=hks i hil;refine⟨?_,λhA=>?_⟩
   ·dsimp only;rw[hk]
    cases hA:A i with
    |none=>
     have:=h5 hA;have hL:L i=0:=Ci;rw[hL];simp only[List.take_zero,Ni,List.map_nil];exact Rd.nil
    |some a'=>
     have hc:=(h6 a' hA).2
     have hm:Ni ((Z i).take (L i))=(List.range (L i)).map λc=>Value.int .i64 ((Z i).getD c 0):=by
      apply List.ext_getElem?;intro j;unfold Ni;by_cases hj:j<L i
      ·have hjz:j<(Z i).length:=Ci;simp[hj,hjz,List.getD_eq_getElem?_getD]
      ·simp[hj,List.getElem?_take]
     rw[hm];exact Xa3 (L i) _ λc hc'=>hc c Ci
   ·dsimp only at hA⊢;have:=h5 hA;omega
  ·intro r hr;obtain⟨i,hi',rfl⟩:=List.mem_map.1 hr;have hil:i<len:=by simpa using hi'
   obtain⟨_,h1,h2,_,h4,_⟩:=hi i Ci;dsimp only;refine⟨by rw[hks i hil];omega,λx hx=>h4 x (List.mem_of_mem_take hx)⟩
end Go.Proofs.YthpcfeifmdbhnaaGreatDoor
namespace Go.Proofs.YthpcfeifmdbhnaaGreatDoor.serr
open Go.ChangeShapes Go.WideShapes Go.ChangeAt Go.RowKit Go.Deep
theorem own:ownKnob Tryz.prog.godebug=Ae:=Cm
theorem Ak1:laidOutB Tryz.prog=true:=Cm
abbrev Qs:List (String×DataW Unit):=[("math/bits.deBruijn32tab",Rows.laid_math_bits_deBruijn32tab),("math/bits.deBruijn64tab",Rows.laid_math_bits_deBruijn64tab),("internal/strconv.uint64pow10",Rows.laid_internal_strconv_uint64pow10),("crimp/moves.turns",Rows.laid_crimp_moves_turns),("crimp/cells.quarters",Rows.laid_crimp_cells_quarters)]
theorem yT {H:Type} {enc:TypeId×Ak→H} {P:Program} {f:Func} {s:ChangeSpec} {W W':Aj} {args:Array Ak} {v:Ak} {ds:List (DataW H)} {before:List MemPlace}
  (hW:DataW.Whole enc P f.params.toList s.vars false W args.toList ds [] before)
  (hres:∀(b:Nat) (sp:Nat→Bool) (hd:Bool),DataW.TrodAll enc P W' b sp hd f.resultTypes.toList (v.resultList f.resultTypes.size) (s.fn H (ds++[])).results [])
  (hargs:DataW.TrodAll enc P W' 0 (λb=>decide (b<W.heap.size)) true f.params.toList args.toList (s.fn H (ds++[])).args before)
  (hvars:∀sp:Nat→Bool,DataW.TrodVars enc P W' sp s.vars (s.fn H (ds++[])).vars [])
  (hb:Below W.heap.size W W'):s.post enc P f false true false false W args v W':=
 ⟨ds,[],before,[],before,[],hW,hres _ _ _,hargs,hvars _,World.keptBut_mono (λp hp=>⟨hp,.inr (by simpa using hp)⟩) (hb.frame (·∈before)),λh=>by cases h⟩
theorem Xc6:Tryz.prog.cellsOf 39=2:=Cm
theorem Xe0:Tryz.prog.readableRec 39=true:=Cm
theorem ltM:39<Tryz.prog.types.size:=of_decide_eq_true Cm
theorem Au0:Tryz.prog.cellsOf 23=3:=Cm
theorem Bb8:Tryz.prog.readableRec 23=true:=Cm
theorem ltG:23<Tryz.prog.types.size:=of_decide_eq_true Cm
theorem Bd0 {x:Int} (h:(Lit.int .u8 x).wf=true):0≤x∧x≤255:=by
 have hm:IntKind.u8.min=0:=rfl;have hM:IntKind.u8.max=255:=rfl;simp[Lit.wf]at h;omega
theorem mN {x:Int} (h:(Lit.int .u8 x).wf=true):∃k:Nat,x=k∧k≤255:=by
 have:=Bd0 h;exact⟨x.toNat,Ci,Ci⟩
theorem Av6 (os:Os) (started:os.Started) (H:Type) (enc:TypeId×Ak→H):
  ReturnsInHanded {} Tryz.checked os 5 .any (λw args=>(Rows.signaturesErrorsSpec.pre enc Tryz.prog Tryz.f5 [] false w args∧laidMetH Tryz.prog Qs w)∧sizedMet enc Tryz.prog Tryz.f5 (OpenSpec.ofChange Rows.signaturesErrorsSpec) false w args)
   (Rows.signaturesErrorsSpec.post enc Tryz.prog Tryz.f5 false true false false):=by
 refine returnsInHanded_of_change_and (C:=Tryz.checked) (X:=λw _=>laidMetH Tryz.prog Qs w) (λ_ _ _ hh h=>h.of_heap hh) own started Cm Tryz.func5
  (ChangeSpec.witness_shaped (enc:=enc) (C:=Tryz.checked) (os:=os) (X:=λw _=>laidMetH Tryz.prog Qs w) false (World.laidAll Tryz.prog os Qs) #[.agg #[Ad Ae 0 0,Ad Ae 0 0],.agg #[Aa Ac 0,Aa Ac 0,Aa Ac 0]] 8 (World.laidAll_os _ _ _)
   (World.shaped_of_ZipB Cm Cm) Cm Cm Cm
   (by rw[MakeChecks.laidMetH_plain _ _ _ Cm];exact laidMet_laidAll _ Cm Cm)) ?_
 intro W base args ds gs before hval0 hW _ _ hL _;have hval:∀(j:Nat) t v,Tryz.f5.params[j]? =Af t→args[j]? =Af v→Value.okWide Tryz.prog W .any base t v:=hval0;have hW':=hW;obtain⟨p,q,hA0,hV,rfl,hfz,hnd⟩:=hW;have hA:DataW.TrodAll enc Tryz.prog W 0 (λ_=>true) true Tryz.f5.params.toList args.toList ds p:=hA0;rw[Tryz.params5]at hA hval;obtain⟨v0,v1,d0,d1,p0,p1,rfl,rfl,rfl,h0,h1⟩:=trodAll_two hA;obtain⟨rfl,rfl⟩:=trodVars_none hV;obtain⟨z0,z1,u0,u1,m2,rfl,-,-,hu0,hu1⟩:=Joins.open_agg2 Tryz.underlying39 Cm Xc6 (hval 0 39 v0 rfl rfl) h0;obtain⟨x0,x1,x2,y0,y1,y2,m,rfl,-,-,hy0,hy1,hy2⟩:=Joins.open_agg3 Tryz.underlying23 Cm Au0 (hval 1 23 v1 rfl rfl) h1;obtain⟨FA,c1,fr,rfl,hF,-,-⟩:=Xa5 hu0;obtain⟨BA,c2,bk,rfl,hB,-,-⟩:=Xa5 hu1;obtain⟨n0,e0,-,k0⟩:=DataW.trod_int Tryz.underlying5 hy0;obtain⟨n1,e1,-,k1⟩:=DataW.trod_int Tryz.underlying5 hy1;obtain⟨n2,e2,-,k2⟩:=DataW.trod_int Tryz.underlying5 hy2;obtain rfl:x0= Aa Ac n0:=by simpa using e0
 obtain rfl:x1= Aa Ac n1:=by simpa using e1
 obtain rfl:x2= Aa Ac n2:=by simpa using e2
 obtain⟨n0,rfl,b0⟩:=mN k0;obtain⟨n1,rfl,b1⟩:=mN k1;obtain⟨n2,rfl,b2⟩:=mN k2;rw[MakeChecks.laidMetH_plain _ _ _ Cm]at hL;have hQ:Qf W:=Bb4 (l:=Qs) (by simp[Qs]) hL;have hT:Tn W:=Bc8 (l:=Qs) (by simp[Qs]) hL;have hP:Pw W:=Bb2 (l:=Qs) (by simp[Qs]) hL;clear hA0 hval0 e0 e1 e2;simp only[List.append_nil]at hW';refine(Xb4 fr bk FA BA fr.length bk.length c1 c2 rfl rfl n0 n1 n2 b0 b1 b2 W hF hB hQ hT hP).mono λe W' ⟨he,hb⟩=>?_;subst he;have hlt:∀y∈p0++p1,y.block<W.heap.size:=λy hy=>hW'.lt y hy;exact⟨_,rfl,yT hW' (λ_ _ _=>trodAll_mk1 (shut_bool Tryz.underlying4 _)) (trodAll_mk2 (Below.trod Ak1 Xe0 ltM h0 hb λy hy=>hlt y (by simp[hy])) (Below.trod Ak1 Bb8 ltG h1 hb λy hy=>hlt y (by simp[hy]))) (λ_=>rfl) hb⟩
theorem holds:Rows.SignaturesErrorsSaid:=
 OpenClaim.holds_of_wide 5 Tryz.f5 rfl rfl rfl rfl rfl rfl rfl ⟨rfl,rfl,rfl,rfl,rfl⟩ rfl rfl rfl rfl rfl Cm Tryz.func5 Av3
  (of_decide_eq_true Cm) (by unfold Func.isWrapper;first|(rw[if_pos (by decide+kernel)];kernel_rfl)|(rw[if_neg (by decide+kernel)];exact⟨rfl,rfl⟩))
  (λos started H enc _=>Av6 os started H enc)
end Go.Proofs.YthpcfeifmdbhnaaGreatDoor.serr
