import Derived.Test.YthpcfeifmdbhnaaGreatDoorQCrd
import Derived.Test.YthpcfeifmdbhnaaGreatDoorQHvg
import Derived.Test.YthpcfeifmdbhnaaGreatDoorRows
import Derived.DeepKeys2
import Derived.MapViews
import Derived.OpenShut
import Derived.LaidLaws
import Derived.LaidMore
import Derived.Carry
import Derived.Test.YthpcfeifmdbhnaaGreatDoorQLra
import Derived.Test.YthpcfeifmdbhnaaGreatDoorQRje
import Derived.Test.YthpcfeifmdbhnaaGreatDoorTie
import Derived.Test.YthpcfeifmdbhnaaGreatDoorCards
import Derived.Lib.SmallJoins
import Derived.Lay
import Derived.SevenTiedAt
import Derived.ProofKit
import Derived.Deep.Slices
import Derived.Deep.Fields
import Derived.Stop.Joined
import Derived.HandedShaped
import Derived.Shelf.Vars
open Go renaming Value→Ak,World→Aj
open Go.IntKind renaming u8→Ac
open Go.Value renaming int→Aa
open List renaming mem_cons→Bk
open Nat renaming zero_add→Bt
open Option renaming none→Ae,some→Af
set_option maxRecDepth 100000
namespace Go.Proofs.YthpcfeifmdbhnaaGreatDoor
open Go.RowKit
theorem Yc {P:Program} {W:Aj} {n:String} {d:DataW Unit}:∀{l:List (String×DataW Unit)} {ps:List MemPlace},DataW.LaidVars P W l ps→(n,d)∈l→∃g t cs fuel p,P.globalNamed n=Af g∧(P.globals[g]?).map (·.type)=Af t∧W.var? P n=Af cs∧DataW.trod (λ_=>()) P W 0 (λ_=>true) false fuel t cs.toList=Af (d,p)
 |(n',d')::r,ps,h,hm=>by
  obtain⟨g,t,cs,fuel,p,q,h1,h2,h3,h4,h5,_⟩:=h;rcases Bk.1 hm with e|hm
  ·injection e with e1 e2;subst e1;subst e2;exact⟨g,t,cs,fuel,p,h1,h2,h3,h4⟩
  ·exact Yc h5 hm
theorem Xb {P:Program} {W:Aj} {n:String} {d:DataW Unit} {l:List (String×DataW Unit)} {g t:Nat} (hg:P.globalNamed n=Af g) (ht:(P.globals[g]?).map (·.type)=Af t) {m:Nat} (hk:P.keyTypeAt m t=true) (hti:P.tiled m t=true)
  (hl:(n,d)∈l) (h:laidMet P l W) (i:Nat):W.cell? ⟨g,i,Ae⟩=(d.flat.map Lit.toCell)[i]? :=by
 obtain⟨ps,hv,_⟩:=h;obtain⟨g',t',cs,fuel,p,hg',ht',hcs,htr⟩:=Yc hv hl;obtain rfl:=Option.some.inj (hg.symm.trans hg');obtain rfl:=Option.some.inj (ht.symm.trans ht');obtain⟨h1,_⟩:=keyLits_of_trod m _ hk _ _ _ htr;have h2:=cells_of_lits m _ hti _ _ _ h1;rw[World.var?_cell hg hcs i];rw[←h2];simp
theorem Bb4 {W:Aj} {l:List (String×DataW Unit)} (hl:("crimp/cells.quarters",Rows.laid_crimp_cells_quarters)∈l) (h:laidMet Tryz.prog l W):Qf W:=by
 have hc:=Xb (m:=9) (t:=283) (show Tryz.prog.globalNamed "crimp/cells.quarters" =Af 1 by kernel_rfl) Cm Cm Cm hl h;have he:(Rows.laid_crimp_cells_quarters:DataW Unit).flat.map Lit.toCell=Ki:=by rfl
 rw[he]at hc;refine⟨World.block_lt_of_cell? W _ ((hc 0).trans rfl),λj v hj=>?_⟩;rw[Bt,hc j,hj]
theorem Bc8 {W:Aj} {l:List (String×DataW Unit)} (hl:("crimp/moves.turns",Rows.laid_crimp_moves_turns)∈l) (h:laidMet Tryz.prog l W):Tn W:=by
 have hc:=Xb (m:=9) (t:=202) (show Tryz.prog.globalNamed "crimp/moves.turns" =Af 0 by kernel_rfl) Cm Cm Cm hl h;refine⟨World.block_lt_of_cell? W _ ((hc 0).trans rfl),λt ht=>?_⟩;rw[hc,hc,hc,hc]
 match t,ht with
 |0,_=>exact⟨rfl,rfl,rfl,rfl⟩
 |1,_=>exact⟨rfl,rfl,rfl,rfl⟩
 |2,_=>exact⟨rfl,rfl,rfl,rfl⟩
 |3,_=>exact⟨rfl,rfl,rfl,rfl⟩
 |4,_=>exact⟨rfl,rfl,rfl,rfl⟩
 |5,_=>exact⟨rfl,rfl,rfl,rfl⟩
 |6,_=>exact⟨rfl,rfl,rfl,rfl⟩
 |7,_=>exact⟨rfl,rfl,rfl,rfl⟩
theorem Bb2 {W:Aj} {l:List (String×DataW Unit)} (hl:("internal/strconv.uint64pow10",Rows.laid_internal_strconv_uint64pow10)∈l) (h:laidMet Tryz.prog l W):Pw W:=by
 obtain⟨ps,hv,_⟩:=h;obtain⟨g',t',cs,fuel,p,hg',ht',hcs,htr⟩:=Yc hv hl;have hg:Tryz.prog.globalNamed "internal/strconv.uint64pow10" =Af 2:=Cm;have ht:(Tryz.prog.globals[2]?).map (·.type)=Af 333:=Cm;obtain rfl:=Option.some.inj (hg.symm.trans hg');obtain rfl:=Option.some.inj (ht.symm.trans ht');obtain⟨h1,_⟩:=keyLits_of_trod 9 _ Cm _ _ _ htr;have h2:=cells_of_lits 9 _ Cm _ _ _ h1;have he:(Rows.laid_internal_strconv_uint64pow10:DataW Unit).flat.map Lit.toCell=Lib.pow10Tab.map λz=>Value.int .u64 z:=Cm;unfold Pw Lib.TabIs;rw[hcs,←he,←h2]
end Go.Proofs.YthpcfeifmdbhnaaGreatDoor
namespace Go.Proofs.YthpcfeifmdbhnaaGreatDoor.sread
open Go.ChangeShapes Go.WideShapes Go.ChangeAt Go.RowKit Go.Deep
theorem own:ownKnob Tryz.prog.godebug=Ae:=Cm
theorem Ak1:laidOutB Tryz.prog=true:=Cm
abbrev Qs:List (String×DataW Unit):=[("math/bits.deBruijn32tab",Rows.laid_math_bits_deBruijn32tab),("math/bits.deBruijn64tab",Rows.laid_math_bits_deBruijn64tab),("internal/strconv.uint64pow10",Rows.laid_internal_strconv_uint64pow10),("crimp/moves.turns",Rows.laid_crimp_moves_turns),("crimp/cells.quarters",Rows.laid_crimp_cells_quarters)]
theorem yT {H:Type} {enc:TypeId×Ak→H} {P:Program} {f:Func} {s:ChangeSpec} {W W':Aj} {args:Array Ak} {v:Ak} {ds:List (DataW H)} {before:List MemPlace}
  (hW:DataW.Whole enc P f.params.toList s.vars false W args.toList ds [] before)
  (hres:∀(b:Nat) (sp:Nat→Bool) (hd:Bool),DataW.TrodAll enc P W' b sp hd f.resultTypes.toList (v.resultList f.resultTypes.size) (s.fn H (ds++[])).results [])
  (hargs:DataW.TrodAll enc P W' 0 (λb=>decide (b<W.heap.size)) true f.params.toList args.toList (s.fn H (ds++[])).args before)
  (hvars:∀sp:Nat→Bool,DataW.TrodVars enc P W' sp s.vars (s.fn H (ds++[])).vars [])
  (hb:Below W.heap.size W W'):s.post enc P f false true false false W args v W':=
 ⟨ds,[],before,[],before,[],hW,hres _ _ _,hargs,hvars _,World.keptBut_mono (λp hp=>⟨hp,.inr (by simpa using hp)⟩) (hb.frame (·∈before)),λh=>by cases h⟩
theorem Au0:Tryz.prog.cellsOf 23=3:=Cm
theorem Bb8:Tryz.prog.readableRec 23=true:=Cm
theorem ltG:23<Tryz.prog.types.size:=of_decide_eq_true Cm
theorem Bd0 {x:Int} (h:(Lit.int .u8 x).wf=true):0≤x∧x≤255:=by
 have hm:IntKind.u8.min=0:=rfl;have hM:IntKind.u8.max=255:=rfl;simp[Lit.wf]at h;omega
theorem mN {x:Int} (h:(Lit.int .u8 x).wf=true):∃k:Nat,x=k∧k≤255:=by
 have:=Bd0 h;exact⟨x.toNat,Ci,Ci⟩
theorem Av6 (os:Os) (started:os.Started) (H:Type) (enc:TypeId×Ak→H):
  ReturnsInHanded {} Tryz.checked os 3 .any (λw args=>(Rows.signaturesReadSpec.pre enc Tryz.prog Tryz.f3 [] false w args∧laidMetH Tryz.prog Qs w)∧sizedMet enc Tryz.prog Tryz.f3 (OpenSpec.ofChange Rows.signaturesReadSpec) false w args)
   (Rows.signaturesReadSpec.post enc Tryz.prog Tryz.f3 false true false false):=by
 refine returnsInHanded_of_change_and (C:=Tryz.checked) (X:=λw _=>laidMetH Tryz.prog Qs w) (λ_ _ _ hh h=>h.of_heap hh) own started Cm Tryz.func3
  (ChangeSpec.witness_shaped (enc:=enc) (C:=Tryz.checked) (os:=os) (X:=λw _=>laidMetH Tryz.prog Qs w) false (World.laidAll Tryz.prog os Qs) #[.agg #[Aa Ac 0,Aa Ac 0,Aa Ac 0]] 8 (World.laidAll_os _ _ _)
   (World.shaped_of_ZipB Cm Cm) Cm Cm Cm
   (by rw[MakeChecks.laidMetH_plain _ _ _ Cm];exact laidMet_laidAll _ Cm Cm)) ?_
 intro W base args ds gs before hval0 hW _ _ hL _;have hval:∀(j:Nat) t v,Tryz.f3.params[j]? =Af t→args[j]? =Af v→Value.okWide Tryz.prog W .any base t v:=hval0;have hW':=hW;obtain⟨p,q,hA0,hV,rfl,hfz,hnd⟩:=hW;have hA:DataW.TrodAll enc Tryz.prog W 0 (λ_=>true) true Tryz.f3.params.toList args.toList ds p:=hA0;rw[Tryz.params3]at hA hval;obtain⟨v0,d0,rfl,rfl,h0⟩:=trodAll_one hA;obtain⟨rfl,rfl⟩:=trodVars_none hV;obtain⟨x0,x1,x2,y0,y1,y2,m,rfl,-,-,hy0,hy1,hy2⟩:=Joins.open_agg3 Tryz.underlying23 Cm Au0 (hval 0 23 v0 rfl rfl) h0;obtain⟨n0,e0,-,k0⟩:=DataW.trod_int Tryz.underlying5 hy0;obtain⟨n1,e1,-,k1⟩:=DataW.trod_int Tryz.underlying5 hy1;obtain⟨n2,e2,-,k2⟩:=DataW.trod_int Tryz.underlying5 hy2;obtain rfl:x0= Aa Ac n0:=by simpa using e0
 obtain rfl:x1= Aa Ac n1:=by simpa using e1
 obtain rfl:x2= Aa Ac n2:=by simpa using e2
 obtain⟨n0,rfl,b0⟩:=mN k0;obtain⟨n1,rfl,b1⟩:=mN k1;obtain⟨n2,rfl,b2⟩:=mN k2;rw[MakeChecks.laidMetH_plain _ _ _ Cm]at hL;have hQ:Qf W:=Bb4 (l:=Qs) (by simp[Qs]) hL;have hT:Tn W:=Bc8 (l:=Qs) (by simp[Qs]) hL;have hP:Pw W:=Bb2 (l:=Qs) (by simp[Qs]) hL;clear hA0 hval0 e0 e1 e2;simp only[List.append_nil]at hW';refine(tT n0 n1 n2 b0 b1 b2 W hQ hT hP).mono λe W' ⟨he,hb⟩=>?_;subst he;have hlt:∀y∈p,y.block<W.heap.size:=λy hy=>hW'.lt y hy;exact⟨_,rfl,yT hW' (λ_ _ _=>trodAll_mk1 (shut_bool Tryz.underlying4 _)) (trodAll_mk1 (Below.trod Ak1 Bb8 ltG h0 hb λy hy=>hlt y hy)) (λ_=>rfl) hb⟩
theorem holds:Rows.SignaturesReadSaid:=
 OpenClaim.holds_of_wide 3 Tryz.f3 rfl rfl rfl rfl rfl rfl rfl ⟨rfl,rfl,rfl,rfl,rfl⟩ rfl rfl rfl rfl rfl Cm Tryz.func3 Av3
  (of_decide_eq_true Cm) (by unfold Func.isWrapper;first|(rw[if_pos (by decide+kernel)];kernel_rfl)|(rw[if_neg (by decide+kernel)];exact⟨rfl,rfl⟩))
  (λos started H enc _=>Av6 os started H enc)
end Go.Proofs.YthpcfeifmdbhnaaGreatDoor.sread
