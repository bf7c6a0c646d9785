import Derived.Test.YteoffhpfcgffcaaGreatDoorQLer
import Derived.Test.YteoffhpfcgffcaaGreatDoorQPln
import Derived.Test.YteoffhpfcgffcaaGreatDoorQMje
import Derived.Test.YteoffhpfcgffcaaGreatDoorTie
import Derived.Test.YteoffhpfcgffcaaGreatDoorCards
import Derived.Lib.SmallJoins
import Derived.Lay
import Derived.SevenTiedAt
import Derived.OpenShut
import Derived.ProofKit
import Derived.Deep.Slices
import Derived.Deep.Fields
import Derived.Carry
import Derived.LaidLaws
import Derived.LaidMore
import Derived.Stop.Joined
import Derived.HandedShaped
import Derived.Shelf.Vars
open Go renaming Value→Ah,World→Ag
open Go.IntKind renaming i64→Ab,u8→Ac
open Go.Value renaming int→Aa,slice→Ad
open List renaming append_assoc→Bg
set_option maxRecDepth 100000
namespace Go.Proofs.YteoffhpfcgffcaaGreatDoor.merr
open Go.ChangeShapes Go.WideShapes Go.ChangeAt Go.RowKit Go.Deep
theorem own:ownKnob Tryz.prog.godebug=none:=by kernel_rfl
theorem Xz:laidOutB Tryz.prog=true:=by kernel_rfl
abbrev Sh:List (String×DataW Unit):=[("math/bits.deBruijn32tab",Rows.laid_math_bits_deBruijn32tab),("math/bits.deBruijn64tab",Rows.laid_math_bits_deBruijn64tab),("internal/strconv.uint64pow10",Rows.laid_internal_strconv_uint64pow10),("crimp/moves.turns",Rows.laid_crimp_moves_turns),("crimp/cells.quarters",Rows.laid_crimp_cells_quarters)]
theorem qW {H:Type} {enc:TypeId×Ah→H} {P:Program} {f:Func} {s:ChangeSpec} {W W':Ag} {args:Array Ah} {v:Ah} {ds:List (DataW H)} {before:List MemPlace}
  (hW:DataW.Whole enc P f.params.toList s.vars false W args.toList ds [] before)
  (hres:∀(b:Nat) (sp:Nat→Bool) (hd:Bool),DataW.TrodAll enc P W' b sp hd f.resultTypes.toList (v.resultList f.resultTypes.size) (s.fn H (ds++[])).results [])
  (hargs:DataW.TrodAll enc P W' 0 (fun b=>decide (b<W.heap.size)) true f.params.toList args.toList (s.fn H (ds++[])).args before)
  (hvars:∀sp:Nat→Bool,DataW.TrodVars enc P W' sp s.vars (s.fn H (ds++[])).vars [])
  (hb:Below W.heap.size W W'):s.post enc P f false true false false W args v W':=
 ⟨ds,[],before,[],before,[],hW,hres _ _ _,hargs,hvars _,World.keptBut_mono (fun p hp=>⟨hp,.inr (by simpa using hp)⟩) (hb.frame (·∈before)),fun h=>by cases h⟩
theorem zW:Tryz.prog.cellsOf 27=3:=by kernel_rfl
theorem Ai7:Tryz.prog.readableRec 27=true:=by kernel_rfl
theorem ltF:27<Tryz.prog.types.size:=of_decide_eq_true (by kernel_rfl)
theorem cellsM:Tryz.prog.cellsOf 24=4:=by kernel_rfl
theorem readM:Tryz.prog.readableRec 24=true:=by kernel_rfl
theorem ltM:24<Tryz.prog.types.size:=of_decide_eq_true (by kernel_rfl)
theorem readB:Tryz.prog.readableRec 4=true:=by kernel_rfl
theorem ltB:4<Tryz.prog.types.size:=of_decide_eq_true (by kernel_rfl)
theorem Uo {x:Int} (h:(Lit.int .u8 x).wf=true):∃k:Nat,x=k∧k≤255:=by
 have:=cQ h;exact⟨x.toNat,by omega,by omega⟩
theorem Aa9 (os:Os) (started:os.Started) (H:Type) (enc:TypeId×Ah→H):
  ReturnsInHanded {} Tryz.checked os 3 .any (fun w args=>(Rows.machinesErrorsSpec.pre enc Tryz.prog Tryz.f3 [] false w args∧laidMetH Tryz.prog Sh w)∧sizedMet enc Tryz.prog Tryz.f3 (OpenSpec.ofChange Rows.machinesErrorsSpec) false w args)
   (Rows.machinesErrorsSpec.post enc Tryz.prog Tryz.f3 false true false false):=by
 refine returnsInHanded_of_change_and (C:=Tryz.checked) (X:=fun w _=>laidMetH Tryz.prog Sh w) (fun _ _ _ hh h=>h.of_heap hh) own started (by kernel_rfl) Tryz.func3
  (ChangeSpec.witness_shaped (enc:=enc) (C:=Tryz.checked) (os:=os) (X:=fun w _=>laidMetH Tryz.prog Sh w) false (World.laidAll Tryz.prog os Sh) #[.agg #[Aa Ab 0,Aa Ab 0,Aa Ab 0,Ad none 0 0],.agg #[Aa Ac 0,Aa Ac 0,Ad none 0 0],.bool false] 8 (World.laidAll_os _ _ _)
   (World.shaped_of_ZipB (by kernel_rfl) (by kernel_rfl)) (by kernel_rfl) (by kernel_rfl) (by kernel_rfl)
   (by rw[MakeChecks.laidMetH_plain _ _ _ (by kernel_rfl)];exact laidMet_laidAll _ (by kernel_rfl) (by kernel_rfl))) ?_
 intro W base args ds gs before hval0 hW _ _ hL _;have hval:∀(j:Nat) t v,Tryz.f3.params[j]? =some t→args[j]? =some v→Value.okWide Tryz.prog W .any base t v:=hval0;have hW':=hW;obtain⟨p,q,hA0,hV,rfl,hfz,hnd⟩:=hW;have hA:DataW.TrodAll enc Tryz.prog W 0 (fun _=>true) true Tryz.f3.params.toList args.toList ds p:=hA0;rw[Tryz.params3]at hA hval;obtain⟨v0,v1,v2,d0,d1,d2,p0,p1,p2,rfl,rfl,rfl,h0,h1,h2⟩:=trodAll_three hA;obtain⟨rfl,rfl⟩:=trodVars_none hV;obtain⟨z0,z1,z2,z3,u0,u1,u2,u3,m2,rfl,-,-,hu0,hu1,hu2,hu3⟩:=Joins.open_agg4 Tryz.underlying24 (by kernel_rfl) cellsM (hval 0 24 v0 rfl rfl) h0;obtain⟨x0,x1,x2,y0,y1,y2,m,rfl,-,-,hy0,hy1,hy2⟩:=Joins.open_agg3 Tryz.underlying27 (by kernel_rfl) zW (hval 1 27 v1 rfl rfl) h1;obtain⟨sp,rfl,-,-⟩:=open_bool Tryz.underlying4 (hval 2 4 v2 rfl rfl) h2;obtain⟨n0,e0,-,k0⟩:=DataW.trod_int Tryz.underlying5 hy0;obtain⟨n1,e1,-,k1⟩:=DataW.trod_int Tryz.underlying5 hy1;obtain⟨pF,cF,ks,rfl,hrF,hks,hnF⟩:=xO hy2;obtain⟨ma,e2,-,-⟩:=DataW.trod_int Tryz.underlying3 hu0;obtain⟨mb,e3,-,-⟩:=DataW.trod_int Tryz.underlying3 hu1;obtain⟨mcc,e4,-,-⟩:=DataW.trod_int Tryz.underlying3 hu2;obtain⟨pK,cK,ts,rfl,hrK,hnK⟩:=open_st hu3;obtain rfl:x0= Aa Ac n0:=by simpa using e0
 obtain rfl:x1= Aa Ac n1:=by simpa using e1
 obtain rfl:z0= Aa Ab ma:=by simpa using e2
 obtain rfl:z1= Aa Ab mb:=by simpa using e3
 obtain rfl:z2= Aa Ab mcc:=by simpa using e4
 obtain⟨n0,rfl,b0⟩:=Uo k0;obtain⟨n1,rfl,b1⟩:=Uo k1;rw[MakeChecks.laidMetH_plain _ _ _ (by kernel_rfl)]at hL;have hQ:Qf W:=Ai0 (l:=Sh) (by simp[Sh]) hL;have hT:Tn W:=Ak1 (l:=Sh) (by simp[Sh]) hL;clear hA0 hval0 e0 e1 e2 e3 e4;simp only[List.append_nil]at hW';refine(ler_any ⟨ma,mb,mcc,ts⟩ pK ts.length cK rfl hnK n0 n1 ks hks ks.length rfl hnF pF cF sp W hrK hrF hQ hT).mono fun e W' ⟨he,hb⟩=>?_;subst he;have hlt:∀y∈p0++p1++p2,y.block<W.heap.size:=fun y hy=>hW'.lt y hy;refine⟨_,rfl,qW hW' (fun _ _ _=>trodAll_mk1 (shut_bool Tryz.underlying4 _)) ?_ (fun _=>rfl) hb⟩
 first|rw[Bg]|skip
 exact trodAll_mk3 (Below.trod Xz readM ltM h0 hb fun y hy=>hlt y (by simp[hy])) (Below.trod Xz Ai7 ltF h1 hb fun y hy=>hlt y (by simp[hy])) (Below.trod Xz readB ltB h2 hb fun y hy=>hlt y (by simp[hy]))
theorem holds:Rows.MachinesErrorsSaid:=
 OpenClaim.holds_of_wide 3 Tryz.f3 rfl rfl rfl rfl rfl rfl rfl ⟨rfl,rfl,rfl,rfl,rfl⟩ rfl rfl rfl rfl rfl (by kernel_rfl) Tryz.func3 Aa6
  (of_decide_eq_true (by kernel_rfl)) (by unfold Func.isWrapper;first|(rw[if_pos (by decide+kernel)];kernel_rfl)|(rw[if_neg (by decide+kernel)];exact⟨rfl,rfl⟩))
  (fun os started H enc _=>Aa9 os started H enc)
end Go.Proofs.YteoffhpfcgffcaaGreatDoor.merr
