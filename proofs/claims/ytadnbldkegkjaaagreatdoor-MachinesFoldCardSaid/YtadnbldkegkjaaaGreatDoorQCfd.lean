/- The card of MachinesFold: for every F and every station the law returns true, where the listed package variables lie as the program's text lays them. -/
import Derived.Test.YtadnbldkegkjaaaGreatDoorQLfd
import Derived.Test.YtadnbldkegkjaaaGreatDoorQOqb
import Derived.Test.YtadnbldkegkjaaaGreatDoorQMjf
import Derived.Test.YtadnbldkegkjaaaGreatDoorTie
import Derived.Test.YtadnbldkegkjaaaGreatDoorCards
import Derived.Lib.SmallJoins
import Derived.Lay
import Derived.SevenTiedAt
import Derived.OpenShut
import Derived.ProofKit
import Derived.Deep.Slices
import Derived.Deep.Fields
import Derived.Carry
import Derived.LaidLaws
import Derived.LaidMore
import Derived.Stop.Joined
import Derived.HandedShaped
import Derived.Shelf.Vars
open Go renaming Value→Ah,World→Ag
open Go.IntKind renaming i64→Ab,u8→Ac
open Go.Value renaming int→Aa,slice→Ad
open List renaming append_assoc→Bg
set_option maxRecDepth 100000
namespace Go.Proofs.YtadnbldkegkjaaaGreatDoor.mfld
open Go.ChangeShapes Go.WideShapes Go.ChangeAt Go.RowKit Go.Deep
theorem own:ownKnob Tryz.prog.godebug=none:=by kernel_rfl
theorem Xz:laidOutB Tryz.prog=true:=by kernel_rfl
abbrev Sh:List (String×DataW Unit):=[("crimp/moves.turns",Rows.laid_crimp_moves_turns),("crimp/cells.quarters",Rows.laid_crimp_cells_quarters)]
theorem qW {H:Type} {enc:TypeId×Ah→H} {P:Program} {f:Func} {s:ChangeSpec} {W W':Ag} {args:Array Ah} {v:Ah} {ds:List (DataW H)} {before:List MemPlace}
  (hW:DataW.Whole enc P f.params.toList s.vars false W args.toList ds [] before)
  (hres:∀(b:Nat) (sp:Nat→Bool) (hd:Bool),DataW.TrodAll enc P W' b sp hd f.resultTypes.toList (v.resultList f.resultTypes.size) (s.fn H (ds++[])).results [])
  (hargs:DataW.TrodAll enc P W' 0 (fun b=>decide (b<W.heap.size)) true f.params.toList args.toList (s.fn H (ds++[])).args before)
  (hvars:∀sp:Nat→Bool,DataW.TrodVars enc P W' sp s.vars (s.fn H (ds++[])).vars [])
  (hb:Below W.heap.size W W'):s.post enc P f false true false false W args v W':=
 ⟨ds,[],before,[],before,[],hW,hres _ _ _,hargs,hvars _,World.keptBut_mono (fun p hp=>⟨hp,.inr (by simpa using hp)⟩) (hb.frame (·∈before)),fun h=>by cases h⟩
theorem zW:Tryz.prog.cellsOf 24=3:=by kernel_rfl
theorem Ai7:Tryz.prog.readableRec 24=true:=by kernel_rfl
theorem ltF:24<Tryz.prog.types.size:=of_decide_eq_true (by kernel_rfl)
theorem zX:Tryz.prog.cellsOf 56=3:=by kernel_rfl
theorem Ai9:Tryz.prog.readableRec 56=true:=by kernel_rfl
theorem ltK:56<Tryz.prog.types.size:=of_decide_eq_true (by kernel_rfl)
theorem Uo {x:Int} (h:(Lit.int .u8 x).wf=true):∃k:Nat,x=k∧k≤255:=by
 have:=cQ h;exact⟨x.toNat,by omega,by omega⟩
theorem Aa9 (os:Os) (started:os.Started) (H:Type) (enc:TypeId×Ah→H):
  ReturnsInHanded {} Tryz.checked os 4 .any (fun w args=>(Rows.machinesFoldSpec.pre enc Tryz.prog Tryz.f4 [] false w args∧laidMetH Tryz.prog Sh w)∧sizedMet enc Tryz.prog Tryz.f4 (OpenSpec.ofChange Rows.machinesFoldSpec) false w args)
   (Rows.machinesFoldSpec.post enc Tryz.prog Tryz.f4 false true false false):=by
 refine returnsInHanded_of_change_and (C:=Tryz.checked) (X:=fun w _=>laidMetH Tryz.prog Sh w) (fun _ _ _ hh h=>h.of_heap hh) own started (by kernel_rfl) Tryz.func4
  (ChangeSpec.witness_shaped (enc:=enc) (C:=Tryz.checked) (os:=os) (X:=fun w _=>laidMetH Tryz.prog Sh w) false (World.laidAll Tryz.prog os Sh) #[.agg #[Aa Ac 0,Aa Ac 0,Ad none 0 0],.agg #[Aa Ac 0,Aa Ab 0,.bool false]] 6 (World.laidAll_os _ _ _)
   (World.shaped_of_ZipB (by kernel_rfl) (by kernel_rfl)) (by kernel_rfl) (by kernel_rfl) (by kernel_rfl)
   (by rw[MakeChecks.laidMetH_plain _ _ _ (by kernel_rfl)];exact laidMet_laidAll _ (by kernel_rfl) (by kernel_rfl))) ?_
 intro W base args ds gs before hval0 hW _ _ hL _;have hval:∀(j:Nat) t v,Tryz.f4.params[j]? =some t→args[j]? =some v→Value.okWide Tryz.prog W .any base t v:=hval0;have hW':=hW;obtain⟨p,q,hA0,hV,rfl,hfz,hnd⟩:=hW;have hA:DataW.TrodAll enc Tryz.prog W 0 (fun _=>true) true Tryz.f4.params.toList args.toList ds p:=hA0;rw[Tryz.params4]at hA hval;obtain⟨v0,v1,d0,d1,p0,p1,rfl,rfl,rfl,h0,h1⟩:=trodAll_two hA;obtain⟨rfl,rfl⟩:=trodVars_none hV;obtain⟨x0,x1,x2,y0,y1,y2,m,rfl,-,-,hy0,hy1,hy2⟩:=Joins.open_agg3 Tryz.underlying24 (by kernel_rfl) zW (hval 0 24 v0 rfl rfl) h0;obtain⟨z0,z1,z2,u0,u1,u2,m2,rfl,-,-,hu0,hu1,hu2⟩:=Joins.open_agg3 Tryz.underlying56 (by kernel_rfl) zX (hval 1 56 v1 rfl rfl) h1;obtain⟨n0,e0,-,k0⟩:=DataW.trod_int Tryz.underlying5 hy0;obtain⟨n1,e1,-,k1⟩:=DataW.trod_int Tryz.underlying5 hy1;obtain⟨pF,cF,ks,rfl,hrF,hks,hnF⟩:=xO hy2;obtain⟨n2,e2,-,k2⟩:=DataW.trod_int Tryz.underlying54 hu0;obtain⟨tp,e3,-,k3⟩:=DataW.trod_int Tryz.underlying3 hu1;obtain⟨tv,e4,-⟩:=DataW.trod_bool Tryz.underlying4 hu2;obtain rfl:x0= Aa Ac n0:=by simpa using e0
 obtain rfl:x1= Aa Ac n1:=by simpa using e1
 obtain rfl:z0= Aa Ac n2:=by simpa using e2
 obtain rfl:z1= Aa Ab tp:=by simpa using e3
 obtain rfl:z2= .bool tv:=by simpa using e4
 obtain⟨n0,rfl,b0⟩:=Uo k0;obtain⟨n1,rfl,b1⟩:=Uo k1;obtain⟨n2,rfl,b2⟩:=Uo k2;rw[MakeChecks.laidMetH_plain _ _ _ (by kernel_rfl)]at hL;have hQ:Qf W:=Ai0 (l:=Sh) (by simp[Sh]) hL;have hT:Tn W:=Ak1 (l:=Sh) (by simp[Sh]) hL;clear hA0 hval0 e0 e1 e2 e3 e4;simp only[List.append_nil]at hW';refine(lfd_any n0 n1 ks hks ks.length rfl hnF pF cF n2 tp tv W hrF hQ hT).mono fun e W' ⟨he,hb⟩=>?_;subst he;have hlt:∀y∈p0++p1,y.block<W.heap.size:=fun y hy=>hW'.lt y hy;refine⟨_,rfl,qW hW' (fun _ _ _=>trodAll_mk1 (shut_bool Tryz.underlying4 _)) ?_ (fun _=>rfl) hb⟩
 first|rw[Bg]|skip
 exact trodAll_mk2 (Below.trod Xz Ai7 ltF h0 hb fun y hy=>hlt y (by simp[hy])) (Below.trod Xz Ai9 ltK h1 hb fun y hy=>hlt y (by simp[hy]))
theorem holds:Rows.MachinesFoldSaid:=
 OpenClaim.holds_of_wide 4 Tryz.f4 rfl rfl rfl rfl rfl rfl rfl ⟨rfl,rfl,rfl,rfl,rfl⟩ rfl rfl rfl rfl rfl (by kernel_rfl) Tryz.func4 Aa6
  (of_decide_eq_true (by kernel_rfl)) (by unfold Func.isWrapper;first|(rw[if_pos (by decide+kernel)];kernel_rfl)|(rw[if_neg (by decide+kernel)];exact⟨rfl,rfl⟩))
  (fun os started H enc _=>Aa9 os started H enc)
theorem card:Rows.MachinesFoldCardSaid:=
 Claim7.holds_tied_plain_at .later [] _ _ _ _ holds (fun _ h=>by cases h) (by kernel_rfl) (fun _ h=>by cases h) machinesFold_row_tie rfl ⟨rfl,rfl⟩ (by kernel_rfl) rfl
  (fun f fn hf hfn=>by
   obtain rfl:f=4:=Option.some.inj ((show Tryz.prog.funcNamed "crimp/crimplaw41.MachinesFold" =some 4 by kernel_rfl).symm.trans hf)|>.symm;obtain rfl:fn=Tryz.f4:=(Option.some.inj (Tryz.func4.symm.trans hfn)).symm
   exact⟨by kernel_rfl,fun j t ht=>by
    rw[Tryz.params4]at ht;have hm:t∈[24,56]:=by simpa using Array.mem_of_getElem? ht
    have hall:([24,56].all fun u=> !Tryz.prog.wantsStandIn u)=true:=by kernel_rfl
    exact(show Tryz.prog.wantsStandIn t=false by simpa using List.all_eq_true.1 hall t hm)⟩)
  (by kernel_rfl)
#print axioms card
end Go.Proofs.YtadnbldkegkjaaaGreatDoor.mfld
