import Derived.Test.YthpcfeifmdbhnaaGreatDoorQCel2
import Derived.Shelf.SlGeneric
import Derived.Test.YthpcfeifmdbhnaaGreatDoorQSog
import Derived.Test.YthpcfeifmdbhnaaGreatDoorQStk
import Derived.Shelf.Sort.Plain
import Derived.Shelf.Slices.In.SortNone
import Derived.Sort.OwnSortedInts
import Derived.Shelf.Slices.Reverse
import Derived.RangeFuncNested
import Derived.RangeFuncBound
import Derived.RangeFuncCalls
import Derived.RangeFuncLeaves
import Derived.RangeFuncBox
import Derived.Shelf.Abstract
import Derived.WalkKit
import Derived.OwnWalkIn
import Derived.TacticsInMore
import Derived.LoopNIn
import Derived.LoopIn
import Derived.Maps.AppendAt
import Derived.Test.YthpcfeifmdbhnaaGreatDoorQCrd
import Derived.BigRegion
open Array renaming getElem?_eq_some_iff→Au
open Go renaming Calls→Al,Value→Ak,World→Aj,bodyPost_ret→Ai,cell_of_row→By,heap_alloc_new→Bz
open Go.IntKind renaming i64→Ab,u8→Ac
open Go.IntWalk renaming i64_in→Ca
open Go.Lib renaming hid→Ah
open Go.RowKit.Below renaming refl→Ag
open Go.Value renaming int→Aa,slice→Ad
open List renaming append_assoc→Bj,flatMap_append→Bi,flatMap_cons→Bf,getElem?_eq_getElem→Aw,getElem?_eq_some_iff→Ax,getElem_mem→Ay,length_append→Bh,length_map→Bo,length_take→Bm,mem_append→Bl,mem_cons→Bk,mem_iff_getElem→Be,nodup_append→Bp,replicate→Ba,set_cons_succ→Cg,set_cons_zero→Cf,take_of_length_le→Bg,take_succ_eq_append_getElem→Bc
open Nat renaming le_refl→Am,le_trans→Br,lt_of_lt_of_le→Bq,zero_add→Bt
open Option renaming none→Ae,some→Af
set_option maxHeartbeats 8000000
set_option maxRecDepth 100000
namespace Go.Proofs
theorem lyf {α:Type} {a:Option α} {b c:α} (h:a=Af b) (e:b=c:=by kernel_rfl):a=Af c:=h.trans (congrArg Af e)
theorem lyb {P:Program} {f:FuncId} {B C:Func} (h:P.funcs[f]? =Af C) (e:C={B with name:=C.name}:=by kernel_rfl) (n:(C.name== "runtime.NumGoroutine")=false:=by decide):Bears P f B:=⟨C.name,n,h.trans (congrArg Af e)⟩
end Go.Proofs
namespace Go.Proofs
open Go.Shelf Go.RowKit
def Tryz.laysSortStk_ren:Go.Shelf.Ren:=⟨fun|6=>75|15=>132|14=>131|28=>181|29=>182|20=>173|21=>174|22=>175|23=>176|24=>177|25=>178|26=>179|27=>180|46=>213|47=>214|48=>215|49=>216|50=>217|57=>267|n=>n,fun|22=>31|24=>89|25=>185|3=>3|39=>256|0=>0|53=>316|55=>287|4=>4|46=>310|45=>309|50=>181|5=>5|9=>9|66=>344|70=>76|76=>373|77=>199|n=>n,fun|n=>n⟩
open Tryz in
theorem Tryz.laysSortStk:Go.Proofs.SlLaysF0.n6 Tryz.prog Tryz.laysSortStk_ren:={
 mixed:=Cm,f6:=lyb func75,f14:=lyb func131,f15:=lyf func132,f20:=lyb func173,f21:=lyb func174,f22:=lyb func175,f23:=lyb func176,f24:=lyb func177,f25:=lyb func178,f26:=lyb func179,f27:=lyb func180,f28:=lyf func181,f29:=lyf func182,f46:=lyb func213,f47:=lyf func214,f48:=lyf func215,f49:=lyb func216,f50:=lyb func217,f57:=lyb func267,t0:=underlying0,a0:=isAgg0,z0:=sizeOf0,v0:=zeroValue0,t3:=underlying3,a3:=isAgg3,z3:=sizeOf3,v3:=zeroValue3,t4:=underlying4,a4:=isAgg4,z4:=sizeOf4,v4:=zeroValue4,t5:=underlying5,a5:=isAgg5,z5:=sizeOf5,v5:=zeroValue5,t9:=underlying9,a9:=isAgg9,z9:=sizeOf9,v9:=zeroValue9,t22:=underlying31,a22:=isAgg31,z22:=sizeOf31,v22:=zeroValue31,t25:=underlying185,a25:=isAgg185,z25:=sizeOf185,v25:=zeroValue185,t39:=underlying256,a39:=isAgg256,z39:=sizeOf256,v39:=zeroValue256,t45:=underlying309,a45:=isAgg309,z45:=sizeOf309,v45:=zeroValue309,t46:=underlying310,a46:=isAgg310,z46:=sizeOf310,v46:=zeroValue310,t50:=underlying181,a50:=isAgg181,z50:=sizeOf181,v50:=zeroValue181,t53:=underlying316,a53:=isAgg316,z53:=sizeOf316,v53:=zeroValue316,t55:=underlying287,a55:=isAgg287,z55:=sizeOf287,v55:=zeroValue287,t66:=underlying344,a66:=isAgg344,z66:=sizeOf344,v66:=zeroValue344,t70:=underlying76,a70:=isAgg76,z70:=sizeOf76,v70:=zeroValue76,t76:=underlying373,a76:=isAgg373,z76:=sizeOf373,v76:=zeroValue373,t77:=underlying199,a77:=isAgg199,z77:=sizeOf199,v77:=zeroValue199}
end Go.Proofs
namespace Go.Proofs.YthpcfeifmdbhnaaGreatDoor
open Go.RowKit Go.Sort
abbrev SkE:={x:Stk×(Option Addr×Nat)//x.1.c.q≤255}
instance:Inhabited SkE:=⟨⟨(⟨cl0,[]⟩,(Ae,0)),Ct⟩⟩
def skV (x:SkE):List Ak:=Eg x.1
def jG (x y:SkE):Int:=Fg x.1.1.c y.1.1.c
theorem mZ (x y:SkE) (w:Aj):Al Tryz.prog 76 #[.agg (skV x).toArray,.agg (skV y).toArray] w (Ot (Aa Ab (jG x y)) w):=by
 obtain⟨⟨⟨⟨x0,x1,x2⟩,xl⟩,xA,xc⟩,hx⟩:=x;obtain⟨⟨⟨⟨y0,y1,y2⟩,yl⟩,yA,yc⟩,hy⟩:=y;unfold skV jG Eg;dsimp only at hx hy⊢;have HC:=Ah (λw'=>Nv ⟨x0,x1,x2⟩ ⟨y0,y1,y2⟩ w' hx hy);obtain⟨n,hn⟩:=ey xl.length;obtain⟨m,hm⟩:=ey yl.length;rw[hn,hm];obtain⟨r,hr⟩:=ey (Fg ⟨x0,x1,x2⟩ ⟨y0,y1,y2⟩);rw[hr]at HC⊢;dsimp only at HC;have hbd:Bd w ((w.alloc (.cells #[Aa Ab x0,Aa Ab x1,Aa Ac x2,Ad xA n xc] 89)).alloc (.cells #[Aa Ab y0,Aa Ab y1,Aa Ac y2,Ad yA m yc] 89)):=((Bd.refl w).alloc _).alloc _;have H:=((Bx.start w).new #[Aa Ab x0,Aa Ab x1,Aa Ac x2,Ad xA n xc] 89 rfl).new #[Aa Ab y0,Aa Ab y1,Aa Ac y2,Ad yA m yc] 89 (N:=w.heap.size+1) Cn;clear hn hm hr;go_enter Tryz.func76,Tryz.ntmps76;go_upto_region 1 with fail;obtain⟨W,hW⟩:=ez ((w.alloc (.cells #[Aa Ab x0,Aa Ab x1,Aa Ac x2,Ad xA n xc] 89)).alloc (.cells #[Aa Ab y0,Aa Ab y1,Aa Ac y2,Ad yA m yc] 89));rw[←hW]at H hbd⊢;clear hW;obtain⟨N,hN⟩:=ez w.heap.size;rw[←hN]at H⊢;have HNN:=Ah hN;clear hN;obtain⟨P,hP⟩:=ey (N+1);rw[hP]at H⊢;clear hP;obtain⟨⟨a0,a1,a2,-⟩,-⟩:=Ez (H.blk 0 _ _ _ rfl);obtain⟨⟨b0,b1,b2,-⟩,-⟩:=Ez (H.blk 1 _ _ _ rfl);have HBD:=Ah hbd;clear hbd H;go_wp2_with fail;refine(HC.out _).mono ?_;rintro e w2 ⟨rfl,hb⟩;go_wp2;go_ret;exact⟨rfl,HBD.out.trans hb⟩
theorem If {a b:Int}:Dm a b<0↔a<b:=by
 unfold Dm
 split
 ·simp;assumption
 ·split
  ·simp;omega
  ·simp;omega
theorem Ek {a b:Int}:Dm a b=0↔a=b:=by
 unfold Dm
 split
 ·simp;omega
 ·split
  ·simp;omega
  ·simp;omega
theorem Eo {a b:Cl}:Fg a b<0↔a.y<b.y∨(a.y=b.y∧(a.x<b.x∨(a.x=b.x∧a.q<b.q))):=by
 unfold Fg
 split
 ·rename_i h;rw[If];have:=mt Ek.2 h;omega
 ·rename_i h;have h1:=Ek.1 (Classical.not_not.1 h)
  split
  ·rename_i h2;rw[If];have:=mt Ek.2 h2;omega
  ·rename_i h2;have h3:=Ek.1 (Classical.not_not.1 h2);rw[If];omega
theorem Ak8 (x y:SkE):ltOf jG x y=decide (Fg x.1.1.c y.1.1.c<0):=rfl
theorem Bc6:SWO (ltOf jG) where
 irrefl x:=by rw[Ak8,decide_eq_false_iff_not,Eo];omega
 trans x y z h1 h2:=by rw[Ak8,decide_eq_true_iff,Eo]at*;omega
 ntrans x y z h1 h2:=by rw[Ak8,decide_eq_false_iff_not,Eo]at*;omega
theorem Aj6 (w:Aj):(isAgg 89).run Tryz.prog w= .ok true w:=Cm
theorem Ax6 (w:Aj):(Go.sizeOf 89).run Tryz.prog w= .ok 4 w:=Cm
theorem jL {O m c:Nat} {B:Option Addr} (l:List SkE) (w:Aj) (h:w.ownsRow O 89 4 (Ad B m c) m (l.flatMap skV)) (hm:m≤1000000):
  Al Tryz.prog 75 #[Ad B m c,.func (.func 76) #[] #[]] w (Gu skV jG l O 89 4 m (Ad B m c) w):=
 Nq Tryz.laysSortStk 4 Ct Aj6 Ax6 skV (λ_=>rfl) (λx v hv=>by
  simp[skV,Eg]at hv;rcases hv with rfl|rfl|rfl|rfl<;>rfl) jG Bc6 76 #[] (enters_of Tryz.func76 Cm rfl) l w h hm (λW' _ x y=>mZ x y W')
end Go.Proofs.YthpcfeifmdbhnaaGreatDoor
namespace Go.Proofs.YthpcfeifmdbhnaaGreatDoor
open Go.RowKit
def atF (l:List Stk) (c:Cl):List Nat:=match l.find? λx=>decide (x.c=c)with
 |some x=>x.ls
 |none=>[]
theorem At7 {l:List Stk} {c:Cl} {i:Nat} (hi:i<l.length) (h:l[i].c=c) (hb:∀j (hj:j<l.length),j<i→l[j].c≠c):atF l c=l[i].ls:=by
 unfold atF
 have:l.find? (λx=>decide (x.c=c))=Af l[i]:=by
  rw[List.find?_eq_some_iff_getElem];exact⟨by simp[h],i,hi,rfl,λj hj=>by simp[hb j Ci hj]⟩
 rw[this]
theorem wM {l:List Stk} {c:Cl} (hb:∀j (hj:j<l.length),l[j].c≠c):atF l c=[]:=by
 unfold atF
 have:l.find? (λx=>decide (x.c=c))=Ae:=by
  rw[List.find?_eq_none];intro x hx;obtain⟨j,hj,rfl⟩:=Be.1 hx;simp[hb j hj]
 rw[this]
def As0 (m:List Nat) (w:Aj) (en:Ending) (w':Aj):Prop:=
 ∃A,en= .returned (Ad A m.length m.length)∧AOk A m.length m.length∧En w' w.heap.size 3 1 A m.length (Di m)∧Below w.heap.size w w'
theorem jM (A:Option Addr) (l:List Stk) (n cc:Nat) (c:Cl) (w:Aj) (hn:n=l.length) (h:Dh w A l) (hl:n≤100000) (hls:∀x∈l,x.ls.length≤100000):
  Al Tryz.prog 124 #[Ad A n cc,.agg #[Aa Ab c.x,Aa Ab c.y,Aa Ac c.q]] w (As0 (atF l c) w):=by
 obtain⟨x,y,q⟩:=c;have HS:=Ah h;have HN:=Ah hn;have HLS:=Ah hls;have H:=(Bx.start w).new #[Aa Ab x,Aa Ab y,Aa Ac q] 87 rfl;clear hn h hls;go_enter Tryz.func124,Tryz.ntmps124;go_upto_region 1 with fail;obtain⟨W,hW⟩:=ez (w.alloc (.cells #[Aa Ab x,Aa Ab y,Aa Ac q] 87));rw[←hW]at H⊢;obtain⟨N,hN⟩:=ez w.heap.size;rw[←hN]at H⊢;have HNN:=Ah hN;clear hW hN;go_wp2
 go_loopw [9] (λi wr=>∃k:Nat,k≤n∧i= Aa Ab k∧Bx w [(N,#[Aa Ab x,Aa Ab y,Aa Ac q],87)] wr∧Hid (∀j (hj:j<l.length),j<k→l[j].c≠⟨x,y,q⟩)) (λi _=>n-(intOf i).toNat)
 case atStart=>exact⟨0,Ci,rfl,H,Ah λj _ hj=>absurd hj Ci⟩
 case round=>
  obtain⟨k,hk,rfl,Hr,HK⟩:=hrel;obtain⟨⟨a0,a1,a2⟩,_⟩:=Cv (Hr.blk 0 _ _ _ rfl);have hlt0:=Hr.lt 0 rfl;by_cases hlt:k<n
  ·have hkl:k<l.length:=by have:=HN.out;omega
   obtain⟨bb,o,A',c',rfl,hbl,⟨d0,d1,d2,d3⟩,hA',hle,hcm,hrd⟩:=(HS.out.below Hr.below).get k hkl;have q1:(k:Int)<(n:Int):=Ci;have hlk:=HLS.out l[k] (Ay _);by_cases he:l[k].c=⟨x,y,q⟩
   ·have HF:=Ah (At7 hkl he λj hj h=>HK.out j hj h);obtain⟨ids,hids⟩:=ey (l[k].ls);rw[hids]at d3 hA' hle hrd HF hlk;rw[he]at d0 d1 d2;dsimp only at d0 d1 d2;have HCL:=Ah λ(w':Aj) (hb:Below wr.heap.size wr w')=>Xe A' ids.length c' (Di ids) w' hA' (hrd.below hb) (Sk ids) Ci;clear he hids hrd hA';go_wp2_with fail;refine(HCL.out _ ((Ag _ _).alloc (Am _) _)).mono ?_;rintro e w3 ⟨v,rfl,hown,hb3⟩;obtain⟨A2,c2,rfl,hA2,hnc,hcm2⟩:=Ja hown;have H3:=(Hr.other _).call hb3;go_wp2_with fail;refine(cN A2 _ c2 _ hnc hcm2).mono ?_;rintro e w4 ⟨rfl,hb4⟩;have H4:=H3.call hb4;have hrow:=(En.of_own hown).below hb4;go_wp2;go_ret;exact⟨A2,by rw[HF.out];rfl,by rw[HF.out];exact hA2.clip,by rw[HF.out];exact hrow.base (by have:=Hr.below.size;simp;omega),H4.below⟩
   ·have HKN:=Ah (λj (hj:j<l.length) (h:j<k+1)=>show l[j].c≠⟨x,y,q⟩by
     by_cases hjk:j=k
     ·subst hjk;exact he
     ·exact HK.out j hj Ci)
    obtain⟨⟨⟨x',y',q'⟩,ids⟩,hr⟩:∃z,l[k]=z:=⟨_,rfl⟩;rw[hr]at d0 d1 d2 d3 he;dsimp only at d0 d1 d2 d3 he;have hne:¬(x'=x∧y'=y∧q'=q):=λh=>he (by rw[h.1,h.2.1,h.2.2]);have hy:=λo=>Hr.other o;clear he hr hrd hA';go_wp2_with fail
    all_goals first
     |exact⟨⟨k+1,Ci,by go_num,hy _,HKN⟩,by simp[intOf];omega⟩
     |exact absurd ⟨rfl,rfl,rfl⟩ hne
     |(exfalso;omega)
  ·have q1:¬(k:Int)<(n:Int):=Ci;have HF:=Ah (wM (l:=l) (c:=⟨x,y,q⟩) λj hj=>HK.out j hj (by have:=HN.out;omega));go_wp2;go_ret;exact⟨Ae,by rw[HF.out];rfl,by rw[HF.out];exact .inl ⟨rfl,rfl,rfl⟩,by rw[HF.out];exact⟨rfl,.inl ⟨rfl,rfl⟩⟩,Hr.below⟩
theorem Ro (o:Option Nat):o.toList.Nodup:=by cases o<;>simp
abbrev SkR:=Stk×(Option Addr×Nat)
def Fp (x:SkR):List Nat:=(x.2.1.map (·.block)).toList
def Ir (O:Nat) (w:Aj) (x:SkR):Prop:=AOk x.2.1 x.1.ls.length x.2.2∧x.1.ls.length≤x.2.2∧x.2.2≤maxLen∧En w O 3 1 x.2.1 x.1.ls.length (Di x.1.ls)
theorem En.same {w w':Aj} {base:Nat} {e:TypeId} {sz n:Nat} {A:Option Addr} {xs:List Ak} (h:En w base e sz A n xs) (hb:∀g,A.map (·.block)=Af g→w'.heap[g]? =w.heap[g]?):En w' base e sz A n xs:=by
 refine⟨h.1,h.2.imp id ?_⟩;rintro⟨g,cur,rfl,r2,r3,r4⟩;exact⟨g,cur,rfl,r2,(hb g rfl).trans r3,r4⟩
theorem En.lt {w:Aj} {base:Nat} {e:TypeId} {sz n:Nat} {A:Option Addr} {xs:List Ak} (h:En w base e sz A n xs):∀g,A.map (·.block)=Af g→base≤g∧g<w.heap.size∧∃cur,w.heap[g]? =Af (.cells cur e (0,0)):=by
 intro g hg;rcases h.2 with⟨rfl,_⟩|⟨g',cur,rfl,r2,r3,r4⟩
 ·cases hg
 ·obtain rfl:g'=g:=by simpa using hg
  exact⟨r2,(Au.1 r3).1,cur,r3⟩
def Dd (O:Nat) (w:Aj) (v:Ak) (l:List SkR):Prop:=
 w.ownsRow O 89 4 v l.length (l.flatMap Eg)∧(∀x∈l,Ir O w x)∧(l.flatMap Fp).Nodup
theorem Ir.same {O:Nat} {w w':Aj} {x:SkR} (h:Ir O w x) (hb:∀g∈Fp x,w'.heap[g]? =w.heap[g]?):Ir O w' x:=
 ⟨h.1,h.2.1,h.2.2.1,h.2.2.2.same λg hg=>hb g (by unfold Fp;rw[hg];simp)⟩
theorem Ir.lt {O:Nat} {w:Aj} {x:SkR} (h:Ir O w x):∀g∈Fp x,O≤g∧g<w.heap.size∧∃cur,w.heap[g]? =Af (.cells cur 3 (0,0)):=λg hg=>h.2.2.2.lt g (by unfold Fp at hg;simpa using hg)
theorem Ir.base {O O':Nat} {w:Aj} {x:SkR} (h:Ir O w x) (hO:O'≤O):Ir O' w x:=⟨h.1,h.2.1,h.2.2.1,h.2.2.2.base hO⟩
theorem Ph {O:Nat} {w:Aj} {v:Ak} {x:SkR} {n O':Nat} {xs:List Ak} (h:w.ownsRow O 89 4 v n xs) (hx:Ir O' w x):∀g∈Fp x,v.ownBlock≠Af g:=by
 intro g hg e;obtain⟨_,_,cur,hc⟩:=hx.lt g hg;rcases h.2 with⟨rfl,_⟩|⟨g',cap,cur',rfl,_,hg',_⟩
 ·cases e
 ·obtain rfl:g'=g:=by simpa[Value.ownBlock]using e
  rw[hc]at hg';injection hg' with hg';injection hg' with _ ht;exact absurd ht Ct
theorem Dd.below {O:Nat} {w w':Aj} {v:Ak} {l:List SkR} (h:Dd O w v l) (hb:Below w.heap.size w w'):Dd O w' v l:=
 ⟨Dj h.1 (Am _) hb,λx hx=>(h.2.1 x hx).same λg hg=>hb.block g ((h.2.1 x hx).lt g hg).2.1,h.2.2⟩
theorem Dd.nil (O:Nat) (w:Aj):Dd O w (Ad Ae 0 0) []:=⟨⟨rfl,.inl ⟨rfl,rfl⟩⟩,Cn,Cn⟩
theorem Dd.stks {O:Nat} {w:Aj} {A:Option Addr} {n c:Nat} {l:List SkR} (h:Dd O w (Ad A n c) l):Dh w A (l.map (·.1)):=by
 have hz:(l.map (·.1)).zip (l.map (·.2))=l:=by
  rw[List.zip_map'];simp
 refine⟨l.map (·.2),Cn,?_,λi hi hi'=>?_⟩
 ·rw[hz,Bo];obtain⟨A',c',hv,hc1,hc2⟩:=Dv h.1;obtain⟨rfl,rfl,rfl⟩:A=A'∧n=l.length∧c=c':=by simpa using hv
  exact Rd.of_own h.1
 ·have hil:i<l.length:=by simpa using hi
  have:=h.2.1 l[i] (Ay hil);simp only[List.getElem_map];exact⟨this.1,this.2.1,this.2.2.1,this.2.2.2.rd⟩
theorem Dd.snoc {O:Nat} {w W w':Aj} {v v':Ak} {l:List SkR} {x:SkR} (h:Dd O w v l) (hb:Below w.heap.size w W) (hx:Ir w.heap.size W x) (ho:w'.ownsRow O 89 4 v' (l.length+1) (l.flatMap Eg++Eg x)) (hg:W.grownBy w' v.ownBlock)
  (hO:O≤w.heap.size):Dd O w' v' (l++[x]):=by
 refine⟨by simpa using ho,λy hy=>?_,?_⟩
 ·rcases Bl.1 hy with hy|hy
  ·have hk:=h.2.1 y hy;refine hk.same λg hgy=>?_;have hlt:=(hk.lt g hgy).2.1;exact(hg.block g (Bq hlt hb.size) (Ne.symm (Ph h.1 hk g hgy))).trans (hb.block g hlt)
  ·obtain rfl:=List.mem_singleton.1 hy;refine(hx.same λg hgy=>hg.block g (hx.lt g hgy).2.1 λe=>?_).base hO;have h1:=(h.1.lt g e.symm).2;have h2:=(hx.lt g hgy).1;omega
 ·rw[Bi,Bp];refine⟨h.2.2,by rw[Bf,List.flatMap_nil,List.append_nil];exact Ro _,λa ha b hb' e=>?_⟩;subst e;obtain⟨y,hy,hay⟩:=List.mem_flatMap.1 ha;have h1:=((h.2.1 y hy).lt a hay).2.1;have h2:=(hx.lt a (by simpa using hb')).1;omega
theorem Vb {α:Type} (l:List α) (i:Nat) (h:i<l.length) (x:α):l.set i x=l.take i++x::l.drop (i+1):=by
 rw[List.set_eq_take_append_cons_drop,if_pos h]
theorem Dd.set {O:Nat} {w W w':Aj} {v:Ak} {l:List SkR} {x:SkR} {i:Nat} (h:Dd O w v l) (hi:i<l.length) (hb:Below w.heap.size w W) (hx:Ir w.heap.size W x) (ho:w'.ownsRow O 89 4 v l.length ((l.set i x).flatMap Eg)) (hg:W.grownBy w' v.ownBlock)
  (hO:O≤w.heap.size):Dd O w' v (l.set i x):=by
 have hok:∀y∈l,Ir O w' y:=λy hy=>by
  have hk:=h.2.1 y hy;refine hk.same λg hgy=>?_;have hlt:=(hk.lt g hgy).2.1;exact(hg.block g (Bq hlt hb.size) (Ne.symm (Ph h.1 hk g hgy))).trans (hb.block g hlt)
 refine⟨by rw[List.length_set];exact ho,λy hy=>?_,?_⟩
 ·rcases List.mem_or_eq_of_mem_set hy with hy|rfl
  ·exact hok y hy
  ·refine(hx.same λg hgy=>hg.block g (hx.lt g hgy).2.1 λe=>?_).base hO;have h1:=(h.1.lt g e.symm).2;have h2:=(hx.lt g hgy).1;omega
 ·have hn:=h.2.2;have e0:l=l.take i++l[i]::l.drop (i+1):=by rw[←List.drop_eq_getElem_cons hi,List.take_append_drop]
  have hold:∀g∈l.flatMap Fp,g<w.heap.size:=λg hg=>by
   obtain⟨y,hy,hgy⟩:=List.mem_flatMap.1 hg;exact((h.2.1 y hy).lt g hgy).2.1
  rw[Vb l i hi];rw[e0]at hn hold;simp only[Bi,Bf,Bp,Bl]at hn hold⊢;obtain⟨a1,⟨a2,a3,a4⟩,a5⟩:=hn;have hxb:=λg hg=>(hx.lt g hg).1;refine⟨a1,⟨Ro _,a3,λa ha b hb' e=>?_⟩,λa ha b hb' e=>?_⟩
  ·subst e;have:=hxb a ha;have:=hold a (.inr (.inr hb'));omega
  ·subst e;rcases hb' with hb'|hb'
   ·have:=hxb a hb';have:=hold a (.inl ha);omega
   ·exact a5 a ha a (.inr hb') rfl
theorem Dd.perm {O:Nat} {w w':Aj} {v:Ak} {l l':List SkR} (h:Dd O w v l) (hp:l'.Perm l) (ho:w'.ownsRow O 89 4 v l'.length (l'.flatMap Eg)) (hg:w.grownBy w' v.ownBlock):Dd O w' v l':=by
 refine⟨ho,λy hy=>?_,(hp.flatMap_right Fp).nodup_iff.2 h.2.2⟩;have hk:=h.2.1 y (hp.mem_iff.1 hy);exact hk.same λg hgy=>hg.block g (hk.lt g hgy).2.1 (Ne.symm (Ph h.1 hk g hgy))
theorem Ad3 (L:List SkR) (i:Nat) (hi:i<L.length) (b:SkR):
  ((((L.flatMap Eg).set (i*4) (Aa Ab b.1.c.x)).set (i*4+1) (Aa Ab b.1.c.y)).set (i*4+2) (Aa Ac b.1.c.q)).set (i*4+3) (Ad b.2.1 b.1.ls.length b.2.2)=(L.set i b).flatMap Eg:=by
 obtain⟨a,ha⟩:=ey (L[i]);have e0:=Jo Eg 4 Gm L i 0 hi Ci (⟨⟨b.1.c.x,a.1.c.y,a.1.c.q⟩,a.1.ls⟩,a.2) (Aa Ab b.1.c.x) (by rw[ha];rfl);have e1:=Jo Eg 4 Gm (L.set i (⟨⟨b.1.c.x,a.1.c.y,a.1.c.q⟩,a.1.ls⟩,a.2)) i 1 (by simpa using hi) Ci (⟨⟨b.1.c.x,b.1.c.y,a.1.c.q⟩,a.1.ls⟩,a.2) (Aa Ab b.1.c.y) (by rw[List.getElem_set_self];rfl);have e2:=Jo Eg 4 Gm (L.set i (⟨⟨b.1.c.x,b.1.c.y,a.1.c.q⟩,a.1.ls⟩,a.2)) i 2 (by simpa using hi) Ci (⟨⟨b.1.c.x,b.1.c.y,b.1.c.q⟩,a.1.ls⟩,a.2) (Aa Ac b.1.c.q) (by rw[List.getElem_set_self];rfl);have e3:=Jo Eg 4 Gm (L.set i (⟨⟨b.1.c.x,b.1.c.y,b.1.c.q⟩,a.1.ls⟩,a.2)) i 3 (by simpa using hi) Ci b (Ad b.2.1 b.1.ls.length b.2.2) (by rw[List.getElem_set_self];rfl);rw[List.set_set]at e1 e2 e3;rw[Nat.add_zero]at e0;rw[←e0,←e1,←e2,←e3]
end Go.Proofs.YthpcfeifmdbhnaaGreatDoor
namespace Go.Proofs
open Go.Shelf Go.RowKit
def Tryz.laysSortE_ren:Go.Shelf.Ren:=⟨fun|189=>165|125=>132|257=>212|128=>181|129=>182|294=>258|295=>259|296=>260|297=>261|298=>262|299=>263|216=>264|300=>265|301=>266|328=>277|329=>214|330=>215|331=>278|332=>279|215=>144|343=>282|n=>n,fun|28=>46|3=>3|46=>256|0=>0|51=>316|53=>287|4=>4|183=>310|182=>309|131=>181|5=>5|9=>9|218=>344|222=>76|228=>373|229=>199|n=>n,fun|n=>n⟩
open Tryz in
theorem Tryz.laysSortE:Go.Proofs.Lays.n189 Tryz.prog Tryz.laysSortE_ren:={
 mixed:=Cm,f125:=lyf func132,f128:=lyf func181,f129:=lyf func182,f189:=lyf func165,f215:=lyf func144,f216:=lyf func264,f257:=lyf func212,f294:=lyf func258,f295:=lyf func259,f296:=lyf func260,f297:=lyf func261,f298:=lyf func262,f299:=lyf func263,f300:=lyf func265,f301:=lyf func266,f328:=lyf func277,f329:=lyf func214,f330:=lyf func215,f331:=lyf func278,f332:=lyf func279,f343:=lyf func282,t0:=underlying0,a0:=isAgg0,z0:=sizeOf0,v0:=zeroValue0,t3:=underlying3,a3:=isAgg3,z3:=sizeOf3,v3:=zeroValue3,t4:=underlying4,a4:=isAgg4,z4:=sizeOf4,v4:=zeroValue4,t5:=underlying5,a5:=isAgg5,z5:=sizeOf5,v5:=zeroValue5,t9:=underlying9,a9:=isAgg9,z9:=sizeOf9,v9:=zeroValue9,t28:=underlying46,a28:=isAgg46,z28:=sizeOf46,v28:=zeroValue46,t46:=underlying256,a46:=isAgg256,z46:=sizeOf256,v46:=zeroValue256,t51:=underlying316,a51:=isAgg316,z51:=sizeOf316,v51:=zeroValue316,t53:=underlying287,a53:=isAgg287,z53:=sizeOf287,v53:=zeroValue287,t131:=underlying181,a131:=isAgg181,z131:=sizeOf181,v131:=zeroValue181,t182:=underlying309,a182:=isAgg309,z182:=sizeOf309,v182:=zeroValue309,t183:=underlying310,a183:=isAgg310,z183:=sizeOf310,v183:=zeroValue310,t218:=underlying344,a218:=isAgg344,z218:=sizeOf344,v218:=zeroValue344,t222:=underlying76,a222:=isAgg76,z222:=sizeOf76,v222:=zeroValue76,t228:=underlying373,a228:=isAgg373,z228:=sizeOf373,v228:=zeroValue373,t229:=underlying199,a229:=isAgg199,z229:=sizeOf199,v229:=zeroValue199}
end Go.Proofs
namespace Go.Proofs.YthpcfeifmdbhnaaGreatDoor
open Go.RowKit
theorem vB {O m c:Nat} {B:Option Addr} (l:List Nat) (w:Aj) (h:w.ownsRow O 3 1 (Ad B m c) m (Di l)) (hm:m≤1000000):
  Al Tryz.prog 165 #[Ad B m c] w λe w'=>e= .returned (.tuple #[])∧∃r:List Nat,r.Perm l∧w'.ownsRow O 3 1 (Ad B m c) m (Di r)∧w.grownBy w' (Value.slice B m c).ownBlock:=by
 have hl:l.length=m:=by have:=h.1;simpa[Di]using this
 rcases h.2 with⟨h0,rfl⟩|⟨g,cap,cur,r1,r2,r3,r4,r5,r6,r7⟩
 ·obtain rfl:l=[]:=List.eq_nil_of_length_eq_zero hl;refine(Any.slices_Sort_int_none Tryz.laysSortE B c w).mono ?_;rintro e w' ⟨rfl,rfl⟩;exact⟨rfl,[],.refl _,h,Es _ _⟩
 ·obtain⟨rfl,rfl⟩:B=Af ⟨g,0,Ae⟩∧c=cap:=by simpa using r1
  subst hl;obtain⟨xs,hxs⟩:∃xs:List Int,l.map Int.ofNat=xs:=⟨_,rfl⟩;have hxl:xs.length=l.length:=by rw[←hxs];simp
  have hid:Di l=xs.map (Value.int .i64):=by rw[←hxs];unfold Di;rw[List.map_map];rfl
  have hH:=holds_of_blockI (ss:=xs) r3 (by rw[hxl];rw[Nat.mul_one]at r7;exact r7.trans hid);obtain⟨ts,hts⟩:=ey (xs.mergeSort (λx y=>decide (x≤y)));have htl:ts.length=xs.length:=by rw[←hts,List.length_mergeSort]
  have htp:ts.Perm xs:=by rw[←hts];exact List.mergeSort_perm _ _
  have hpr:(ts.map Int.toNat).Perm l:=by
   have:=htp.map Int.toNat;rw[←hxs,List.map_map]at this
   have e:l.map (Int.toNat∘Int.ofNat)=l:=by
    conv=>rhs;rw[←List.map_id l]
    exact List.map_congr_left λx _=>rfl
   rw[e]at this;exact this
  have hback:Di (ts.map Int.toNat)=ts.map (Value.int .i64):=by
   unfold Di;rw[List.map_map];refine List.map_congr_left λx hx=>?_;have:x∈xs:=htp.mem_iff.1 hx;rw[←hxs]at this;obtain⟨y,-,rfl⟩:=List.mem_map.1 this;rfl
  have hb:=Any.slices_Sort_int Tryz.laysSortE g 0 c xs w hH (Au.1 r3).1 Ci;rw[hts,hxl]at hb;refine hb.mono ?_;rintro e w' ⟨rfl,n,os,rfl⟩;refine⟨rfl,ts.map Int.toNat,hpr,?_,grownBy_sortedI _⟩;rw[hback];have:=ownsRow_sortedI (n:=n) (os:=os) (ts:=ts) (ss:=xs) htl r2 r3 (by rw[hxl];exact r4) r5 r6;rw[hxl]at this;exact this
end Go.Proofs.YthpcfeifmdbhnaaGreatDoor
namespace Go.Proofs
open Go.Shelf Go.RowKit
def Tryz.laysRev_ren:Go.Shelf.Ren:=⟨fun|112=>90|n=>n,fun|28=>46|3=>3|4=>4|0=>0|n=>n,fun|n=>n⟩
open Tryz in
theorem Tryz.laysRev:Go.Proofs.Lays.n112 Tryz.prog Tryz.laysRev_ren:={
 mixed:=Cm,f112:=lyf func90,t0:=underlying0,a0:=isAgg0,z0:=sizeOf0,v0:=zeroValue0,t3:=underlying3,a3:=isAgg3,z3:=sizeOf3,v3:=zeroValue3,t4:=underlying4,a4:=isAgg4,z4:=sizeOf4,v4:=zeroValue4,t28:=underlying46,a28:=isAgg46,z28:=sizeOf46,v28:=zeroValue46}
end Go.Proofs
namespace Go.Proofs.YthpcfeifmdbhnaaGreatDoor
open Go.RowKit Go.Sort
theorem Ab0 {O n c:Nat} {A:Option Addr} (l:List Nat) (w:Aj) (h:En w O 3 1 A n (Di l)) (hm:n≤1000000):
  Al Tryz.prog 90 #[Ad A n c] w λe w'=>e= .returned (.tuple #[])∧En w' O 3 1 A n (Di l.reverse)∧w.grownBy w' (A.map (·.block)):=by
 have hl:l.length=n:=by have:=h.1;simpa[Di]using this
 rcases h.2 with⟨rfl,rfl⟩|⟨g,cur,rfl,r2,r3,r4,r5⟩
 ·obtain rfl:l=[]:=List.eq_nil_of_length_eq_zero hl;refine(Any.slices_Reverse_int_empty Tryz.laysRev Ae c w).mono ?_;rintro e w' ⟨rfl,rfl⟩;exact⟨rfl,h,Es _ _⟩
 ·subst hl;obtain⟨xs,hxs⟩:∃xs:List Int,l.map Int.ofNat=xs:=⟨_,rfl⟩;have hxl:xs.length=l.length:=by rw[←hxs];simp
  have hid:Di l=xs.map (Value.int .i64):=by rw[←hxs];unfold Di;rw[List.map_map];rfl
  have hrev:Di l.reverse=xs.reverse.map (Value.int .i64):=by rw[List.map_reverse,←hid];unfold Di;rw[List.map_reverse]
  rw[Nat.mul_one]at r4 r5;have hH:=holds_of_blockI (ss:=xs) r3 (by rw[hxl];exact r5.trans hid);have hb:=Any.slices_Reverse_int Tryz.laysRev g 0 c xs w hH Ci;rw[hxl]at hb;refine hb.mono ?_;rintro e w' ⟨rfl,k,rfl⟩;have hg:=grownBy_sortedI (w:=w) (g:=g) (n:=k) (os:=#[]) xs.reverse.toArray;have hh:=heap_sortedI (w:=w) (g:=g) (n:=k) (os:=#[]) xs.reverse.toArray r3;rw[Go.Sort.grow_empty]at hg hh;refine⟨rfl,⟨by simp[Di],.inr ⟨g,_,rfl,r2,hh,?_,?_⟩⟩,hg⟩
  ·rw[Nat.mul_one];have:(putCells (Value.int .i64) 0 xs.reverse.toArray cur).size=cur.size:=by simp[putCells]
   omega
  ·have ht:=take_putCellsI cur xs.reverse (by simp;omega);rw[hrev,Nat.mul_one,←hxl,show xs.length=xs.reverse.length by simp];exact ht
end Go.Proofs.YthpcfeifmdbhnaaGreatDoor
namespace Go.Proofs.YthpcfeifmdbhnaaGreatDoor
open Go.RowKit Go.Shelf
attribute [local go_sem] Oper.semAt_some
def isU (a b:Int) (i e:Nat):Bool:=decide ((nbI a b i e).2=0)&&decide ((i:Int)<(nbI a b i e).1)
def Oh (a b:Int) (j:Nat):List (Nat×Nat):=if isU a b (j/3) (j%3)then[(j/3,j%3)]else[]
def Ff (a b:Int):Nat→List (Nat×Nat)
 |0=>[]
 |j+1=>Ff a b j++Oh a b j
def Fu (a b:Int):List (Nat×Nat):=Ff a b (3*Cq a b)
def jR (u:Nat×Nat):List Ak:=[Aa Ab u.1,Aa Ac u.2]
def He (l:List (Nat×Nat)):List Ak:=l.flatMap jR
theorem oX (a b:Int) (i e:Nat) (he:e<3):Ff a b (3*i+(e+1))=Ff a b (3*i+e)++if isU a b i e then[(i,e)]else[]:=by
 show Ff a b (3*i+e)++Oh a b (3*i+e)=_;unfold Oh;rw[show(3*i+e)/3=i by omega,show(3*i+e)%3=e by omega]
theorem Mm (a b:Int):∀j,(Ff a b j).length≤j
 |0=>Am _
 |j+1=>by
  have:=Mm a b j;unfold Ff Oh
  split<;>simp<;>omega
theorem Tu (a b:Int) (j:Nat):∀d,(Ff a b j).length≤(Ff a b (j+d)).length
 |0=>Am _
 |d+1=>by
  refine Br (Tu a b j d) ?_;show _≤(Ff a b (j+d)++Oh a b (j+d)).length;simp
def Hw (n₀ Bn:Nat) (A B:Aj):Prop:=Below n₀ A B∧B.heap[Bn]? =A.heap[Bn]?
theorem Oy {n₀ Bn:Nat} {A B C:Aj} (h:Hw n₀ Bn A B) (k:Hw n₀ Bn B C):Hw n₀ Bn A C:=⟨h.1.trans k.1,k.2.trans h.2⟩
theorem Ya {n₀ Bn:Nat} {w:Aj} (hn:n₀≤w.heap.size) (hB:Bn<w.heap.size) (W:Aj) (l:Nat) (o o':Obj) (hl:w.heap.size≤l) (h:W.heap[l]? =Af o) (hc:o.isCells=false) (hw:o.isWalk=false):Hw n₀ Bn W (W.putObj l o'):=
 ⟨belowK_b hn W l o o' hl h hc hw,World.putObj_heap_other Ci⟩
theorem Ps {W W':Aj} {row:Option Nat} {g:Nat} {cs:Array Ak} {t:TypeId} (h:W.heap[g]? =Af (Obj.cells cs t (0,0))) (hg:W.grownBy W' row) (hr:∀r,row=Af r→∃o:Obj,W.heap[r]? =Af o∧o.isCells=false):W'.heap[g]? =Af (Obj.cells cs t (0,0)):=by
 refine(hg.block g (Au.1 h).1 λe=>?_).trans h;obtain⟨o,ho,hc⟩:=hr g e.symm;rw[h]at ho;cases ho;cases hc
theorem Rf (W:Aj) (cs:Array Ak) (t:TypeId) (j:Nat) (u:Ak) (h:cs.toList[j]? =Af u):(W.alloc (.cells cs t)).cell? ((⟨W.heap.size,0,Ae⟩:Addr).add j)=Af u:=by
 have e:(⟨W.heap.size,0,Ae⟩:Addr).add j=⟨W.heap.size,j,Ae⟩:=by unfold Addr.add;split<;>simp_all
 rw[e,By _ _ j _ _ (0,0) (Bz W _)];simpa using h
theorem Qp {W:Aj} {g:Nat} {cs:Array Ak} {t e:TypeId} (h:W.heap[g]? =Af (Obj.cells cs t (0,0))) (hte:t≠e) {base size k:Nat} {v:Ak} {xs:List Ak} (hr:W.ownsRow base e size v k xs):Af g≠v.ownBlock:=by
 rcases hr.2 with⟨rfl,_⟩|⟨g',cap,cur,rfl,_,hgb,_⟩
 ·simp[Value.ownBlock]
 ·intro e';obtain rfl:g=g':=by simpa[Value.ownBlock]using e'
  have:=h.symm.trans hgb;simp at this;exact hte this.2
theorem Ag2 (l Bn n₀:Nat) (a b:Int) (hs:okS a b=true) (J Jx:List (Nat×Nat)→Aj→Prop) (n:Nat) (hn:3≤n)
  (hY:∀pre x W,J pre W→pre.length<(Fu a b).length→YieldAt Fence.wide (n-1) Tryz.prog l #[.agg #[Aa Ab (x.1:Nat),Aa Ac (x.2:Nat)]] W λe W'=>
   (e= .returned (.bool true)∧J (pre++[x]) W'∧Hw n₀ Bn W W')∨(e= .returned (.bool false)∧Jx (pre++[x]) W'))
  (W:Aj) (hQ:∀W',Below n₀ W W'→Qt W') (hBn:W.heap[Bn]? =Af (Obj.cells #[Aa Ab a,Aa Ab b] 25 (0,0))) (hn₀:n₀≤W.heap.size) (hJ:∀s A B,J s A→Below A.heap.size A B→J s B) (h0:J [] W):
  CallsIn Fence.wide n Tryz.prog 185 #[.func (.yield l) #[] #[],.pointer (Af ⟨Bn,0,Ae⟩)] W λe W'=>(∃v,e= .returned v)∧
   ((∃ys,ys=Fu a b∧J ys W')∨(∃pre,True∧Jx pre W')):=by
 refine callsIn_of_wp Tryz.func185 rfl trivial ?_ rfl;simp only[Tryz.ntmps185,List.size_toArray,List.length_cons,List.length_nil,Nat.reduceAdd,Nat.reduceSub,Array.replicate_succ,Array.replicate_zero,List.push_toArray,List.append_toArray,List.nil_append,List.cons_append];obtain⟨k1,k2,k3⟩:=Gn hs;have hcount:=λw=>Pt a b w hs;obtain⟨k,hk⟩:=ey (Cq a b);rw[hk]at k1 k2 k3 hcount;have hnb:=λ(id e:Nat) w h=>Fi a b (id:Nat) (e:Nat) w hs (Int.natCast_nonneg e) h;have hU:Fu a b=Ff a b (3*k):=by unfold Fu;rw[hk]
 clear k1 hk;rw[hU]at hY⊢;obtain⟨⟨b0,b1⟩,_⟩:=Cy hBn;have hlt:Bn<W.heap.size:=(Au.1 hBn).1
 gi_wp2
 refine⟨trivial,λ_=>Ci,(callsIn_wide.2 (hcount W)).mono ?_⟩;rintro e w1 ⟨rfl,hb1⟩
 gi_wp2
 gi_loopw [9] (λi wr=>∃id:Nat,id≤k∧i= Aa Ab id∧J (Ff a b (3*id)) wr∧Hw n₀ Bn W wr∧W.heap.size≤wr.heap.size) (λi _=>k-(intOf i).toNat)
 case atStart=>exact⟨0,Nat.zero_le _,rfl,hJ _ _ _ h0 hb1,⟨hb1.mono hn₀,hb1.block Bn hlt⟩,hb1.size⟩
 case round=>
  obtain⟨id,hid,rfl,hJ0,hB,hsz⟩:=hrel;by_cases hlt2:id<k
  ·have q1:(id:Int)<(k:Int):=Ci
   gi_wp2
   gi_loopw [12] (λi wr=>∃e:Nat,e≤3∧i= Aa Ac e∧J (Ff a b (3*id+e)) wr∧Hw n₀ Bn W wr∧W.heap.size≤wr.heap.size) (λi _=>3-(intOf i).toNat)
   case atStart=>exact⟨0,Ci,rfl,hJ0,hB,hsz⟩
   case round=>
    obtain⟨e,he,rfl,hJ1,hB1,hsz1⟩:=hrel;by_cases h3:e<3
    ·have q2:(e:Int)<3:=Ci;obtain⟨⟨c0,c1⟩,_⟩:=Cy (hB1.2.trans hBn);have hu:=oX a b id e h3;have hisU:isU a b id e=(decide ((nbI a b id e).2=0)&&decide ((id:Int)<(nbI a b id e).1)):=rfl;have hnbx:=hnb id e;obtain⟨⟨nn,er⟩,hnz⟩:=ey (nbI a b id e);rw[hnz]at hnbx hisU
     gi_wp2
     refine⟨trivial,λ_=>Ci,(callsIn_wide.2 (hnbx _ (hQ _ hB1.1))).mono ?_⟩;rintro en w2 ⟨rfl,hb2⟩;have hJ2:=hJ _ _ _ hJ1 hb2;have hB2:Hw n₀ Bn W w2:=⟨hB1.1.trans (hb2.mono Ci),(hb2.block Bn Ci).trans hB1.2⟩;have hsz2:=Br hsz1 hb2.size;unfold Zs;dsimp only;clear hnbx c0 c1 b0 b1 hnb hQ hJ hcount;by_cases her:er=0
     ·subst her;by_cases hgt:(id:Int)<nn
      ·have hI:isU a b id e=true:=by rw[hisU];simp[hgt]
       rw[hI,if_pos rfl]at hu
       have hlen:(Ff a b (3*id+e)).length<(Ff a b (3*k)).length:=by
        have h1:=Tu a b (3*id+(e+1)) (3*k-(3*id+(e+1)));rw[show 3*id+(e+1)+(3*k-(3*id+(e+1)))=3*k by omega,hu]at h1;simp at h1;omega
       obtain⟨fn,tmps,assign,body,hy,hR⟩:=hY _ (id,e) w2 hJ2 hlen;dsimp only at hy hR;clear hY hisU hI hlen
       gi_wp2
       refine⟨λ_=>Ci,hR.mono ?_⟩;rintro e3 W3 (⟨rfl,hJ3,hk3⟩|⟨rfl,hJx3⟩)
       ·rw[←hu]at hJ3;have hB3:Hw n₀ Bn W W3:=⟨hB2.1.trans hk3.1,hk3.2.trans hB2.2⟩;have hsz3:=Br hsz2 hk3.1.size;clear hy hR hJ2 hJ1 hJ0 hk3
        gi_wp2
        exact⟨⟨e+1,Ci,by go_num,hJ3,hB3,hsz3⟩,by simp[intOf];omega⟩
       ·clear hy hR hJ2 hJ1 hJ0
        gi_wp2
        refine Ai (results_none rfl _ _ _) rfl ?_;exact⟨⟨_,rfl⟩,.inr ⟨_,trivial,hJx3⟩⟩
      ·have hI:isU a b id e=false:=by rw[hisU];simp[hgt]
       rw[hI,if_neg Cn,List.append_nil]at hu;rw[←hu]at hJ2;clear hY hisU hI
       gi_wp2
       refine⟨λ_ h=>(by cases h),?_⟩
       gi_wp2
       exact⟨⟨e+1,Ci,by go_num,hJ2,hB2,hsz2⟩,by simp[intOf];omega⟩
     ·have hI:isU a b id e=false:=by rw[hisU];simp[her]
      rw[hI,if_neg Cn,List.append_nil]at hu;rw[←hu]at hJ2;clear hY hisU hI
      gi_wp2
      refine⟨λ_ h=>(by cases h),?_⟩
      gi_wp2
      exact⟨⟨e+1,Ci,by go_num,hJ2,hB2,hsz2⟩,by simp[intOf];omega⟩
    ·obtain rfl:e=3:=Ci
     gi_wp2
     exact⟨⟨id+1,Ci,by go_num,by rw[show 3*(id+1)=3*id+3 by omega];exact hJ1,hB1,hsz1⟩,by simp[intOf];omega⟩
  ·obtain rfl:id=k:=Ci;have q1:¬(id:Int)<(id:Int):=Ci
   gi_wp2
   go_end0
   exact⟨⟨_,rfl⟩,.inl hJ0⟩
theorem At3 (a b:Int) (n:Nat) (w:Aj):
  CallsIn Fence.wide n Tryz.prog 136 #[.agg #[Aa Ab a,Aa Ab b]] w λe w'=>e= .returned (.func (.func 185) #[] #[.pointer (Af ⟨w.heap.size,0,Ae⟩)])∧w'=w.alloc (.cells #[Aa Ab a,Aa Ab b] 25):=by
 refine callsIn_of_wp Tryz.func136 rfl trivial ?_ rfl;simp only[Tryz.ntmps136,List.size_toArray,List.length_cons,List.length_nil,Nat.reduceAdd,Nat.reduceSub,Array.replicate_succ,Array.replicate_zero,List.push_toArray,List.append_toArray,List.nil_append,List.cons_append]
 gi_wp2
 go_ret;exact⟨rfl,rfl⟩
theorem rQ (a b:Int) (hs:okS a b=true) (n:Nat) (hn:3≤n) (Bn n₀:Nat) (w:Aj) (hn₀:n₀≤w.heap.size) (hQ:∀W',Below n₀ w W'→Qt W') (hBn:w.heap[Bn]? =Af (Obj.cells #[Aa Ab a,Aa Ab b] 25 (0,0))):
  SeqStopsK Fence.wide n Tryz.prog 185 #[.pointer (Af ⟨Bn,0,Ae⟩)] (λx:Nat×Nat=>#[Value.agg #[Aa Ab (x.1:Nat),Aa Ac (x.2:Nat)]]) (Hw n₀ Bn) (λys=>ys=Fu a b) (λ_=>True) (Fu a b).length w:=λl J Jx W hW hJ _ hY h0=>
 Ag2 l Bn n₀ a b hs J Jx n hn hY W (λW' h=>hQ W' ((hW.mono hn₀).trans h)) (kept hW hBn (Au.1 hBn).1) (Br hn₀ hW.size) (λs A B hs hb=>hJ s A B Ae hs ⟨hb.os,hb.tape,hb.output,hb.size,λk hk _=>hb.block k hk⟩ Cn) h0
theorem Xy:(Tryz.prog.info? 126).map (λi=>(i.zero,i.size,i.bytes))=Af (Af (.agg #[Aa Ab 0,Aa Ac 0]),2,16):=Cm
theorem xF (A:Option Addr) (n c:Nat) (w:Aj) (h:n≤c) (_hm:c≤maxLen):
  Al Tryz.prog 137 #[Ad A n c] w (Co (Ad A n n) w):=by
 unfold maxLen at _hm;go_enter Tryz.func137,Tryz.ntmps137
 go_wp2
 go_ret;exact⟨rfl,Ag _ _⟩
def wJ (l:List (Nat×Nat)) (w:Aj) (en:Ending) (w':Aj):Prop:=
 ∃A,en= .returned (.tuple #[Ad A l.length l.length,Aa Ab 0])∧En w' w.heap.size 126 2 A l.length (He l)∧Below w.heap.size w w'
theorem oY (l:List (Nat×Nat)):(He l).length=l.length*2:=by
 induction l with
 |nil=>rfl
 |cons u l ih=>simp only[He,Bf,Bh,List.length_cons]at ih⊢;rw[ih];simp[jR];omega
theorem Vy (l:List (Nat×Nat)) (x:Nat×Nat):He (l++[x])=He l++[Aa Ab x.1,Aa Ac x.2]:=by simp[He,jR]
theorem Af1 (a b:Int) (w:Aj) (hs:okS a b=true) (hQ:Qt w):Al Tryz.prog 82 #[.agg #[Aa Ab a,Aa Ab b]] w (wJ (Fu a b) w):=by
 refine(callsIn_wide (n:=9)).1 ?_;obtain⟨k1,k2,k3⟩:=Gn hs;have hck:=Ew a b (w.alloc (.cells #[Aa Ab a,Aa Ab b] 25));have hec:ec (okS a b) 1=0:=by rw[hs];rfl
 rw[hec]at hck
 have hlen:(Fu a b).length≤3072:=by
  have:=Mm a b (3*Cq a b);unfold Fu;omega
 obtain⟨i0,hi,hz0,hz1,hz2⟩:=info_parts Xy;clear k1 k2 k3 hec;refine callsIn_of_wp_marks Tryz.func82 rfl trivial ?_ rfl;simp only[Tryz.ntmps82,List.size_toArray,List.length_cons,List.length_nil,Nat.reduceAdd,Nat.reduceSub,Array.replicate_succ,Array.replicate_zero,List.push_toArray,List.append_toArray,List.nil_append,List.cons_append]
 gi_wp2
 refine⟨trivial,(callsIn_wide.2 hck).mono ?_⟩;rintro e w1 ⟨rfl,hb1⟩;have hN1:=kept hb1 (Bz w (.cells #[Aa Ab a,Aa Ab b] 25)) Cn;have hB1:Below w.heap.size w w1:=((Ag w.heap.size w).alloc (Am _) (.cells #[Aa Ab a,Aa Ab b] 25)).trans (hb1.mono Cn);have hlt1:w.heap.size<w1.heap.size:=by have:=hb1.size;simp at this;omega
 obtain⟨N,hN⟩:=ey w.heap.size;obtain⟨N5,hN5⟩:=ey w1.heap.size;rw[hN]at hN1 hB1 hlt1⊢;rw[hN5]at hlt1;obtain⟨⟨a0,a1⟩,_⟩:=Cy hN1;have hO:=Boxed.new w1 139 (Ad Ae 0 0);have hA:=hN1;rw[hN5]at hO;have HW:=Ah hN;clear hck hb1 hN
 gi_wp2
 refine⟨trivial,(At3 a b 8 _).mono ?_⟩;rintro e w' ⟨rfl,rfl⟩
 gi_wp2
 have hB2:Below N w ((w1.alloc (.cells #[Ad Ae 0 0] 139)).alloc (.cells #[Aa Ab a,Aa Ab b] 25)):=(hB1.alloc Ci _).alloc (by simp;omega) _;have hO2:=hO.alloc (.cells #[Aa Ab a,Aa Ab b] 25);have hz:((w1.alloc (.cells #[Ad Ae 0 0] 139)).alloc (.cells #[Aa Ab a,Aa Ab b] 25)).heap.size=N5+2:=by simp[hN5]
 have hS:=Bz (w1.alloc (.cells #[Ad Ae 0 0] 139)) (.cells #[Aa Ab a,Aa Ab b] 25);simp only[World.size_alloc,hN5]at hS;obtain⟨W0,hW0⟩:=ey ((w1.alloc (.cells #[Ad Ae 0 0] 139)).alloc (.cells #[Aa Ab a,Aa Ab b] 25));rw[hW0]at hB2 hO2 hz hS⊢;obtain⟨Bn,hBn⟩:=ey (N5+1);rw[hBn]at hS;clear hO hA hW0 hN1 a0 a1 hB1;rw[hBn];clear hi;obtain⟨i0,hi,hz0,hz1,hz2⟩:=info_parts Xy;have hQ2:∀W',Below N W0 W'→Qt W':=λW' h=>hQ.below (by rw[HW.out];exact hB2.trans h);have hbn:Bn<W0.heap.size:=Ci
 refine wpIn_rangeFunc_ownH rfl Ct (gf:=185) (lb:=#[.pointer (Af ⟨Bn,0,Ae⟩)]) rfl trivial (enters_of Tryz.func185 Cm rfl)
  (rQ a b hs 8 Ct Bn N W0 Ci hQ2 hS) Oy (Ya Ci hbn) (Ag _ _) (λ_=>rfl)
  (λpre W=>(∃v,Boxed W N5 139 v∧W.ownsRow N 126 2 v pre.length (He pre)∧True)∧(W.heap[Bn]? =Af (Obj.cells #[Aa Ab a,Aa Ab b] 25 (0,0))∧Below N w W))
  (λ_ _ _=>False)
  (OwnFrom.and (Own.from (holdsRow_own N N5 139 126 2 (λpre=>pre.length) (λpre=>He pre) (λ_ _=>True)) _) (OwnFrom.and (λ_ _ _ _ hs hg hr=>Ps hs hg (λr e=>(hr r e).2)) (ownFrom_below (by rw[HW.out];exact Am _) Ci)))
  (λ_ _ _ _ _ hs _ _=>hs)
  ⟨⟨_,hO2,World.ownsRow_nil _ _ _ _,trivial⟩,hS,hB2⟩
  (λx a' W=>∃Bx,W.heap[Bx]? =Af (Obj.cells #[Aa Ab (x.1:Nat),Aa Ac (x.2:Nat)] 126 (0,0))∧a'={tmps:=#[.agg #[Aa Ab a,Aa Ab b],.pointer (Af ⟨N,0,Ae⟩),Ad Ae 0 0,Aa Ab 0,Aa Ab 0,.pointer (Af ⟨N5,0,Ae⟩),.pointer (Af ⟨Bx,0,Ae⟩),.agg #[Aa Ab a,Aa Ab b],Aa Ab 0,Aa Ab 0,.bool false,undef,.agg #[Aa Ab a,Aa Ab b],.func (.func 185) #[] #[.pointer (Af ⟨Bn,0,Ae⟩)],.agg #[Aa Ab (x.1:Nat),Aa Ac (x.2:Nat)],undef,undef,undef,undef,undef,undef],defers:=[]})
  (λx a' _ X Y row hs hg hr=>by obtain⟨Bx,h1,h2⟩:=hs;exact⟨Bx,Ps h1 hg (λr e=>(hr r e).2),h2⟩)
  ?assign ?body ?done ?stop
 case assign=>
  rintro l pre x W K ⟨⟨v,hv,hrow,_⟩,hSW,hB⟩ hK;have hlN:=hB.size;rw[HW.out]at hlN
  gi_wp2
  have hb4:=(Ag N W).alloc hlN (.cells #[Aa Ab (x.1:Nat),Aa Ac (x.2:Nat)] 126);exact hK _ _ ((KeepsOthers.alloc _ _).from _) ⟨hb4,Below.heap_alloc W _ Bn (Au.1 hSW).1⟩ ⟨⟨v,hv.alloc _,hrow.alloc _,trivial⟩,(Below.heap_alloc W _ Bn (Au.1 hSW).1).trans hSW,hB.trans hb4⟩ ⟨W.heap.size,Bz W _,rfl⟩
 case body=>
  rintro l pre x a' W hl ⟨r,hr⟩ ⟨⟨v,hv,hrow,_⟩,hSW,hB⟩ ⟨Bx,hx,rfl⟩ hlt;have hc:=hv.cell;obtain⟨⟨x0,x1⟩,_⟩:=Cy hx;have hlN:=hB.size;rw[HW.out]at hlN;have hcn:=Rf W #[Value.int .i64 (x.1:Nat),Value.int .u8 (x.2:Nat)] 126;have HB:=Ah hB;have hml:pre.length+1≤maxLen:=by unfold maxLen;omega
  clear hB hQ2 hB2 hO2 hS
  gi_wp2_with (gi_at_builtin;refine wpListIn_append_own _ rfl _ _ 139 rfl N 126 i0 _ 2 16 Tryz.underlying139 hi hz0 hz1 hz2 rfl Ct _ _ _ rfl (hrow.alloc _) ⟨W.heap.size,0,Ae⟩ 1 1 [Aa Ab (x.1:Nat),Aa Ac (x.2:Nat)] rfl rfl hcn (by simp[Value.oneCell']) hml Ci (by simp;omega) ?_;intro v' w1 hown' hgrow _;obtain⟨g',cap',rfl⟩:=ownsRow_succ hown';obtain⟨hv1,hv2,hr2,hk2,hb2⟩:=hv.appended Ct hrow hlN Ci hown' hgrow;have hc1:=hv1.cell;have hf1:=hv1.frozen)
  have hbk:=(Below.heap_setCell w1 ⟨N5,0,Ae⟩ (Ad (Af ⟨g',0,Ae⟩) (pre.length+1) cap') Bn (by show Bn≠N5;omega)).trans ((hgrow.block Bn (by have:=(Au.1 hSW).1;simp;omega) (Qp hSW Ct hrow)).trans (Below.heap_alloc W _ Bn (Au.1 hSW).1))
  have hr3:(w1.setCell ⟨N5,0,Ae⟩ (Ad (Af ⟨g',0,Ae⟩) (pre.length+1) cap')).ownsRow N 126 2 (Ad (Af ⟨g',0,Ae⟩) (pre.length+1) cap') (pre++[x]).length (He (pre++[x])):=by
   rw[Vy,Bh];exact hr2
  exact⟨hk2.from _,⟨hb2,hbk⟩,⟨_,hv2,hr3⟩,hbk.trans hSW,HB.out.trans hb2⟩
 case done=>
  rintro D ys W hD rfl ⟨⟨v,hv,hrow,_⟩,hSW,hB⟩ hK;have hc:=hv.cell;obtain⟨A,c,rfl,hA,hnc,hcm⟩:=Ja hrow
  gi_wp2
  refine⟨trivial,(callsIn_wide.2 (xF A _ c W hnc hcm)).mono ?_⟩;rintro e w9 ⟨rfl,hb9⟩;have hK9:=(hb9.block D (Au.1 hK).1).trans hK;have hrow9:=(En.of_own hrow).below hb9;have hB9:=hB.trans (hb9.mono (Br (by rw[HW.out];exact Am _) hB.size));clear hrow hc hv hB hb9 hK
  gi_wp2
  refine⟨Cn,.inl ⟨_,_,rfl,run_takeDeferred hK9,?_⟩⟩;have hDN:N≤D:=Ci
  have hrow10:En (w9.putObj D (.deferred Ae)) N 126 2 A (Fu a b).length (He (Fu a b)):=by
   refine⟨hrow9.1,?_⟩;rcases hrow9.2 with h0|⟨g,cur,r1,r2,r3,r4⟩
   ·exact .inl h0
   ·exact .inr ⟨g,cur,r1,r2,(World.putObj_heap_other (λe=>by subst e;rw[hK9]at r3;cases r3)).trans r3,r4⟩
  exact⟨_,by simp[results,Tryz.results82,go_sem],A,rfl,by rw[HW.out];exact hrow10,by rw[HW.out];exact hB9.trans (belowK_b (w:=W0) Ci w9 D _ _ Ci hK9 rfl rfl)⟩
 case stop=>
  rintro D c pre W _ _ h _;exact h.elim
end Go.Proofs.YthpcfeifmdbhnaaGreatDoor
namespace Go.Proofs.YthpcfeifmdbhnaaGreatDoor
structure Sm where
 a:Cl
 b:Cl
 ps:List (Nat×Nat)
 ls:List (Nat×Nat×Nat)
 es:List Nat
deriving DecidableEq
def Sm.none (a b:Cl):Sm:=⟨a,b,[],[],[]⟩
def Ln (a b:Cl) (f:Sm→Sm):List Sm→List Sm
 |[]=>[f (Sm.none a b)]
 |s::r=>if s.a=a∧s.b=b then f s::r else s::Ln a b f r
def Mq (c:Cl) (e:Nat):Cl×Int:=(⟨(nbr c.x c.y c.q e).1,(nbr c.x c.y c.q e).2.1,(nbr c.x c.y c.q e).2.2.1.toNat⟩,(nbr c.x c.y c.q e).2.2.2)
def Lb (l:List Stk):List (Nat×Nat):=l.flatMap λx=>x.ls.zipIdx
def Si (n:Nat) (p:List (Nat×Nat)):List Nat:=p.foldl (λh q=>h.set q.1 q.2) (Ba n 0)
structure Lk where
 a:Int
 b:Int
 cr:List Cr
 ms:List Mv
 is:List Cl
 hs:List Nat
def Lk.other (k:Lk) (id e:Nat):Cl:=(Kq (k.ms.getD id mv0) (Mq (Cp k.a id) e).1).1
def Lk.img (k:Lk) (id:Nat):Cl:=k.is.getD id cl0
def Lk.add (k:Lk) (id e:Nat) (s:Sm):Sm:=
 if(nbI k.a k.b id e).2≠0 then{s with es:=s.es++[id]}
 else if(nbI k.a k.b id e).1<id then s
 else
  let n:=(nbI k.a k.b id e).1.toNat
  let side:=if k.img id=s.b then 1 else 0
  if Cx k.cr id e=0 then{s with ps:=s.ps++[if side=0 then (id,n)else (n,id)]}
  else{s with ls:=s.ls++[if k.hs.getD id 0<k.hs.getD n 0 then (side,id,n)else (side,n,id)]}
def Lk.key (k:Lk) (id e:Nat):Cl×Cl:=if 0<Fg (k.img id) (k.other id e)then (k.other id e,k.img id)else (k.img id,k.other id e)
def Lk.meet (k:Lk) (id e:Nat) (l:List Sm):List Sm:=Ln (k.key id e).1 (k.key id e).2 (k.add id e) l
def Lk.seamsTo (k:Lk):Nat→List Sm
 |0=>[]
 |j+1=>k.meet (j/3) (j%3) (k.seamsTo j)
def Lk.seams (k:Lk):List Sm:=k.seamsTo (3*Cq k.a k.b)
def Jv (a b:Int) (cr:List Cr) (root:Mv) (l:List Stk):Int:=
 if(Df a b cr root).2≠0 then (Df a b cr root).2
 else if chkS (Cq a b) l≠0 then chkS (Cq a b) l
 else if l.any λx=>x.ls.any λid=>decide ((Df a b cr root).1.2.getD id cl0≠x.c)then 6
 else if l.any λx=>[0,1,2].any λe=>decide ((Mq x.c e).2≠0)then 3
 else 0
def Yd (a b:Int) (cr:List Cr) (root:Mv) (l:List Stk):Lk:=
 ⟨a,b,cr,(Df a b cr root).1.1,(Df a b cr root).1.2,Si (Cq a b) (Lb l)⟩
def dS (side:Nat) (p:Nat×Nat):Nat:=if side=0 then p.1 else p.2
def Dp (ls:List Nat) (s:Sm) (side:Nat):List Int:=s.ps.map λp=>Gh ls (dS side p)
def aV (ls:List Nat) (s:Sm) (side:Nat):List (Int×Int):=(s.ls.filter λx=>decide (x.1=side)).map λx=>(Gh ls x.2.1,Gh ls x.2.2)
def mm (p:Int×Int):Int×Int:=(min p.1 p.2,max p.1 p.2)
def Nj (ls:List Nat) (s:Sm) (side:Nat):List (Int×Int):=(aV ls s side).map mm
def Jq (ls:List Nat) (s:Sm) (side:Nat):Bool:=(Dp ls s side).all (λh=>decide (0≤h))&&(aV ls s side).all (λx=>decide (0≤x.1)&&decide (0≤x.2))
def Jy (x y:Int×Int):Bool:=(decide (x.1<y.1)&&decide (y.1<x.2)&&decide (x.2<y.2))||(decide (y.1<x.1)&&decide (x.1<y.2)&&decide (y.2<x.2))
def Ih (t:List Int) (l:List (Int×Int)):Bool:=l.any λx=>(t.any λh=>decide (x.1<h)&&decide (h<x.2))||l.any (Jy x)
def La (t u:List Int):Bool:=(t.zip u).any λp=>(t.zip u).any λq=>decide (p.1<q.1)&&decide (q.2<p.2)
def Fh (l:List Stk) (s:Sm):Bool:=
 !Jq (atF l s.a) s 0|| !Jq (atF l s.b) s 1||(s.ls.any λx=>decide (1<x.1))
  ||Ih (Dp (atF l s.a) s 0) (Nj (atF l s.a) s 0)||Ih (Dp (atF l s.b) s 1) (Nj (atF l s.b) s 1)
  ||La (Dp (atF l s.a) s 0) (Dp (atF l s.b) s 1)
def Ia (a b:Int) (x:Nat×Nat×Nat):Nat×Nat:=match([0,1,2]:List Nat).find? λ(e:Nat)=>decide (nbI a b ((min x.2.1 x.2.2:Nat):Int) (e:Int)=(((max x.2.1 x.2.2:Nat):Int),(0:Int)))with
 |some e=>(min x.2.1 x.2.2,e)
 |none=>(0,0)
def aT (up:List Bool) (x:Nat×Nat×Nat):Int:=if up.getD x.2.2 false then 1 else 2
def Eh (a b:Int) (cr:List Cr) (up:List Bool) (x:Nat×Nat×Nat):Bool:=
 decide (Cx cr (Ia a b x).1 (Ia a b x).2≠3)&&decide (Cx cr (Ia a b x).1 (Ia a b x).2≠aT up x)
structure St where
 a:Int
 b:Int
 cr:List Cr
 root:Mv
 l:List Stk
def St.chk (s:St):Int:=
 if Jv s.a s.b s.cr s.root s.l≠0 then Jv s.a s.b s.cr s.root s.l
 else if(Yd s.a s.b s.cr s.root s.l).seams.any (Fh s.l)then 12
 else if(Yd s.a s.b s.cr s.root s.l).seams.any λx=>x.ls.any (Eh s.a s.b s.cr (upF s.a s.b s.cr s.root).1)then 13
 else 0
def gB (x:Stk):List Stk→List Stk
 |[]=>[x]
 |y::r=>if Fg x.c y.c≤0 then x::y::r else y::gB x r
def Iw:List Stk→List Stk
 |[]=>[]
 |x::r=>gB x (Iw r)
def Il (x:Stk):List Stk→List Stk
 |[]=>[x]
 |y::r=>if y.c=x.c then⟨y.c,y.ls++x.ls⟩::r else y::Il x r
def Ev (l h:List Stk):List Stk:=Iw ((l++h).foldl (λo x=>if x.ls.isEmpty then o else Il x o) [])
def Ex (a b:Int):St:=⟨a,b,[],mv0,Ev [] ((List.range (Cq a b)).map λid=>⟨(Df a b [] mv0).1.2.getD id cl0,[id]⟩)⟩
def Hd (s:St) (k c:Int):List (Nat×Nat):=
 (Fu s.a s.b).filter λu=>decide (Dy k c ((Df s.a s.b s.cr s.root).1.2.getD u.1 cl0)≠Dy k c ((Df s.a s.b s.cr s.root).1.2.getD (nbI s.a s.b u.1 u.2).1.toNat cl0))&&decide (Cx s.cr u.1 u.2=0)
def tA (x:Cr):List Cr→List Cr
 |[]=>[x]
 |y::r=>if Gd x.c x.e y.c y.e≤0 then x::y::r else y::tA x r
def Jg:List Cr→List Cr
 |[]=>[]
 |x::r=>tA x (Jg r)
structure Fd where
 k:Int
 c:Int
 side:Nat
 over:Bool
deriving DecidableEq
def Mf (m:Mv) (l:List Stk):Option (List Stk):=if l.all λx=>decide ((Gp m x.c).2=0)then Af (Iw (l.map λx=>⟨(Gp m x.c).1,x.ls⟩))else Ae
def Hq (l:List Stk):List Stk:=l.map λx=>⟨x.c,x.ls.reverse⟩
def Dc (k c:Int) (side:Nat) (l:List Stk):List Stk:=l.filter λx=>decide (Dy k c x.c=side)
def St.img (s:St) (id:Nat):Cl:=(Df s.a s.b s.cr s.root).1.2.getD id cl0
def St.fold (s:St) (f:Fd):Int×Option St:=
 if Le f.k f.c f.side=false then (1,Ae)
 else if(Hd s f.k f.c).isEmpty then (7,Ae)
 else match Mf (ofL f.k f.c) (Hq (Dc f.k f.c f.side s.l))with
  |none=>(3,Ae)
  |some mv=>
   let root:=if Dy f.k f.c (s.img 0)=f.side then Pm s.root (ofL f.k f.c)else (s.root,0)
   if root.2≠0 then (3,Ae)
   else
    let stay:=Dc f.k f.c (1-f.side) s.l
    let cr:=Jg (s.cr++(Hd s f.k f.c).map λu=>⟨u.1,u.2,if(upF s.a s.b s.cr s.root).1.getD u.1 false=f.over then 2 else 1⟩)
    let t:St:=⟨s.a,s.b,cr,root.1,if f.over then Ev stay mv else Ev mv stay⟩
    if t.chk=0 then (0,Af t)else (3,Ae)
def St.do (s:St) (f:Fd):Int×Option St:=if s.chk≠0 then (s.chk,Ae)else s.fold f
end Go.Proofs.YthpcfeifmdbhnaaGreatDoor
namespace Go.Proofs.YthpcfeifmdbhnaaGreatDoor
open Go.RowKit
theorem Dd.row {O:Nat} {w w':Aj} {v:Ak} {l1 l2:List SkR} {x y:SkR} (h:Dd O w v (l1++x::l2)) (hc:Eg y=Eg x) (hA:y.2=x.2) (hl:y.1.ls.length=x.1.ls.length) (hr:En w' O 3 1 y.2.1 y.1.ls.length (Di y.1.ls))
  (hg:w.grownBy w' (x.2.1.map (·.block))):Dd O w' v (l1++y::l2):=by
 obtain⟨h1,h2,h3⟩:=h;have hx:=h2 x Cn;have hxb:∀g,x.2.1.map (·.block)=Af g→g∈Fp x:=λg hg=>by unfold Fp;rw[hg];simp
 have hn:=h3;simp only[Bi,Bf,Bp,Bl]at hn;obtain⟨n1,⟨n2,n3,n4⟩,n5⟩:=hn
 have hoth:∀u∈l1++l2,Ir O w' u:=λu hu=>by
  have hu':u∈l1++x::l2:=by
   rcases Bl.1 hu with h|h
   ·simp[h]
   ·simp[h]
  refine(h2 u hu').same λg hgu=>hg.block g ((h2 u hu').lt g hgu).2.1 λe=>?_;have hgx:=hxb g e.symm;rcases Bl.1 hu with h|h
  ·exact n5 g (List.mem_flatMap.2 ⟨u,h,hgu⟩) g (.inl hgx) rfl
  ·exact n4 g hgx g (List.mem_flatMap.2 ⟨u,h,hgu⟩) rfl
 have hb:Fp y=Fp x:=by unfold Fp;rw[hA]
 refine⟨?_,λu hu=>?_,?_⟩
 ·have hk:=iD h1 hg (.inr λe=>by
   rcases hr.2 with⟨h0,-⟩|⟨g,cur,h0,-⟩
   ·rw[hA]at h0;rw[h0]at e;rcases h1.2 with⟨rfl,h00⟩|⟨g',_,_,rfl,_⟩
    ·simp at h00
    ·cases e
   ·rw[hA]at h0;have hgx:=hxb g (by rw[h0];rfl);refine Ph h1 hx g hgx ?_;rw[e,h0];rfl)
  simpa[hc]using hk
 ·rcases Bl.1 hu with hu|hu
  ·exact hoth u (by simp[hu])
  ·rcases Bk.1 hu with rfl|hu
   ·refine⟨?_,?_,?_,hr⟩
    ·rw[hA,hl];exact hx.1
    ·rw[hA,hl];exact hx.2.1
    ·rw[hA];exact hx.2.2.1
   ·exact hoth u (by simp[hu])
 ·simp only[Bi,Bf,hb]at h3⊢;exact h3
def skZ:SkR:=(⟨cl0,[]⟩,(Ae,0))
theorem Su:(Tryz.prog.info? 89).map (λi=>(i.zero,i.size,i.bytes))=Af (Af (.agg #[Aa Ab 0,Aa Ab 0,Aa Ac 0,Ad Ae 0 0]),4,48):=Cm
theorem yY (k:Nat):madeCells #[Aa Ab 0,Aa Ab 0,Aa Ac 0,Ad Ae 0 0] (k*4)=((Ba k skZ).flatMap Eg).toArray:=by
 have hlen:((Ba k skZ).flatMap Eg).length=k*4:=by rw[Fv Eg 4 Gm,List.length_replicate]
 apply Array.ext';apply List.ext_getElem?;intro j;by_cases hj:j<k*4
 ·obtain⟨i,f,hf,rfl⟩:∃i f,f<4∧j=i*4+f:=⟨j/4,j%4,Ci,Ci⟩;have hi:i<k:=Ci;have h1:((Ba k skZ).flatMap Eg)[i*4+f]? =(Eg ((Ba k skZ)[i]'(by simpa using hi)))[f]? :=Dz Eg 4 Gm _ i f (by simpa using hi) hf;rw[h1];have h3:f=0∨f=1∨f=2∨f=3:=Ci;have hm:(i*4+f)%4=f:=Ci;simp[madeCells,hj,hm];rcases h3 with rfl|rfl|rfl|rfl<;>rfl
 ·rw[List.getElem?_eq_none (by simp[madeCells];omega),List.getElem?_eq_none (by rw[hlen];omega)]
theorem Un (k:Nat) (hk:k≤100000) (W:Aj):(Instr.makeSlice 31 (Aa Ab k) (Aa Ab k)).run Tryz.prog W= .ok (Ad (Af ⟨W.heap.size,0,Ae⟩) k k) (W.alloc (.cells ((Ba k skZ).flatMap Eg).toArray 89)):=by
 obtain⟨i,hi,hz,hs,hb⟩:=info_parts Su;have h:=run_make (P:=Tryz.prog) W 31 89 i _ Tryz.underlying31 hi hz .i64 .i64 k k Ci Ci (by rw[hb];omega) Ci;rw[h];simp only[Int.toNat_natCast,hs];have e:(Value.agg #[Aa Ab 0,Aa Ab 0,Aa Ac 0,Ad Ae 0 0]).cells= #[Aa Ab 0,Aa Ab 0,Aa Ac 0,Ad Ae 0 0]:=by rfl
 rw[e,yY]
theorem Dd.made (w:Aj) (k:Nat) (hk:k≤100000):Dd w.heap.size (w.alloc (.cells ((Ba k skZ).flatMap Eg).toArray 89)) (Ad (Af ⟨w.heap.size,0,Ae⟩) k k) (Ba k skZ):=by
 have hlen:((Ba k skZ).flatMap Eg).length=k*4:=by rw[Fv Eg 4 Gm,List.length_replicate]
 refine⟨⟨by rw[hlen,List.length_replicate],.inr ⟨w.heap.size,k,_,by rw[List.length_replicate],Am _,Bz w _,by rw[List.length_replicate];exact Am _,by unfold maxLen;omega,by simp[hlen],?_⟩⟩,λx hx=>?_,?_⟩
 ·rw[List.length_replicate,←hlen];exact List.take_length
 ·obtain⟨-,rfl⟩:=List.mem_replicate.1 hx;exact⟨.inl ⟨rfl,rfl,rfl⟩,Am _,Nat.zero_le _,rfl,.inl ⟨rfl,rfl⟩⟩
 ·have:(Ba k skZ).flatMap Fp=[]:=by
   rw[List.flatMap_eq_nil_iff];intro x hx;obtain⟨-,rfl⟩:=List.mem_replicate.1 hx;rfl
  rw[this];exact List.nodup_nil
def wB (l:List Stk) (w:Aj) (e:Ending) (w':Aj):Prop:=
 ∃A c zl,e= .returned (Ad A l.length c)∧Dd w.heap.size w' (Ad A l.length c) zl∧zl.map (·.1)=l∧Below w.heap.size w w'
theorem Te {O GO n c:Nat} {wr W:Aj} {L:List SkR} {x:SkR} {i:Nat} (h:Dd O wr (Ad (Af ⟨GO,0,Ae⟩) n c) L) (hi:i<L.length) (hb:Below wr.heap.size wr W) (hx:Ir wr.heap.size W x) (hO:O≤wr.heap.size):
  (∀f,f<4→∃u,W.cell? ⟨GO,i*4+f,Ae⟩=Af u)∧(∀j,W.frozen? ⟨GO,j,Ae⟩=false)∧
   Dd O ((((W.setCell ⟨GO,i*4,Ae⟩ (Aa Ab x.1.c.x)).setCell ⟨GO,i*4+1,Ae⟩ (Aa Ab x.1.c.y)).setCell ⟨GO,i*4+2,Ae⟩ (Aa Ac x.1.c.q)).setCell ⟨GO,i*4+3,Ae⟩ (Ad x.2.1 x.1.ls.length x.2.2)) (Ad (Af ⟨GO,0,Ae⟩) n c) (L.set i x):=by
 have hn:n=L.length:=by
  obtain⟨A,c',e,-⟩:=Dv h.1;simp at e;exact e.2.1
 subst hn;have hk:=Dj h.1 (Am _) hb;have hlen:=Fv Eg 4 Gm L;have hrd:=Rd.of_own hk;obtain⟨b,o,e,-,hc⟩:=hrd.2 Ci;obtain⟨rfl,rfl⟩:GO=b∧0=o:=by simpa using e
 have s1:=Ge hk (Es W (Af GO)) (i*4) (Aa Ab x.1.c.x);have s2:=Ge s1.1 s1.2 (i*4+1) (Aa Ab x.1.c.y);have s3:=Ge s2.1 s2.2 (i*4+2) (Aa Ac x.1.c.q);have s4:=Ge s3.1 s3.2 (i*4+3) (Ad x.2.1 x.1.ls.length x.2.2);rw[Ad3 L i hi x]at s4;refine⟨λf hf=>?_,Nm hk,h.set hi hb hx s4.1 s4.2 hO⟩;have hl:i*4+f<(L.flatMap Eg).length:=by rw[hlen];omega
 have:=hc (i*4+f) _ (Aw hl);rw[Bt]at this;exact⟨_,this⟩
theorem uV (l:List Stk) (k:Nat) (h:k<l.length):Hq (l.take (k+1))=Hq (l.take k)++[⟨l[k].c,l[k].ls.reverse⟩]:=by
 unfold Hq;rw[Bc h,List.map_append];rfl
theorem iY (A:Option Addr) (l:List Stk) (n cc:Nat) (w:Aj) (hn:n=l.length) (h:Dh w A l) (hl:n≤100000) (hls:∀x∈l,x.ls.length≤100000):
  Al Tryz.prog 51 #[Ad A n cc] w (wB (Hq l) w):=by
 have HSK:=Ah (λ(w':Aj) (hb:Below w.heap.size w w')=>h.below hb);have HN:=Ah hn;have HLS:=Ah hls;have hmk:=Un n hl w;have hO0:=Dd.made w n hl;have hb0:=(Ag w.heap.size w).alloc (Am _) (.cells ((Ba n skZ).flatMap Eg).toArray 89);clear hn h hls;go_enter Tryz.func51,Tryz.ntmps51;go_upto_region 2 with fail;obtain⟨GO,hGO⟩:=ey w.heap.size;have HGO:=Ah hGO;rw[hGO]at hO0
 try rw[hGO]
 obtain⟨W0,hW0⟩:=ez (w.alloc (.cells ((Ba n skZ).flatMap Eg).toArray 89));rw[←hW0]at hO0 hb0⊢;clear hW0;have HO0:Hid (Dd w.heap.size W0 (Ad (Af ⟨GO,0,Ae⟩) n n) ([]++Ba (n-0) skZ)):=Ah (by rw[hGO];exact hO0);have HB0:=Ah hb0;clear hmk hGO hO0 hb0;go_wp2
 go_loopw [11] (λs11 wr=>∃k:Nat,k≤n∧s11= Aa Ab k∧Hid (∃zl:List SkR,zl.map (·.1)=Hq (l.take k)∧Dd w.heap.size wr (Ad (Af ⟨GO,0,Ae⟩) n n) (zl++Ba (n-k) skZ))∧Hid (Below w.heap.size w wr)) (λs11 _=>n-(intOf s11).toNat)
 case atStart=>exact⟨0,Ci,rfl,Ah ⟨[],rfl,HO0.out⟩,HB0⟩
 case round=>
  obtain⟨k,hk,rfl,HZ,HB⟩:=hrel;clear HO0 HB0;by_cases hlt:k<n
  ·have hkl:k<l.length:=by have:=HN.out;omega
   have q0:(k:Int)<(n:Int):=Ci;obtain⟨bb,o,A',c',hAA,hbl,⟨d0,d1,d2,d3⟩,hA',hle,hcm,hrd⟩:=(HSK.out _ HB.out).get k hkl;have hlk:=HLS.out l[k] (Ay _);have hsn:=uV l k hkl;obtain⟨⟨⟨x0,x1,x2⟩,ids⟩,hx⟩:∃z,l[k]=z:=⟨_,rfl⟩;simp only[hx]at d0 d1 d2 d3 hlk hrd hA' hle hsn;obtain⟨m,hm⟩:=ey ids.length;rw[hm]at d3 hlk hrd hA' hle;have HMD:=Ah hm;have HSN:=Ah hsn;have HCP:=Ah (λ(w':Aj) (hb:Below wr.heap.size wr w')=>Lu ⟨x0,x1,x2⟩ A' ids m c' w' hm.symm hA' (hrd.below hb) Ci);obtain⟨C,hC⟩:=ey wr.heap.size;have hbC:=Bz wr (.cells #[Aa Ab x0,Aa Ab x1,Aa Ac x2,Ad A' m c'] 89);rw[hC]at hbC;have hbq:=(Ag wr.heap.size wr).alloc (Am _) (.cells #[Aa Ab x0,Aa Ab x1,Aa Ac x2,Ad A' m c'] 89);subst hAA;clear hsn hrd hA' hle hx hm;go_upto_region 5 with fail
   try rw[hC]
   obtain⟨W5,hW5⟩:=ez (wr.alloc (.cells #[Aa Ab x0,Aa Ab x1,Aa Ac x2,Ad A' m c'] 89));rw[←hW5]at hbC hbq⊢;clear hW5;clear d0 d1 d2 d3;obtain⟨⟨e0,e1,e2,e3⟩,-⟩:=Ez hbC;have HBQ:=Ah hbq;have hsz:=HB.out.size;clear hbC hbq;go_wp2_with fail;refine(HCP.out _ HBQ.out).mono ?_;rintro ee w6 ⟨A9,rfl,hA9,hrow9,hb9⟩;dsimp only;obtain⟨zl,hz1,hz2⟩:=HZ.out
   have hzl:zl.length=k:=by
    have:=congrArg List.length hz1;unfold Hq at this;simp at this;omega
   have hb69:=HBQ.out.trans (hb9.mono HBQ.out.size);have hbase:=HBQ.out.size;have hx9:Ir wr.heap.size w6 (⟨⟨x0,x1,x2⟩,ids⟩,(A9,ids.length)):=⟨hA9,Am _,by show ids.length≤maxLen;have:=HMD.out;unfold maxLen;omega,hrow9.base hbase⟩;obtain⟨ucell,ufree,hset⟩:=Te hz2 (i:=k) (by simp[hzl];omega) hb69 hx9 hsz
   have hLset:(zl++Ba (n-k) skZ).set k (⟨⟨x0,x1,x2⟩,ids⟩,(A9,ids.length))=zl++(⟨⟨x0,x1,x2⟩,ids⟩,(A9,ids.length))::Ba (n-(k+1)) skZ:=by
    rw[List.set_append_right _ _ Ci,hzl,Nat.sub_self];rw[show n-k=(n-(k+1))+1 by omega,List.replicate_succ,Cf]
   rw[hLset]at hset;rw[HMD.out]at hset⊢;dsimp only at hset;obtain⟨v0,g0⟩:=ucell 0 Ci;obtain⟨v1,g1⟩:=ucell 1 Ci;obtain⟨v2,g2⟩:=ucell 2 Ci;obtain⟨v3,g3⟩:=ucell 3 Ci;rw[Nat.add_zero]at g0;have z0:=ufree (k*4);have z1:=ufree (k*4+1);have z2:=ufree (k*4+2);have z3:=ufree (k*4+3)
   have hbN:Below w.heap.size w ((((w6.setCell ⟨GO,k*4,Ae⟩ (Aa Ab x0)).setCell ⟨GO,k*4+1,Ae⟩ (Aa Ab x1)).setCell ⟨GO,k*4+2,Ae⟩ (Aa Ac x2)).setCell ⟨GO,k*4+3,Ae⟩ (Ad A9 m m)):=by
    have hgo:w.heap.size≤GO:=by rw[HGO.out];exact Am _
    have hb6:=HB.out.trans (hb69.mono hsz);exact(((hb6.setCell (p:=⟨GO,k*4,Ae⟩) hgo _).setCell (p:=⟨GO,k*4+1,Ae⟩) hgo _).setCell (p:=⟨GO,k*4+2,Ae⟩) hgo _).setCell (p:=⟨GO,k*4+3,Ae⟩) hgo _
   have hA9b:∀g,A9.map (·.block)=Af g→w.heap.size≤g:=λg hg=>by have:=(hrow9.lt g hg).1;omega
   have HZL:=Ah hzl;have HZ1:=Ah hz1;have HA9:=Ah hA9b;clear ucell ufree hLset hx9 hz1 hz2 hzl hb69 hbase hsz hb9 hrow9 hA9 e0 e1 e2 e3 HZ HB HBQ HCP hA9b;go_upto_region 6 with fail;obtain⟨W7,hW7⟩:=ez ((((w6.setCell ⟨GO,k*4,Ae⟩ (Aa Ab x0)).setCell ⟨GO,k*4+1,Ae⟩ (Aa Ab x1)).setCell ⟨GO,k*4+2,Ae⟩ (Aa Ac x2)).setCell ⟨GO,k*4+3,Ae⟩ (Ad A9 m m));rw[←hW7]at hset hbN⊢;clear hW7;clear g0 g1 g2 g3 z0 z1 z2 z3
   have h3:W7.cell? ⟨GO,k*4+3,Ae⟩=Af (Ad A9 m m):=by
    have hln:(zl++((⟨⟨x0,x1,x2⟩,ids⟩,(A9,m)):SkR)::Ba (n-(k+1)) skZ).length=n:=by
     have:=HZL.out;simp;omega
    have h1:=hset.1;rw[hln]at h1;have hrd:=Rd.of_own h1;obtain⟨b,o',e,-,hc⟩:=hrd.2 Ci;obtain⟨rfl,rfl⟩:GO=b∧0=o':=by simpa using e
    have hz:=HZL.out;have hat:=Dz Eg 4 Gm (zl++(⟨⟨x0,x1,x2⟩,ids⟩,(A9,m))::Ba (n-(k+1)) skZ) k 3 (by simp;omega) Ci
    have hge:(zl++(⟨⟨x0,x1,x2⟩,ids⟩,(A9,m))::Ba (n-(k+1)) skZ)[k]'(by simp;omega)=((⟨⟨x0,x1,x2⟩,ids⟩,(A9,m)):SkR):=by
     rw[List.getElem_append_right Ci];simp[hz]
    rw[hge]at hat;have:=hc (k*4+3) (Ad A9 m m) (hat.trans (by simp[Eg,HMD.out]));rw[Bt]at this;exact this
   have hx9:=hset.2.1 ((⟨⟨x0,x1,x2⟩,ids⟩,(A9,m)):SkR) Cn;have hrow:=hx9.2.2.2;dsimp only at hrow;rw[HMD.out]at hrow;have HRV:=Ah (Ab0 (c:=m) ids W7 hrow Ci);have HSET:=Ah hset;have HBN:=Ah hbN;clear hset hbN hx9 hrow;go_wp2_with fail;refine HRV.out.mono ?_;rintro ee w8 ⟨rfl,hrow8,hg8⟩;have hrl:ids.reverse.length=m:=by rw[List.length_reverse,HMD.out]
   have h8:=HSET.out.row (y:=(⟨⟨x0,x1,x2⟩,ids.reverse⟩,(A9,m))) (by unfold Eg;dsimp only;rw[hrl,HMD.out]) rfl (by dsimp only;rw[hrl,HMD.out]) (by dsimp only;rw[hrl];exact hrow8) hg8;have hb8:=HBN.out.grown hg8 HBN.out.size (λg hg=>HA9.out g hg);have HO8:Hid (∃zl:List SkR,zl.map (·.1)=Hq (l.take (k+1))∧Dd w.heap.size w8 (Ad (Af ⟨GO,0,Ae⟩) n n) (zl++Ba (n-(k+1)) skZ)):=Ah ⟨zl++[(⟨⟨x0,x1,x2⟩,ids.reverse⟩,(A9,m))],by rw[List.map_append,HZ1.out,HSN.out];rfl,by rw[Bj];exact h8⟩;have HB8:=Ah hb8;clear hrow8 hg8 hrl h8 hb8 h3 HRV HSET HBN;go_wp2;exact⟨⟨k+1,Ci,by go_num,HO8,HB8⟩,by simp[intOf];omega⟩
  ·obtain rfl:k=n:=Ci;have q0:¬(k:Int)<(k:Int):=Ci;obtain⟨zl,hz1,hz2⟩:=HZ.out;have ht:l.take k=l:=Bg (by have:=HN.out;omega);rw[ht]at hz1;rw[Nat.sub_self,List.replicate_zero,List.append_nil]at hz2;have hrl:(Hq l).length=k:=by unfold Hq;rw[Bo];exact HN.out.symm
   have HFIN:Hid (wB (Hq l) w (.returned (Ad (Af ⟨GO,0,Ae⟩) k k)) wr):=Ah ⟨Af ⟨GO,0,Ae⟩,k,zl,by rw[hrl],by rw[hrl];exact hz2,hz1,HB.out⟩;clear hz1 hz2 hrl ht HZ;go_wp2;go_ret;exact HFIN.out
end Go.Proofs.YthpcfeifmdbhnaaGreatDoor
namespace Go.Proofs.YthpcfeifmdbhnaaGreatDoor.Rs
open Go.RowKit
structure Sr where
 x:Int
 y:Int
 q:Nat
 A:Option Addr
 n:Nat
 c:Nat
 ls:List Nat
 hx: -4096≤x∧x≤4096
 hy: -4096≤y∧y≤4096
 hq:q≤3
def Sr.cells (r:Sr):List Ak:=[Aa Ab r.x,Aa Ab r.y,Aa Ac (r.q:Int),Ad r.A r.n r.c]
def recs (l:List Sr):List Ak:=l.flatMap Sr.cells
def Sr.t (r:Sr):Int:=(r.y*16384+r.x)*4+r.q
theorem Mj (r:Sr):r.cells.length=4:=rfl
theorem iS (L:List Sr) (i:Nat) (hi:i<L.length) (b:Sr):
  ((((recs L).set (i*4) (Aa Ab b.x)).set (i*4+1) (Aa Ab b.y)).set (i*4+2) (Aa Ac (b.q:Int))).set (i*4+3) (Ad b.A b.n b.c)=recs (L.set i b):=by
 obtain⟨a,ha⟩:=ey (L[i]);have e0:=Jo Sr.cells 4 Mj L i 0 hi Ci ⟨b.x,a.y,a.q,a.A,a.n,a.c,a.ls,b.hx,a.hy,a.hq⟩ (Aa Ab b.x) (by rw[ha];rfl);have e1:=Jo Sr.cells 4 Mj (L.set i ⟨b.x,a.y,a.q,a.A,a.n,a.c,a.ls,b.hx,a.hy,a.hq⟩) i 1 (by simpa using hi) Ci ⟨b.x,b.y,a.q,a.A,a.n,a.c,a.ls,b.hx,b.hy,a.hq⟩ (Aa Ab b.y) (by rw[List.getElem_set_self];rfl);have e2:=Jo Sr.cells 4 Mj (L.set i ⟨b.x,b.y,a.q,a.A,a.n,a.c,a.ls,b.hx,b.hy,a.hq⟩) i 2 (by simpa using hi) Ci ⟨b.x,b.y,b.q,a.A,a.n,a.c,a.ls,b.hx,b.hy,b.hq⟩ (Aa Ac (b.q:Int)) (by rw[List.getElem_set_self];rfl);have e3:=Jo Sr.cells 4 Mj (L.set i ⟨b.x,b.y,b.q,a.A,a.n,a.c,a.ls,b.hx,b.hy,b.hq⟩) i 3 (by simpa using hi) Ci b (Ad b.A b.n b.c) (by rw[List.getElem_set_self];rfl);rw[List.set_set]at e1 e2 e3;unfold recs;rw[Nat.add_zero]at e0;rw[←e0,←e1,←e2,←e3]
theorem Ax0 {w:Aj} {A:Option Addr} {l:List Sr} (h:Rd w A 4 l.length (recs l)) (i:Nat) (hi:i<l.length):
  ∃b o,A=Af ⟨b,o,Ae⟩∧b<w.heap.size∧w.cell? ⟨b,o+i*4,Ae⟩=Af (Aa Ab l[i].x)∧w.cell? ⟨b,o+i*4+1,Ae⟩=Af (Aa Ab l[i].y)∧
   w.cell? ⟨b,o+i*4+2,Ae⟩=Af (Aa Ac (l[i].q:Int))∧w.cell? ⟨b,o+i*4+3,Ae⟩=Af (.slice l[i].A l[i].n l[i].c):=by
 obtain⟨b,o,e,hb,hc⟩:=h.2 Ci;refine⟨b,o,e,hb,?_,?_,?_,?_⟩
 ·exact hc (i*4+0) _ ((Dz _ 4 Mj l i 0 hi Ci).trans rfl)
 ·exact hc (i*4+1) _ ((Dz _ 4 Mj l i 1 hi Ci).trans rfl)
 ·exact hc (i*4+2) _ ((Dz _ 4 Mj l i 2 hi Ci).trans rfl)
 ·exact hc (i*4+3) _ ((Dz _ 4 Mj l i 3 hi Ci).trans rfl)
theorem Rg {a b c d:Int} (h1:a<b↔c<d) (h2:b<a↔d<c):Dm a b=Dm c d:=by
 unfold Dm;simp only[h1,h2]
theorem xK (a b:Sr):Fg ⟨a.x,a.y,a.q⟩ ⟨b.x,b.y,b.q⟩=Dm a.t b.t:=by
 have h1:=a.hx;have h2:=a.hy;have h3:=a.hq;have h4:=b.hx;have h5:=b.hy;have h6:=b.hq;unfold Fg Sr.t;dsimp only;by_cases e1:a.y=b.y
 ·rw[if_neg (λh=>h (Ek.2 e1))];by_cases e2:a.x=b.x
  ·rw[if_neg (λh=>h (Ek.2 e2))];exact Rg Ci Ci
  ·rw[if_pos (λh=>e2 (Ek.1 h))];exact Rg Ci Ci
 ·rw[if_pos (λh=>e1 (Ek.1 h))];exact Rg Ci Ci
theorem Pu (a b:Sr) (w:Aj):
  Al Tryz.prog 89 #[.agg #[Aa Ab a.x,Aa Ab a.y,Aa Ac (a.q:Int),Ad a.A a.n a.c],.agg #[Aa Ab b.x,Aa Ab b.y,Aa Ac (b.q:Int),Ad b.A b.n b.c]] w (Co (Aa Ab (Dm a.t b.t)) w):=by
 have HC:=Ah (λw'=>Vj ⟨a.x,a.y,a.q⟩ ⟨b.x,b.y,b.q⟩ w' (by have:=a.hq;dsimp only;omega) (by have:=b.hq;dsimp only;omega));rw[xK]at HC;dsimp only at HC;obtain⟨r,hr⟩:=ey (Dm a.t b.t);rw[hr]at HC⊢;obtain⟨x0,x1,x2,xA,n,xc,xl,ax,ay,aq⟩:=a;obtain⟨y0,y1,y2,yA,m,yc,yl,bx,by',bq⟩:=b;dsimp only at HC⊢;have hbd:Below w.heap.size w ((w.alloc (.cells #[Aa Ab x0,Aa Ab x1,Aa Ac x2,Ad xA n xc] 89)).alloc (.cells #[Aa Ab y0,Aa Ab y1,Aa Ac y2,Ad yA m yc] 89)):=((Ag _ _).alloc (Am _) _).alloc Cn _;have H:=((Bx.start w).new #[Aa Ab x0,Aa Ab x1,Aa Ac x2,Ad xA n xc] 89 rfl).new #[Aa Ab y0,Aa Ab y1,Aa Ac y2,Ad yA m yc] 89 (N:=w.heap.size+1) Cn;clear hr;go_enter Tryz.func89,Tryz.ntmps89;go_upto_region 1 with fail;obtain⟨W,hW⟩:=ez ((w.alloc (.cells #[Aa Ab x0,Aa Ab x1,Aa Ac x2,Ad xA n xc] 89)).alloc (.cells #[Aa Ab y0,Aa Ab y1,Aa Ac y2,Ad yA m yc] 89));rw[←hW]at H hbd⊢;clear hW;obtain⟨N,hN⟩:=ez w.heap.size;rw[←hN]at H⊢;have HNN:=Ah hN;clear hN;obtain⟨P,hP⟩:=ey (N+1);rw[hP]at H⊢;clear hP;obtain⟨⟨a0,a1,a2,-⟩,-⟩:=Ez (H.blk 0 _ _ _ rfl);obtain⟨⟨b0,b1,b2,-⟩,-⟩:=Ez (H.blk 1 _ _ _ rfl);have HBD:=Ah hbd;clear hbd H;go_wp2_with fail;refine(HC.out _).mono ?_;rintro e w2 ⟨rfl,hb⟩;go_wp2;go_ret;exact⟨rfl,HBD.out.trans (hb.mono HBD.out.size)⟩
theorem Qn {w:Aj} {base g cap i j n:Nat} {L:List Sr} {a b:Sr} (hown:w.ownsRow base 89 4 (Ad (Af ⟨g,0,Ae⟩) n cap) n (recs L)) (hi:i<L.length) (hj:j<L.length):
  (((((((((w.setCell ⟨g,i*4,Ae⟩ (Aa Ab b.x)).setCell ⟨g,i*4+1,Ae⟩ (Aa Ab b.y)).setCell ⟨g,i*4+2,Ae⟩ (Aa Ac (b.q:Int))).setCell ⟨g,i*4+3,Ae⟩ (Ad b.A b.n b.c)).setCell ⟨g,j*4,Ae⟩ (Aa Ab a.x)).setCell ⟨g,j*4+1,Ae⟩ (Aa Ab a.y)).setCell ⟨g,j*4+2,Ae⟩ (Aa Ac (a.q:Int))).setCell ⟨g,j*4+3,Ae⟩ (Ad a.A a.n a.c)).drew).ownsRow base 89 4 (Ad (Af ⟨g,0,Ae⟩) n cap) n (recs ((L.set i b).set j a))∧
  w.grownBy (((((((((w.setCell ⟨g,i*4,Ae⟩ (Aa Ab b.x)).setCell ⟨g,i*4+1,Ae⟩ (Aa Ab b.y)).setCell ⟨g,i*4+2,Ae⟩ (Aa Ac (b.q:Int))).setCell ⟨g,i*4+3,Ae⟩ (Ad b.A b.n b.c)).setCell ⟨g,j*4,Ae⟩ (Aa Ab a.x)).setCell ⟨g,j*4+1,Ae⟩ (Aa Ab a.y)).setCell ⟨g,j*4+2,Ae⟩ (Aa Ac (a.q:Int))).setCell ⟨g,j*4+3,Ae⟩ (Ad a.A a.n a.c)).drew) (Af g):=by
 have h1:=Ge hown (Es w (Af g)) (i*4) (Aa Ab b.x);have h2:=Ge h1.1 h1.2 (i*4+1) (Aa Ab b.y);have h3:=Ge h2.1 h2.2 (i*4+2) (Aa Ac (b.q:Int));have h4:=Ge h3.1 h3.2 (i*4+3) (Ad b.A b.n b.c);have h5:=Ge h4.1 h4.2 (j*4) (Aa Ab a.x);have h6:=Ge h5.1 h5.2 (j*4+1) (Aa Ab a.y);have h7:=Ge h6.1 h6.2 (j*4+2) (Aa Ac (a.q:Int));have h8:=Ge h7.1 h7.2 (j*4+3) (Ad a.A a.n a.c);clear h1 h2 h3 h4 h5 h6 h7;rw[iS L i hi b,iS (L.set i b) j (by simpa using hj) a]at h8;exact⟨h8.1.drew,Lv h8.2⟩
theorem Tq {α:Type} (U V Z:List α) (x y:α) {i j:Nat} (hi:i=U.length) (hj:j=U.length+1+V.length):
  (U++x::(V++y::Z))[i]? =Af x∧(U++x::(V++y::Z))[j]? =Af y∧((U++x::(V++y::Z)).set i y).set j x=U++y::(V++x::Z):=by
 subst hi hj;refine⟨?_,?_,?_⟩
 ·rw[List.getElem?_append_right (Am _),Nat.sub_self];rfl
 ·rw[List.getElem?_append_right Ci,show U.length+1+V.length-U.length=V.length+1 by omega,List.getElem?_cons_succ,List.getElem?_append_right (Am _),Nat.sub_self];rfl
 ·rw[List.set_append_right _ _ (Am _),Nat.sub_self,Cf,List.set_append_right _ _ Ci,show U.length+1+V.length-U.length=V.length+1 by omega,Cg,List.set_append_right _ _ (Am _),Nat.sub_self,Cf]
def Gu (base g n cap:Nat) (D:List Sr) (w:Aj) (e:Ending) (w':Aj):Prop:=
 e= .returned (.tuple #[])∧w'.ownsRow base 89 4 (Ad (Af ⟨g,0,Ae⟩) n cap) n (recs D)∧w.grownBy w' (Af g)
theorem Gw {w:Aj} {base g n cap:Nat} {L:List Sr} (hown:w.ownsRow base 89 4 (Ad (Af ⟨g,0,Ae⟩) n cap) n (recs L)) (hn:n=L.length) {i:Nat} {r:Sr} (hi:L[i]? =Af r):
  (w.cell? ⟨g,i*4,Ae⟩=Af (Aa Ab r.x)∧w.cell? ⟨g,i*4+1,Ae⟩=Af (Aa Ab r.y)∧w.cell? ⟨g,i*4+2,Ae⟩=Af (Aa Ac (r.q:Int))∧w.cell? ⟨g,i*4+3,Ae⟩=Af (Ad r.A r.n r.c))∧
  (w.frozen? ⟨g,i*4,Ae⟩=false∧w.frozen? ⟨g,i*4+1,Ae⟩=false∧w.frozen? ⟨g,i*4+2,Ae⟩=false∧w.frozen? ⟨g,i*4+3,Ae⟩=false):=by
 subst hn;obtain⟨hil,rfl⟩:=Ax.1 hi;obtain⟨b,o,e,_,c0,c1,c2,c3⟩:=Ax0 (Rd.of_own hown) i hil;obtain⟨rfl,rfl⟩:g=b∧0=o:=by simpa using e
 simp only[Bt]at c0 c1 c2 c3;exact⟨⟨c0,c1,c2,c3⟩,Nm hown _,Nm hown _,Nm hown _,Nm hown _⟩
def Li (P X M Y S:List Sr) (i:Nat):List Sr:=P++(Y.take i++X.drop i)++M++(X.take i++Y.drop i)++S
theorem vL (P X M Y S:List Sr) (i:Nat) (h:X.length=Y.length):(Li P X M Y S i).length=P.length+X.length+M.length+Y.length+S.length:=by
 unfold Li;simp;omega
theorem oU (P X M Y S:List Sr):Li P X M Y S 0=P++X++M++Y++S:=by simp[Li]
theorem vK (P X M Y S:List Sr) (h:X.length=Y.length):Li P X M Y S X.length=P++Y++M++X++S:=by
 unfold Li;rw[Bg Ci,List.drop_of_length_le (Am _),Bg (Am _),List.drop_of_length_le Ci];simp
theorem oT (P X M Y S:List Sr) (i:Nat) (h:X.length=Y.length) (hi:i<X.length) {p q:Nat} (hp:p=P.length+i) (hq:q=P.length+X.length+M.length+i):
  ∃x y,(Li P X M Y S i)[p]? =Af x∧(Li P X M Y S i)[q]? =Af y∧((Li P X M Y S i).set p y).set q x=Li P X M Y S (i+1):=by
 have e1:Li P X M Y S i=(P++Y.take i)++X[i]::((X.drop (i+1)++M++X.take i)++Y[i]::(Y.drop (i+1)++S)):=by
  unfold Li;rw[List.drop_eq_getElem_cons hi,List.drop_eq_getElem_cons (show i<Y.length by omega)];simp only[Bj,List.cons_append]
 have e2:Li P X M Y S (i+1)=(P++Y.take i)++Y[i]::((X.drop (i+1)++M++X.take i)++X[i]::(Y.drop (i+1)++S)):=by
  unfold Li;rw[Bc hi,Bc (show i<Y.length by omega)];simp only[Bj,List.cons_append,List.nil_append]
 refine⟨X[i],Y[i],?_⟩;rw[e1,e2];refine Tq _ _ _ _ _ ?_ ?_
 ·simp;omega
 ·simp;omega
theorem Mw (base g n cap cc:Nat) (P X M Y S:List Sr) (a b k:Nat) (f:Ak) (w:Aj) (hxy:X.length=Y.length) (ha:a=P.length) (hb:b=P.length+X.length+M.length) (hk:k=X.length) (hn:n=P.length+X.length+M.length+Y.length+S.length) (hl:n≤1000000000)
  (hown:w.ownsRow base 89 4 (Ad (Af ⟨g,0,Ae⟩) n cap) n (recs (P++X++M++Y++S))):
  Al Tryz.prog 268 #[Ad (Af ⟨g,0,Ae⟩) n cc,Aa Ab a,Aa Ab b,Aa Ab k,f] w (Gu base g n cap (P++Y++M++X++S) w):=by
 have HXY:=Ah hxy;have HA:=Ah ha;have HB:=Ah hb;have HK:=Ah hk;have HN:=Ah hn;have HO:=Ah hown;have hak:a+k≤n:=Ci;have hbk:b+k≤n:=Ci;clear hxy ha hb hk hn hown;go_enter Tryz.func268,Tryz.ntmps268;go_wp2
 go_loopw [10] (λs wr=>∃i:Nat,i≤k∧s= Aa Ab i∧wr.ownsRow base 89 4 (Ad (Af ⟨g,0,Ae⟩) n cap) n (recs (Li P X M Y S i))∧w.grownBy wr (Af g)) (λs _=>k-(intOf s).toNat)
 case atStart=>exact⟨0,Ci,rfl,by rw[oU];exact HO.out,Es _ _⟩
 case round=>
  obtain⟨i,hik,rfl,hown,hgr⟩:=hrel;by_cases hlt:i<k
  ·obtain⟨p,hp⟩:=ez (a+i);obtain⟨q,hq⟩:=ez (b+i);obtain⟨x,y,hx,hy,hst⟩:=oT P X M Y S i HXY.out (by have:=HK.out;omega) (p:=p) (q:=q) (by have:=HA.out;omega) (by have:=HB.out;omega);have hlenD:=vL P X M Y S i HXY.out;have hnD:n=(Li P X M Y S i).length:=by rw[hlenD];exact HN.out
   obtain⟨⟨c0,c1,c2,c3⟩,z0,z1,z2,z3⟩:=Gw hown hnD hx;obtain⟨⟨d0,d1,d2,d3⟩,y0,y1,y2,y3⟩:=Gw hown hnD hy;have hpl:p<n:=Ci;have hql:q<n:=Ci;have hsw:=Qn (a:=x) (b:=y) (i:=p) (j:=q) hown (by rw[←hnD];exact hpl) (by rw[←hnD];exact hql);rw[hst]at hsw;have HSW:=Ah hsw;have e1:Ab.wrap ((a:Int)+(i:Int))=(p:Int):=by rw[Ca _ Ci];omega
   have e2:Ab.wrap ((b:Int)+(i:Int))=(q:Int):=by rw[Ca _ Ci];omega
   have e3:(p:Int)<(n:Int):=Ci;have e4:(q:Int)<(n:Int):=Ci;have e5:(0:Int)≤(p:Int):=Ci;have e6:(0:Int)≤(q:Int):=Ci;have hil:(i:Int)<(k:Int):=Ci;have hpq:¬p=q:=by have:=HA.out;have:=HB.out;have:=HK.out;omega
   have hqp:¬q=p:=λh=>hpq h.symm;clear hp hq hx hy hst hlenD hnD hsw hown;go_wp2
   go_region
   obtain⟨h1,h2⟩:=HSW.out;clear HSW c0 c1 c2 c3 d0 d1 d2 d3 z0 z1 z2 z3 y0 y1 y2 y3 e1 e2 e3 e4 e5 e6;obtain⟨W3,hW3⟩:=ez ((((((((((wr.setCell ⟨g,p*4,Ae⟩ (Aa Ab y.x)).setCell ⟨g,p*4+1,Ae⟩ (Aa Ab y.y)).setCell ⟨g,p*4+2,Ae⟩ (Aa Ac (y.q:Int))).setCell ⟨g,p*4+3,Ae⟩ (Ad y.A y.n y.c)).setCell ⟨g,q*4,Ae⟩ (Aa Ab x.x)).setCell ⟨g,q*4+1,Ae⟩ (Aa Ab x.y)).setCell ⟨g,q*4+2,Ae⟩ (Aa Ac (x.q:Int))).setCell ⟨g,q*4+3,Ae⟩ (Ad x.A x.n x.c)).drew));rw[←hW3]at h1 h2⊢;have H1:=Ah h1;have H2:=Ah (Ga hgr h2);clear hW3 h1 h2 hgr;go_wp2
   go_roundw
   case rel=>exact⟨i+1,Ci,by go_num,H1.out,H2.out⟩
   case measure=>simp[intOf];omega
  ·obtain rfl:i=k:=Ci;have hown':=hown;rw[HK.out,vK _ _ _ _ _ HXY.out]at hown';have HO':=Ah hown';clear hown hown';go_wp2_with fail
   go_end0
   exact⟨rfl,HO'.out,hgr⟩
def Ap7 (base g n cap m:Nat) (D:List Sr) (w0:Aj) (i j:Nat) (w:Aj):Prop:=
 ∃P X Y S:List Sr,P.length+i=m∧X.length=i∧Y.length=j∧0<i∧0<j∧P++Y++X++S=D∧n=P.length+X.length+Y.length+S.length∧w.ownsRow base 89 4 (Ad (Af ⟨g,0,Ae⟩) n cap) n (recs (P++X++Y++S))∧w0.grownBy w (Af g)
theorem nU (base g n cap cc:Nat) (P X Y S:List Sr) (a m b:Nat) (f:Ak) (w:Aj) (ha:a=P.length) (hm:m=P.length+X.length) (hb:b=P.length+X.length+Y.length) (hn:n=P.length+X.length+Y.length+S.length) (hX:0<X.length) (hY:0<Y.length) (hl:n≤1000000000)
  (hown:w.ownsRow base 89 4 (Ad (Af ⟨g,0,Ae⟩) n cap) n (recs (P++X++Y++S))):
  Al Tryz.prog 233 #[Ad (Af ⟨g,0,Ae⟩) n cc,Aa Ab a,Aa Ab m,Aa Ab b,f] w (Gu base g n cap (P++Y++X++S) w):=by
 have hstart:Ap7 base g n cap m (P++Y++X++S) w (m-a) (b-m) w:=⟨P,X,Y,S,Ci,Ci,Ci,Ci,Ci,rfl,hn,hown,Es _ _⟩;obtain⟨D,hD⟩:=ez (P++Y++X++S);rw[←hD]at hstart⊢;have HS:=Ah hstart;have h1:a≤m:=Ci;have h2:m≤b:=Ci;have h3:b≤n:=Ci;clear hown hstart hD ha hm hb hn hX hY P X Y S;go_enter Tryz.func233,Tryz.ntmps233;go_wp2
 go_loopw [10,11] (λs t wr=>∃i j:Nat,s= Aa Ab i∧t= Aa Ab j∧Ap7 base g n cap m D w i j wr) (λs t _=>(intOf s).toNat+(intOf t).toNat)
 case atStart=>exact⟨m-a,b-m,by go_num,by go_num,HS.out⟩
 case round=>
  obtain⟨i,j,rfl,rfl,P,X,Y,S,hPi,hXi,hYj,hi,hj,hDD,hnn,hown,hgr⟩:=hrel;have HO:=Ah hown;have HDD:=Ah hDD;have HN:=Ah hnn;have HXi:=Ah hXi;have HYj:=Ah hYj;have HPi:=Ah hPi;have q1:i≤m:=Ci;have q2:m+j≤n:=Ci;clear hown hDD hnn hXi hYj hPi HS;by_cases hij:i=j
  ·obtain rfl:=hij;have hs:=Mw base g n cap cc P X [] Y S (m-i) m i f wr (by rw[HXi.out,HYj.out]) (by have:=HPi.out;omega) (by have:=HPi.out;have:=HXi.out;simp;omega) HXi.out.symm (by have:=HN.out;simp;omega) hl (by simpa using HO.out);rw[show((m-i:Nat):Int)=(m:Int)-(i:Int)by omega]at hs;simp only[List.append_nil]at hs;rw[HDD.out]at hs;have HSW:=Ah hs;have e0:((i:Int) != (i:Int))=false:=Cn;clear hs;go_wp2_with fail;refine HSW.out.mono ?_;rintro e w2 ⟨rfl,hown2,hg2⟩;have H2:=Ah hown2;clear hown2;go_wp2_with fail
   go_end0
   exact⟨rfl,H2.out,Ga hgr hg2⟩
  ·have e0:((i:Int) != (j:Int))=true:=by simp;omega
   by_cases hgt:j<i
   ·have hX:X.take j++X.drop j=X:=List.take_append_drop _ _;have hl1:(X.take j).length=j:=by rw[Bm,HXi.out];omega
    have hl2:(X.drop j).length=i-j:=by rw[List.length_drop,HXi.out]
    have hs:=Mw base g n cap cc P (X.take j) (X.drop j) Y S (m-i) m j f wr (by rw[hl1,HYj.out]) (by have:=HPi.out;omega) (by have:=HPi.out;omega) hl1.symm (by have:=HN.out;have:=HXi.out;omega) hl (by rw[Bj P,hX];exact HO.out);rw[show((m-i:Nat):Int)=(m:Int)-(i:Int)by omega]at hs;have HSW:=Ah hs;have HX:=Ah hX;have HL1:=Ah hl1;have HL2:=Ah hl2;have hgt':(j:Int)<(i:Int):=Ci;clear hs hX hl1 hl2;go_wp2_with fail;refine HSW.out.mono ?_;rintro e w2 ⟨rfl,hown2,hg2⟩;have H2:=Ah hown2;have HG2:=Ah (Ga hgr hg2);clear hown2 hgr hg2;go_wp2
    go_roundw
    case rel=>
     refine⟨i-j,j,by go_num,rfl,P++Y,X.drop j,X.take j,S,?_,HL2.out,HL1.out,Ci,hj,?_,?_,H2.out,HG2.out⟩
     ·have:=HPi.out;have:=HYj.out;simp;omega
     ·rw[Bj (P++Y),HX.out];exact HDD.out
     ·have:=HN.out;have:=HXi.out;have:=HL1.out;have:=HL2.out;simp only[Bh];omega
    case measure=>simp[intOf];omega
   ·have hY:Y.take (j-i)++Y.drop (j-i)=Y:=List.take_append_drop _ _;have hl1:(Y.take (j-i)).length=j-i:=by rw[Bm,HYj.out];omega
    have hl2:(Y.drop (j-i)).length=i:=by rw[List.length_drop,HYj.out];omega
    have hs:=Mw base g n cap cc P X (Y.take (j-i)) (Y.drop (j-i)) S (m-i) (m+j-i) i f wr (by rw[hl2,HXi.out]) (by have:=HPi.out;omega) (by have:=HPi.out;have:=HXi.out;omega) HXi.out.symm (by have:=HN.out;have:=HYj.out;omega) hl (by rw[Bj (P++X),hY];exact HO.out);rw[show((m-i:Nat):Int)=(m:Int)-(i:Int)by omega,show((m+j-i:Nat):Int)=(m:Int)+(j:Int)-(i:Int)by omega]at hs;have HSW:=Ah hs;have HY:=Ah hY;have HL1:=Ah hl1;have HL2:=Ah hl2;have hgt':¬(j:Int)<(i:Int):=Ci;clear hs hY hl1 hl2;go_wp2_with fail;refine HSW.out.mono ?_;rintro e w2 ⟨rfl,hown2,hg2⟩;have H2:=Ah hown2;have HG2:=Ah (Ga hgr hg2);clear hown2 hgr hg2;go_wp2
    go_roundw
    case rel=>
     refine⟨i,j-i,rfl,by go_num,P,Y.drop (j-i),Y.take (j-i),X++S,HPi.out,HL2.out,HL1.out,hi,Ci,?_,?_,?_,HG2.out⟩
     ·rw[←Bj,Bj P,HY.out];exact HDD.out
     ·have:=HN.out;have:=HYj.out;have:=HL1.out;have:=HL2.out;simp only[Bh];omega
     ·rw[←Bj];exact H2.out
    case measure=>simp[intOf];omega
end Go.Proofs.YthpcfeifmdbhnaaGreatDoor.Rs
