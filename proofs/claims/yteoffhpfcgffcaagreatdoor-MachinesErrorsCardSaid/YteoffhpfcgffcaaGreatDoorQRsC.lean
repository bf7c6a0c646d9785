import Derived.Test.YteoffhpfcgffcaaGreatDoorQCel2
import Derived.Shelf.SlGeneric
import Derived.Test.YteoffhpfcgffcaaGreatDoorQSog
import Derived.Test.YteoffhpfcgffcaaGreatDoorQStk
import Derived.Shelf.Sort.Plain
import Derived.Shelf.Slices.In.SortNone
import Derived.Sort.OwnSortedInts
import Derived.Shelf.Slices.Reverse
import Derived.RangeFuncNested
import Derived.RangeFuncBound
import Derived.RangeFuncCalls
import Derived.RangeFuncLeaves
import Derived.RangeFuncBox
import Derived.Shelf.Abstract
import Derived.WalkKit
import Derived.OwnWalkIn
import Derived.TacticsInMore
import Derived.LoopNIn
import Derived.LoopIn
import Derived.Maps.AppendAt
import Derived.Test.YteoffhpfcgffcaaGreatDoorQCrd
import Derived.BigRegion
open Array renaming getElem?_eq_some_iff→Aq
open Go renaming Calls→Ai,Value→Ah,World→Ag,bodyPost_ret→Af,cell_of_row→Bs,heap_alloc_new→Bt
open Go.IntKind renaming i64→Ab,u8→Ac
open Go.IntWalk renaming i64_in→Bu
open Go.Lib renaming hid→Ae
open Go.Value renaming int→Aa,slice→Ad
open List renaming append_assoc→Bg,flatMap_append→Bf,flatMap_cons→Ba,getElem?_eq_getElem→Ar,getElem?_eq_some_iff→As,getElem_mem→Au,length_append→Be,length_map→Bk,length_take→Bj,mem_append→Bi,mem_cons→Bh,mem_iff_getElem→Ay,nodup_append→Bl,replicate→Aw,set_cons_succ→Cc,set_cons_zero→Cb,take_of_length_le→Bc,take_succ_eq_append_getElem→Ax
open Nat renaming le_refl→Aj,le_trans→Bo,lt_of_lt_of_le→Bm,zero_add→Bp
set_option maxHeartbeats 8000000
set_option maxRecDepth 100000
namespace Go.Proofs
theorem lyf {α:Type} {a:Option α} {b c:α} (h:a=some b) (e:b=c:=by kernel_rfl):a=some c:=h.trans (congrArg some e)
theorem lyb {P:Program} {f:FuncId} {B C:Func} (h:P.funcs[f]? =some C) (e:C={B with name:=C.name}:=by kernel_rfl) (n:(C.name== "runtime.NumGoroutine")=false:=by decide):Bears P f B:=⟨C.name,n,h.trans (congrArg some e)⟩
end Go.Proofs
namespace Go.Proofs
open Go.Shelf Go.RowKit
def Tryz.laysSortStk_ren:Go.Shelf.Ren:=⟨fun|6=>79|15=>138|14=>149|28=>207|29=>208|20=>215|21=>216|22=>217|23=>218|24=>219|25=>220|26=>221|27=>222|46=>267|47=>262|48=>263|49=>268|50=>269|57=>337|n=>n,fun|22=>41|24=>125|25=>180|3=>3|39=>261|0=>0|53=>336|55=>338|4=>4|46=>330|45=>329|50=>176|5=>5|9=>9|66=>395|70=>399|76=>442|77=>197|n=>n,fun|n=>n⟩
open Tryz in
theorem Tryz.laysSortStk:Go.Proofs.SlLaysF0.n6 Tryz.prog Tryz.laysSortStk_ren:={
 mixed:=by kernel_rfl,f6:=lyb func79,f14:=lyb func149,f15:=lyf func138,f20:=lyb func215,f21:=lyb func216,f22:=lyb func217,f23:=lyb func218,f24:=lyb func219,f25:=lyb func220,f26:=lyb func221,f27:=lyb func222,f28:=lyf func207,f29:=lyf func208,f46:=lyb func267,f47:=lyf func262,f48:=lyf func263,f49:=lyb func268,f50:=lyb func269,f57:=lyb func337,t0:=underlying0,a0:=isAgg0,z0:=sizeOf0,v0:=zeroValue0,t3:=underlying3,a3:=isAgg3,z3:=sizeOf3,v3:=zeroValue3,t4:=underlying4,a4:=isAgg4,z4:=sizeOf4,v4:=zeroValue4,t5:=underlying5,a5:=isAgg5,z5:=sizeOf5,v5:=zeroValue5,t9:=underlying9,a9:=isAgg9,z9:=sizeOf9,v9:=zeroValue9,t22:=underlying41,a22:=isAgg41,z22:=sizeOf41,v22:=zeroValue41,t25:=underlying180,a25:=isAgg180,z25:=sizeOf180,v25:=zeroValue180,t39:=underlying261,a39:=isAgg261,z39:=sizeOf261,v39:=zeroValue261,t45:=underlying329,a45:=isAgg329,z45:=sizeOf329,v45:=zeroValue329,t46:=underlying330,a46:=isAgg330,z46:=sizeOf330,v46:=zeroValue330,t50:=underlying176,a50:=isAgg176,z50:=sizeOf176,v50:=zeroValue176,t53:=underlying336,a53:=isAgg336,z53:=sizeOf336,v53:=zeroValue336,t55:=underlying338,a55:=isAgg338,z55:=sizeOf338,v55:=zeroValue338,t66:=underlying395,a66:=isAgg395,z66:=sizeOf395,v66:=zeroValue395,t70:=underlying399,a70:=isAgg399,z70:=sizeOf399,v70:=zeroValue399,t76:=underlying442,a76:=isAgg442,z76:=sizeOf442,v76:=zeroValue442,t77:=underlying197,a77:=isAgg197,z77:=sizeOf197,v77:=zeroValue197}
end Go.Proofs
namespace Go.Proofs.YteoffhpfcgffcaaGreatDoor
open Go.RowKit Go.Sort
abbrev SkE:={x:Stk×(Option Addr×Nat)//x.1.c.q≤255}
instance:Inhabited SkE:=⟨⟨(⟨cl0,[]⟩,(none,0)),by decide⟩⟩
def skV (x:SkE):List Ah:=Ds x.1
def bU (x y:SkE):Int:=Fg x.1.1.c y.1.1.c
theorem fL (x y:SkE) (w:Ag):Ai Tryz.prog 80 #[.agg (skV x).toArray,.agg (skV y).toArray] w (Li (Aa Ab (bU x y)) w):=by
 obtain⟨⟨⟨⟨x0,x1,x2⟩,xl⟩,xA,xc⟩,hx⟩:=x;obtain⟨⟨⟨⟨y0,y1,y2⟩,yl⟩,yA,yc⟩,hy⟩:=y;unfold skV bU Ds;dsimp only at hx hy⊢;have HC:=Ae (fun w'=>Kc ⟨x0,x1,x2⟩ ⟨y0,y1,y2⟩ w' hx hy);obtain⟨n,hn⟩:=ey xl.length;obtain⟨m,hm⟩:=ey yl.length;rw[hn,hm];obtain⟨r,hr⟩:=ey (Fg ⟨x0,x1,x2⟩ ⟨y0,y1,y2⟩);rw[hr]at HC⊢;dsimp only at HC;have hbd:Bd w ((w.alloc (.cells #[Aa Ab x0,Aa Ab x1,Aa Ac x2,Ad xA n xc] 125)).alloc (.cells #[Aa Ab y0,Aa Ab y1,Aa Ac y2,Ad yA m yc] 125)):=((Bd.refl w).alloc _).alloc _;have H:=((Bx.start w).new #[Aa Ab x0,Aa Ab x1,Aa Ac x2,Ad xA n xc] 125 rfl).new #[Aa Ab y0,Aa Ab y1,Aa Ac y2,Ad yA m yc] 125 (N:=w.heap.size+1) (by simp);clear hn hm hr;go_enter Tryz.func80,Tryz.ntmps80;go_upto_region 1 with fail;obtain⟨W,hW⟩:=ez ((w.alloc (.cells #[Aa Ab x0,Aa Ab x1,Aa Ac x2,Ad xA n xc] 125)).alloc (.cells #[Aa Ab y0,Aa Ab y1,Aa Ac y2,Ad yA m yc] 125));rw[←hW]at H hbd⊢;clear hW;obtain⟨N,hN⟩:=ez w.heap.size;rw[←hN]at H⊢;have HNN:=Ae hN;clear hN;obtain⟨P,hP⟩:=ey (N+1);rw[hP]at H⊢;clear hP;obtain⟨⟨a0,a1,a2,-⟩,-⟩:=Co (H.blk 0 _ _ _ rfl);obtain⟨⟨b0,b1,b2,-⟩,-⟩:=Co (H.blk 1 _ _ _ rfl);have HBD:=Ae hbd;clear hbd H;go_wp2_with fail;refine(HC.out _).mono ?_;rintro e w2 ⟨rfl,hb⟩;go_wp2_with fail;go_ret;exact⟨rfl,HBD.out.trans hb⟩
theorem Fu {a b:Int}:Cy a b<0↔a<b:=by
 unfold Cy
 split
 ·simp;assumption
 ·split
  ·simp;omega
  ·simp;omega
theorem Dt {a b:Int}:Cy a b=0↔a=b:=by
 unfold Cy
 split
 ·simp;omega
 ·split
  ·simp;omega
  ·simp;omega
theorem Dx {a b:Cl}:Fg a b<0↔a.y<b.y∨(a.y=b.y∧(a.x<b.x∨(a.x=b.x∧a.q<b.q))):=by
 unfold Fg
 split
 ·rename_i h;rw[Fu];have:=mt Dt.2 h;omega
 ·rename_i h;have h1:=Dt.1 (Classical.not_not.1 h)
  split
  ·rename_i h2;rw[Fu];have:=mt Dt.2 h2;omega
  ·rename_i h2;have h3:=Dt.1 (Classical.not_not.1 h2);rw[Fu];omega
theorem wW (x y:SkE):ltOf bU x y=decide (Fg x.1.1.c y.1.1.c<0):=rfl
theorem Aj9:SWO (ltOf bU) where
 irrefl x:=by rw[wW,decide_eq_false_iff_not,Dx];omega
 trans x y z h1 h2:=by rw[wW,decide_eq_true_iff,Dx]at*;omega
 ntrans x y z h1 h2:=by rw[wW,decide_eq_false_iff_not,Dx]at*;omega
theorem wO (w:Ag):(isAgg 125).run Tryz.prog w= .ok true w:=by kernel_rfl
theorem Ad4 (w:Ag):(Go.sizeOf 125).run Tryz.prog w= .ok 4 w:=by kernel_rfl
theorem bY {O m c:Nat} {B:Option Addr} (l:List SkE) (w:Ag) (h:w.ownsRow O 125 4 (Ad B m c) m (l.flatMap skV)) (hm:m≤1000000):
  Ai Tryz.prog 79 #[Ad B m c,.func (.func 80) #[] #[]] w (Fi skV bU l O 125 4 m (Ad B m c) w):=
 Iu Tryz.laysSortStk 4 (by decide) wO Ad4 skV (fun _=>rfl) (fun x v hv=>by
  simp[skV,Ds]at hv;rcases hv with rfl|rfl|rfl|rfl<;>rfl) bU Aj9 80 #[] (enters_of Tryz.func80 (by kernel_rfl) rfl) l w h hm (fun W' _ x y=>fL x y W')
end Go.Proofs.YteoffhpfcgffcaaGreatDoor
namespace Go.Proofs.YteoffhpfcgffcaaGreatDoor
open Go.RowKit
def atF (l:List Stk) (c:Cl):List Nat:=match l.find? fun x=>decide (x.c=c)with
 |some x=>x.ls
 |none=>[]
theorem zQ {l:List Stk} {c:Cl} {i:Nat} (hi:i<l.length) (h:l[i].c=c) (hb:∀j (hj:j<l.length),j<i→l[j].c≠c):atF l c=l[i].ls:=by
 unfold atF
 have:l.find? (fun x=>decide (x.c=c))=some l[i]:=by
  rw[List.find?_eq_some_iff_getElem];exact⟨by simp[h],i,hi,rfl,fun j hj=>by simp[hb j (by omega) hj]⟩
 rw[this]
theorem oR {l:List Stk} {c:Cl} (hb:∀j (hj:j<l.length),l[j].c≠c):atF l c=[]:=by
 unfold atF
 have:l.find? (fun x=>decide (x.c=c))=none:=by
  rw[List.find?_eq_none];intro x hx;obtain⟨j,hj,rfl⟩:=Ay.1 hx;simp[hb j hj]
 rw[this]
def zA (m:List Nat) (w:Ag) (en:Ending) (w':Ag):Prop:=
 ∃A,en= .returned (Ad A m.length m.length)∧AOk A m.length m.length∧Ec w' w.heap.size 3 1 A m.length (Cz m)∧Below w.heap.size w w'
theorem bZ (A:Option Addr) (l:List Stk) (n cc:Nat) (c:Cl) (w:Ag) (hn:n=l.length) (h:Cs w A l) (hl:n≤100000) (hls:∀x∈l,x.ls.length≤100000):
  Ai Tryz.prog 115 #[Ad A n cc,.agg #[Aa Ab c.x,Aa Ab c.y,Aa Ac c.q]] w (zA (atF l c) w):=by
 obtain⟨x,y,q⟩:=c;have HS:=Ae h;have HN:=Ae hn;have HLS:=Ae hls;have H:=(Bx.start w).new #[Aa Ab x,Aa Ab y,Aa Ac q] 123 rfl;clear hn h hls;go_enter Tryz.func115,Tryz.ntmps115;go_upto_region 1 with fail;obtain⟨W,hW⟩:=ez (w.alloc (.cells #[Aa Ab x,Aa Ab y,Aa Ac q] 123));rw[←hW]at H⊢;obtain⟨N,hN⟩:=ez w.heap.size;rw[←hN]at H⊢;have HNN:=Ae hN;clear hW hN;go_wp2_with fail
 go_loopw [9] (fun i wr=>∃k:Nat,k≤n∧i= Aa Ab k∧Bx w [(N,#[Aa Ab x,Aa Ab y,Aa Ac q],123)] wr∧Hid (∀j (hj:j<l.length),j<k→l[j].c≠⟨x,y,q⟩)) (fun i _=>n-(intOf i).toNat)
 case atStart=>exact⟨0,by omega,rfl,H,Ae fun j _ hj=>absurd hj (by omega)⟩
 case round=>
  obtain⟨k,hk,rfl,Hr,HK⟩:=hrel;obtain⟨⟨a0,a1,a2⟩,_⟩:=Ci (Hr.blk 0 _ _ _ rfl);have hlt0:=Hr.lt 0 rfl;by_cases hlt:k<n
  ·have hkl:k<l.length:=by have:=HN.out;omega
   obtain⟨bb,o,A',c',rfl,hbl,⟨d0,d1,d2,d3⟩,hA',hle,hcm,hrd⟩:=(HS.out.below Hr.below).get k hkl;have q1:(k:Int)<(n:Int):=by omega
   have hlk:=HLS.out l[k] (Au _);by_cases he:l[k].c=⟨x,y,q⟩
   ·have HF:=Ae (zQ hkl he fun j hj h=>HK.out j hj h);obtain⟨ids,hids⟩:=ey (l[k].ls);rw[hids]at d3 hA' hle hrd HF hlk;rw[he]at d0 d1 d2;dsimp only at d0 d1 d2;have HCL:=Ae fun(w':Ag) (hb:Below wr.heap.size wr w')=>Tq A' ids.length c' (Cz ids) w' hA' (hrd.below hb) (Qj ids) (by omega);clear he hids hrd hA';go_wp2_with fail;refine(HCL.out _ ((Below.refl _ _).alloc (Aj _) _)).mono ?_;rintro e w3 ⟨v,rfl,hown,hb3⟩;obtain⟨A2,c2,rfl,hA2,hnc,hcm2⟩:=Fx hown;have H3:=(Hr.other _).call hb3;go_wp2_with fail;refine(Xm A2 _ c2 _ hnc hcm2).mono ?_;rintro e w4 ⟨rfl,hb4⟩;have H4:=H3.call hb4;have hrow:=(Ec.of_own hown).below hb4;go_wp2_with fail;go_ret;exact⟨A2,by rw[HF.out];rfl,by rw[HF.out];exact hA2.clip,by rw[HF.out];exact hrow.base (by have:=Hr.below.size;simp;omega),H4.below⟩
   ·have HKN:=Ae (fun j (hj:j<l.length) (h:j<k+1)=>show l[j].c≠⟨x,y,q⟩by
     by_cases hjk:j=k
     ·subst hjk;exact he
     ·exact HK.out j hj (by omega))
    obtain⟨⟨⟨x',y',q'⟩,ids⟩,hr⟩:∃z,l[k]=z:=⟨_,rfl⟩;rw[hr]at d0 d1 d2 d3 he;dsimp only at d0 d1 d2 d3 he;have hne:¬(x'=x∧y'=y∧q'=q):=fun h=>he (by rw[h.1,h.2.1,h.2.2]);have hy:=fun o=>Hr.other o;clear he hr hrd hA';go_wp2_with fail
    all_goals first
     |exact⟨⟨k+1,by omega,by go_num,hy _,HKN⟩,by simp[intOf];omega⟩
     |exact absurd ⟨rfl,rfl,rfl⟩ hne
     |(exfalso;omega)
  ·have q1:¬(k:Int)<(n:Int):=by omega
   have HF:=Ae (oR (l:=l) (c:=⟨x,y,q⟩) fun j hj=>HK.out j hj (by have:=HN.out;omega));go_wp2_with fail;go_ret;exact⟨none,by rw[HF.out];rfl,by rw[HF.out];exact .inl ⟨rfl,rfl,rfl⟩,by rw[HF.out];exact⟨rfl,.inl ⟨rfl,rfl⟩⟩,Hr.below⟩
theorem Po (o:Option Nat):o.toList.Nodup:=by cases o<;>simp
abbrev SkR:=Stk×(Option Addr×Nat)
def Ey (x:SkR):List Nat:=(x.2.1.map (·.block)).toList
def Gx (O:Nat) (w:Ag) (x:SkR):Prop:=AOk x.2.1 x.1.ls.length x.2.2∧x.1.ls.length≤x.2.2∧x.2.2≤maxLen∧Ec w O 3 1 x.2.1 x.1.ls.length (Cz x.1.ls)
theorem Ec.same {w w':Ag} {base:Nat} {e:TypeId} {sz n:Nat} {A:Option Addr} {xs:List Ah} (h:Ec w base e sz A n xs) (hb:∀g,A.map (·.block)=some g→w'.heap[g]? =w.heap[g]?):Ec w' base e sz A n xs:=by
 refine⟨h.1,h.2.imp id ?_⟩;rintro⟨g,cur,rfl,r2,r3,r4⟩;exact⟨g,cur,rfl,r2,(hb g rfl).trans r3,r4⟩
theorem Ec.lt {w:Ag} {base:Nat} {e:TypeId} {sz n:Nat} {A:Option Addr} {xs:List Ah} (h:Ec w base e sz A n xs):∀g,A.map (·.block)=some g→base≤g∧g<w.heap.size∧∃cur,w.heap[g]? =some (.cells cur e (0,0)):=by
 intro g hg;rcases h.2 with⟨rfl,_⟩|⟨g',cur,rfl,r2,r3,r4⟩
 ·cases hg
 ·obtain rfl:g'=g:=by simpa using hg
  exact⟨r2,(Aq.1 r3).1,cur,r3⟩
def Cv (O:Nat) (w:Ag) (v:Ah) (l:List SkR):Prop:=
 w.ownsRow O 125 4 v l.length (l.flatMap Ds)∧(∀x∈l,Gx O w x)∧(l.flatMap Ey).Nodup
theorem Gx.same {O:Nat} {w w':Ag} {x:SkR} (h:Gx O w x) (hb:∀g∈Ey x,w'.heap[g]? =w.heap[g]?):Gx O w' x:=
 ⟨h.1,h.2.1,h.2.2.1,h.2.2.2.same fun g hg=>hb g (by unfold Ey;rw[hg];simp)⟩
theorem Gx.lt {O:Nat} {w:Ag} {x:SkR} (h:Gx O w x):∀g∈Ey x,O≤g∧g<w.heap.size∧∃cur,w.heap[g]? =some (.cells cur 3 (0,0)):=fun g hg=>h.2.2.2.lt g (by unfold Ey at hg;simpa using hg)
theorem Gx.base {O O':Nat} {w:Ag} {x:SkR} (h:Gx O w x) (hO:O'≤O):Gx O' w x:=⟨h.1,h.2.1,h.2.2.1,h.2.2.2.base hO⟩
theorem Nd {O:Nat} {w:Ag} {v:Ah} {x:SkR} {n O':Nat} {xs:List Ah} (h:w.ownsRow O 125 4 v n xs) (hx:Gx O' w x):∀g∈Ey x,v.ownBlock≠some g:=by
 intro g hg e;obtain⟨_,_,cur,hc⟩:=hx.lt g hg;rcases h.2 with⟨rfl,_⟩|⟨g',cap,cur',rfl,_,hg',_⟩
 ·cases e
 ·obtain rfl:g'=g:=by simpa[Value.ownBlock]using e
  rw[hc]at hg';injection hg' with hg';injection hg' with _ ht;exact absurd ht (by decide)
theorem Cv.below {O:Nat} {w w':Ag} {v:Ah} {l:List SkR} (h:Cv O w v l) (hb:Below w.heap.size w w'):Cv O w' v l:=
 ⟨Ck h.1 (Aj _) hb,fun x hx=>(h.2.1 x hx).same fun g hg=>hb.block g ((h.2.1 x hx).lt g hg).2.1,h.2.2⟩
theorem Cv.nil (O:Nat) (w:Ag):Cv O w (Ad none 0 0) []:=⟨⟨rfl,.inl ⟨rfl,rfl⟩⟩,by simp,by simp⟩
theorem Cv.stks {O:Nat} {w:Ag} {A:Option Addr} {n c:Nat} {l:List SkR} (h:Cv O w (Ad A n c) l):Cs w A (l.map (·.1)):=by
 have hz:(l.map (·.1)).zip (l.map (·.2))=l:=by
  rw[List.zip_map'];simp
 refine⟨l.map (·.2),by simp,?_,fun i hi hi'=>?_⟩
 ·rw[hz,Bk];obtain⟨A',c',hv,hc1,hc2⟩:=Dy h.1;obtain⟨rfl,rfl,rfl⟩:A=A'∧n=l.length∧c=c':=by simpa using hv
  exact Rd.of_own h.1
 ·have hil:i<l.length:=by simpa using hi
  have:=h.2.1 l[i] (Au hil);simp only[List.getElem_map];exact⟨this.1,this.2.1,this.2.2.1,this.2.2.2.rd⟩
theorem Cv.snoc {O:Nat} {w W w':Ag} {v v':Ah} {l:List SkR} {x:SkR} (h:Cv O w v l) (hb:Below w.heap.size w W) (hx:Gx w.heap.size W x) (ho:w'.ownsRow O 125 4 v' (l.length+1) (l.flatMap Ds++Ds x)) (hg:W.grownBy w' v.ownBlock)
  (hO:O≤w.heap.size):Cv O w' v' (l++[x]):=by
 refine⟨by simpa using ho,fun y hy=>?_,?_⟩
 ·rcases Bi.1 hy with hy|hy
  ·have hk:=h.2.1 y hy;refine hk.same fun g hgy=>?_;have hlt:=(hk.lt g hgy).2.1;exact(hg.block g (Bm hlt hb.size) (Ne.symm (Nd h.1 hk g hgy))).trans (hb.block g hlt)
  ·obtain rfl:=List.mem_singleton.1 hy;refine(hx.same fun g hgy=>hg.block g (hx.lt g hgy).2.1 fun e=>?_).base hO;have h1:=(h.1.lt g e.symm).2;have h2:=(hx.lt g hgy).1;omega
 ·rw[Bf,Bl];refine⟨h.2.2,by rw[Ba,List.flatMap_nil,List.append_nil];exact Po _,fun a ha b hb' e=>?_⟩;subst e;obtain⟨y,hy,hay⟩:=List.mem_flatMap.1 ha;have h1:=((h.2.1 y hy).lt a hay).2.1;have h2:=(hx.lt a (by simpa using hb')).1;omega
theorem Rr {α:Type} (l:List α) (i:Nat) (h:i<l.length) (x:α):l.set i x=l.take i++x::l.drop (i+1):=by
 rw[List.set_eq_take_append_cons_drop,if_pos h]
theorem Cv.set {O:Nat} {w W w':Ag} {v:Ah} {l:List SkR} {x:SkR} {i:Nat} (h:Cv O w v l) (hi:i<l.length) (hb:Below w.heap.size w W) (hx:Gx w.heap.size W x) (ho:w'.ownsRow O 125 4 v l.length ((l.set i x).flatMap Ds)) (hg:W.grownBy w' v.ownBlock)
  (hO:O≤w.heap.size):Cv O w' v (l.set i x):=by
 have hok:∀y∈l,Gx O w' y:=fun y hy=>by
  have hk:=h.2.1 y hy;refine hk.same fun g hgy=>?_;have hlt:=(hk.lt g hgy).2.1;exact(hg.block g (Bm hlt hb.size) (Ne.symm (Nd h.1 hk g hgy))).trans (hb.block g hlt)
 refine⟨by rw[List.length_set];exact ho,fun y hy=>?_,?_⟩
 ·rcases List.mem_or_eq_of_mem_set hy with hy|rfl
  ·exact hok y hy
  ·refine(hx.same fun g hgy=>hg.block g (hx.lt g hgy).2.1 fun e=>?_).base hO;have h1:=(h.1.lt g e.symm).2;have h2:=(hx.lt g hgy).1;omega
 ·have hn:=h.2.2;have e0:l=l.take i++l[i]::l.drop (i+1):=by rw[←List.drop_eq_getElem_cons hi,List.take_append_drop]
  have hold:∀g∈l.flatMap Ey,g<w.heap.size:=fun g hg=>by
   obtain⟨y,hy,hgy⟩:=List.mem_flatMap.1 hg;exact((h.2.1 y hy).lt g hgy).2.1
  rw[Rr l i hi];rw[e0]at hn hold;simp only[Bf,Ba,Bl,Bi]at hn hold⊢;obtain⟨a1,⟨a2,a3,a4⟩,a5⟩:=hn;have hxb:=fun g hg=>(hx.lt g hg).1;refine⟨a1,⟨Po _,a3,fun a ha b hb' e=>?_⟩,fun a ha b hb' e=>?_⟩
  ·subst e;have:=hxb a ha;have:=hold a (.inr (.inr hb'));omega
  ·subst e;rcases hb' with hb'|hb'
   ·have:=hxb a hb';have:=hold a (.inl ha);omega
   ·exact a5 a ha a (.inr hb') rfl
theorem Cv.perm {O:Nat} {w w':Ag} {v:Ah} {l l':List SkR} (h:Cv O w v l) (hp:l'.Perm l) (ho:w'.ownsRow O 125 4 v l'.length (l'.flatMap Ds)) (hg:w.grownBy w' v.ownBlock):Cv O w' v l':=by
 refine⟨ho,fun y hy=>?_,(hp.flatMap_right Ey).nodup_iff.2 h.2.2⟩;have hk:=h.2.1 y (hp.mem_iff.1 hy);exact hk.same fun g hgy=>hg.block g (hk.lt g hgy).2.1 (Ne.symm (Nd h.1 hk g hgy))
theorem tT (L:List SkR) (i:Nat) (hi:i<L.length) (b:SkR):
  ((((L.flatMap Ds).set (i*4) (Aa Ab b.1.c.x)).set (i*4+1) (Aa Ab b.1.c.y)).set (i*4+2) (Aa Ac b.1.c.q)).set (i*4+3) (Ad b.2.1 b.1.ls.length b.2.2)=(L.set i b).flatMap Ds:=by
 obtain⟨a,ha⟩:=ey (L[i]);have e0:=Fe Ds 4 Fj L i 0 hi (by omega) (⟨⟨b.1.c.x,a.1.c.y,a.1.c.q⟩,a.1.ls⟩,a.2) (Aa Ab b.1.c.x) (by rw[ha];rfl);have e1:=Fe Ds 4 Fj (L.set i (⟨⟨b.1.c.x,a.1.c.y,a.1.c.q⟩,a.1.ls⟩,a.2)) i 1 (by simpa using hi) (by omega) (⟨⟨b.1.c.x,b.1.c.y,a.1.c.q⟩,a.1.ls⟩,a.2) (Aa Ab b.1.c.y) (by rw[List.getElem_set_self];rfl);have e2:=Fe Ds 4 Fj (L.set i (⟨⟨b.1.c.x,b.1.c.y,a.1.c.q⟩,a.1.ls⟩,a.2)) i 2 (by simpa using hi) (by omega) (⟨⟨b.1.c.x,b.1.c.y,b.1.c.q⟩,a.1.ls⟩,a.2) (Aa Ac b.1.c.q) (by rw[List.getElem_set_self];rfl);have e3:=Fe Ds 4 Fj (L.set i (⟨⟨b.1.c.x,b.1.c.y,b.1.c.q⟩,a.1.ls⟩,a.2)) i 3 (by simpa using hi) (by omega) b (Ad b.2.1 b.1.ls.length b.2.2) (by rw[List.getElem_set_self];rfl);rw[List.set_set]at e1 e2 e3;rw[Nat.add_zero]at e0;rw[←e0,←e1,←e2,←e3]
end Go.Proofs.YteoffhpfcgffcaaGreatDoor
namespace Go.Proofs
open Go.Shelf Go.RowKit
def Tryz.laysSortE_ren:Go.Shelf.Ren:=⟨fun|189=>179|125=>138|257=>251|128=>207|129=>208|294=>316|295=>317|296=>318|297=>319|298=>320|299=>321|216=>322|300=>323|301=>324|328=>350|329=>262|330=>263|331=>351|332=>352|215=>168|343=>364|n=>n,fun|28=>61|3=>3|46=>261|0=>0|51=>336|53=>338|4=>4|183=>330|182=>329|131=>176|5=>5|9=>9|218=>395|222=>399|228=>442|229=>197|n=>n,fun|n=>n⟩
open Tryz in
theorem Tryz.laysSortE:Go.Proofs.Lays.n189 Tryz.prog Tryz.laysSortE_ren:={
 mixed:=by kernel_rfl,f125:=lyf func138,f128:=lyf func207,f129:=lyf func208,f189:=lyf func179,f215:=lyf func168,f216:=lyf func322,f257:=lyf func251,f294:=lyf func316,f295:=lyf func317,f296:=lyf func318,f297:=lyf func319,f298:=lyf func320,f299:=lyf func321,f300:=lyf func323,f301:=lyf func324,f328:=lyf func350,f329:=lyf func262,f330:=lyf func263,f331:=lyf func351,f332:=lyf func352,f343:=lyf func364,t0:=underlying0,a0:=isAgg0,z0:=sizeOf0,v0:=zeroValue0,t3:=underlying3,a3:=isAgg3,z3:=sizeOf3,v3:=zeroValue3,t4:=underlying4,a4:=isAgg4,z4:=sizeOf4,v4:=zeroValue4,t5:=underlying5,a5:=isAgg5,z5:=sizeOf5,v5:=zeroValue5,t9:=underlying9,a9:=isAgg9,z9:=sizeOf9,v9:=zeroValue9,t28:=underlying61,a28:=isAgg61,z28:=sizeOf61,v28:=zeroValue61,t46:=underlying261,a46:=isAgg261,z46:=sizeOf261,v46:=zeroValue261,t51:=underlying336,a51:=isAgg336,z51:=sizeOf336,v51:=zeroValue336,t53:=underlying338,a53:=isAgg338,z53:=sizeOf338,v53:=zeroValue338,t131:=underlying176,a131:=isAgg176,z131:=sizeOf176,v131:=zeroValue176,t182:=underlying329,a182:=isAgg329,z182:=sizeOf329,v182:=zeroValue329,t183:=underlying330,a183:=isAgg330,z183:=sizeOf330,v183:=zeroValue330,t218:=underlying395,a218:=isAgg395,z218:=sizeOf395,v218:=zeroValue395,t222:=underlying399,a222:=isAgg399,z222:=sizeOf399,v222:=zeroValue399,t228:=underlying442,a228:=isAgg442,z228:=sizeOf442,v228:=zeroValue442,t229:=underlying197,a229:=isAgg197,z229:=sizeOf197,v229:=zeroValue197}
end Go.Proofs
namespace Go.Proofs.YteoffhpfcgffcaaGreatDoor
open Go.RowKit
theorem mW {O m c:Nat} {B:Option Addr} (l:List Nat) (w:Ag) (h:w.ownsRow O 3 1 (Ad B m c) m (Cz l)) (hm:m≤1000000):
  Ai Tryz.prog 179 #[Ad B m c] w fun e w'=>e= .returned (.tuple #[])∧∃r:List Nat,r.Perm l∧w'.ownsRow O 3 1 (Ad B m c) m (Cz r)∧w.grownBy w' (Value.slice B m c).ownBlock:=by
 have hl:l.length=m:=by have:=h.1;simpa[Cz]using this
 rcases h.2 with⟨h0,rfl⟩|⟨g,cap,cur,r1,r2,r3,r4,r5,r6,r7⟩
 ·obtain rfl:l=[]:=List.eq_nil_of_length_eq_zero hl;refine(Any.slices_Sort_int_none Tryz.laysSortE B c w).mono ?_;rintro e w' ⟨rfl,rfl⟩;exact⟨rfl,[],.refl _,h,Dn _ _⟩
 ·obtain⟨rfl,rfl⟩:B=some ⟨g,0,none⟩∧c=cap:=by simpa using r1
  subst hl;obtain⟨xs,hxs⟩:∃xs:List Int,l.map Int.ofNat=xs:=⟨_,rfl⟩;have hxl:xs.length=l.length:=by rw[←hxs];simp
  have hid:Cz l=xs.map (Value.int .i64):=by rw[←hxs];unfold Cz;rw[List.map_map];rfl
  have hH:=holds_of_blockI (ss:=xs) r3 (by rw[hxl];rw[Nat.mul_one]at r7;exact r7.trans hid);obtain⟨ts,hts⟩:=ey (xs.mergeSort (fun x y=>decide (x≤y)));have htl:ts.length=xs.length:=by rw[←hts,List.length_mergeSort]
  have htp:ts.Perm xs:=by rw[←hts];exact List.mergeSort_perm _ _
  have hpr:(ts.map Int.toNat).Perm l:=by
   have:=htp.map Int.toNat;rw[←hxs,List.map_map]at this
   have e:l.map (Int.toNat∘Int.ofNat)=l:=by
    conv=>rhs;rw[←List.map_id l]
    exact List.map_congr_left fun x _=>rfl
   rw[e]at this;exact this
  have hback:Cz (ts.map Int.toNat)=ts.map (Value.int .i64):=by
   unfold Cz;rw[List.map_map];refine List.map_congr_left fun x hx=>?_;have:x∈xs:=htp.mem_iff.1 hx;rw[←hxs]at this;obtain⟨y,-,rfl⟩:=List.mem_map.1 this;rfl
  have hb:=Any.slices_Sort_int Tryz.laysSortE g 0 c xs w hH (Aq.1 r3).1 (by omega);rw[hts,hxl]at hb;refine hb.mono ?_;rintro e w' ⟨rfl,n,os,rfl⟩;refine⟨rfl,ts.map Int.toNat,hpr,?_,grownBy_sortedI _⟩;rw[hback];have:=ownsRow_sortedI (n:=n) (os:=os) (ts:=ts) (ss:=xs) htl r2 r3 (by rw[hxl];exact r4) r5 r6;rw[hxl]at this;exact this
end Go.Proofs.YteoffhpfcgffcaaGreatDoor
namespace Go.Proofs
open Go.Shelf Go.RowKit
def Tryz.laysRev_ren:Go.Shelf.Ren:=⟨fun|112=>95|n=>n,fun|28=>61|3=>3|4=>4|0=>0|n=>n,fun|n=>n⟩
open Tryz in
theorem Tryz.laysRev:Go.Proofs.Lays.n112 Tryz.prog Tryz.laysRev_ren:={
 mixed:=by kernel_rfl,f112:=lyf func95,t0:=underlying0,a0:=isAgg0,z0:=sizeOf0,v0:=zeroValue0,t3:=underlying3,a3:=isAgg3,z3:=sizeOf3,v3:=zeroValue3,t4:=underlying4,a4:=isAgg4,z4:=sizeOf4,v4:=zeroValue4,t28:=underlying61,a28:=isAgg61,z28:=sizeOf61,v28:=zeroValue61}
end Go.Proofs
namespace Go.Proofs.YteoffhpfcgffcaaGreatDoor
open Go.RowKit Go.Sort
theorem sU {O n c:Nat} {A:Option Addr} (l:List Nat) (w:Ag) (h:Ec w O 3 1 A n (Cz l)) (hm:n≤1000000):
  Ai Tryz.prog 95 #[Ad A n c] w fun e w'=>e= .returned (.tuple #[])∧Ec w' O 3 1 A n (Cz l.reverse)∧w.grownBy w' (A.map (·.block)):=by
 have hl:l.length=n:=by have:=h.1;simpa[Cz]using this
 rcases h.2 with⟨rfl,rfl⟩|⟨g,cur,rfl,r2,r3,r4,r5⟩
 ·obtain rfl:l=[]:=List.eq_nil_of_length_eq_zero hl;refine(Any.slices_Reverse_int_empty Tryz.laysRev none c w).mono ?_;rintro e w' ⟨rfl,rfl⟩;exact⟨rfl,h,Dn _ _⟩
 ·subst hl;obtain⟨xs,hxs⟩:∃xs:List Int,l.map Int.ofNat=xs:=⟨_,rfl⟩;have hxl:xs.length=l.length:=by rw[←hxs];simp
  have hid:Cz l=xs.map (Value.int .i64):=by rw[←hxs];unfold Cz;rw[List.map_map];rfl
  have hrev:Cz l.reverse=xs.reverse.map (Value.int .i64):=by rw[List.map_reverse,←hid];unfold Cz;rw[List.map_reverse]
  rw[Nat.mul_one]at r4 r5;have hH:=holds_of_blockI (ss:=xs) r3 (by rw[hxl];exact r5.trans hid);have hb:=Any.slices_Reverse_int Tryz.laysRev g 0 c xs w hH (by omega);rw[hxl]at hb;refine hb.mono ?_;rintro e w' ⟨rfl,k,rfl⟩;have hg:=grownBy_sortedI (w:=w) (g:=g) (n:=k) (os:=#[]) xs.reverse.toArray;have hh:=heap_sortedI (w:=w) (g:=g) (n:=k) (os:=#[]) xs.reverse.toArray r3;rw[Go.Sort.grow_empty]at hg hh;refine⟨rfl,⟨by simp[Cz],.inr ⟨g,_,rfl,r2,hh,?_,?_⟩⟩,hg⟩
  ·rw[Nat.mul_one];have:(putCells (Value.int .i64) 0 xs.reverse.toArray cur).size=cur.size:=by simp[putCells]
   omega
  ·have ht:=take_putCellsI cur xs.reverse (by simp;omega);rw[hrev,Nat.mul_one,←hxl,show xs.length=xs.reverse.length by simp];exact ht
end Go.Proofs.YteoffhpfcgffcaaGreatDoor
namespace Go.Proofs.YteoffhpfcgffcaaGreatDoor
open Go.RowKit Go.Shelf
attribute [local go_sem] Oper.semAt_some
def isU (a b:Int) (i e:Nat):Bool:=decide ((nbI a b i e).2=0)&&decide ((i:Int)<(nbI a b i e).1)
def Nk (a b:Int) (j:Nat):List (Nat×Nat):=if isU a b (j/3) (j%3)then[(j/3,j%3)]else[]
def Ez (a b:Int):Nat→List (Nat×Nat)
 |0=>[]
 |j+1=>Ez a b j++Nk a b j
def Eb (a b:Int):List (Nat×Nat):=Ez a b (3*Cq a b)
def cS (u:Nat×Nat):List Ah:=[Aa Ab u.1,Aa Ac u.2]
def Fp (l:List (Nat×Nat)):List Ah:=l.flatMap cS
theorem gV (a b:Int) (i e:Nat) (he:e<3):Ez a b (3*i+(e+1))=Ez a b (3*i+e)++if isU a b i e then[(i,e)]else[]:=by
 show Ez a b (3*i+e)++Nk a b (3*i+e)=_;unfold Nk;rw[show(3*i+e)/3=i by omega,show(3*i+e)%3=e by omega]
theorem Hq (a b:Int):∀j,(Ez a b j).length≤j
 |0=>Aj _
 |j+1=>by
  have:=Hq a b j;unfold Ez Nk
  split<;>simp<;>omega
theorem Re (a b:Int) (j:Nat):∀d,(Ez a b j).length≤(Ez a b (j+d)).length
 |0=>Aj _
 |d+1=>by
  refine Bo (Re a b j d) ?_;show _≤(Ez a b (j+d)++Nk a b (j+d)).length;simp
def Kz (n₀ Bn:Nat) (A B:Ag):Prop:=Below n₀ A B∧B.heap[Bn]? =A.heap[Bn]?
theorem qR {n₀ Bn:Nat} {A B C:Ag} (h:Kz n₀ Bn A B) (k:Kz n₀ Bn B C):Kz n₀ Bn A C:=⟨h.1.trans k.1,k.2.trans h.2⟩
theorem qQ {n₀ Bn:Nat} {w:Ag} (hn:n₀≤w.heap.size) (hB:Bn<w.heap.size) (W:Ag) (l:Nat) (o o':Obj) (hl:w.heap.size≤l) (h:W.heap[l]? =some o) (hc:o.isCells=false) (hw:o.isWalk=false):Kz n₀ Bn W (W.putObj l o'):=
 ⟨belowK_b hn W l o o' hl h hc hw,World.putObj_heap_other (by omega)⟩
theorem Wi {W W':Ag} {row:Option Nat} {g:Nat} {cs:Array Ah} {t:TypeId} (h:W.heap[g]? =some (Obj.cells cs t (0,0))) (hg:W.grownBy W' row) (hr:∀r,row=some r→∃o:Obj,W.heap[r]? =some o∧o.isCells=false):W'.heap[g]? =some (Obj.cells cs t (0,0)):=by
 refine(hg.block g (Aq.1 h).1 fun e=>?_).trans h;obtain⟨o,ho,hc⟩:=hr g e.symm;rw[h]at ho;cases ho;cases hc
theorem dI (W:Ag) (cs:Array Ah) (t:TypeId) (j:Nat) (u:Ah) (h:cs.toList[j]? =some u):(W.alloc (.cells cs t)).cell? ((⟨W.heap.size,0,none⟩:Addr).add j)=some u:=by
 have e:(⟨W.heap.size,0,none⟩:Addr).add j=⟨W.heap.size,j,none⟩:=by unfold Addr.add;split<;>simp_all
 rw[e,Bs _ _ j _ _ (0,0) (Bt W _)];simpa using h
theorem Ol {W:Ag} {g:Nat} {cs:Array Ah} {t e:TypeId} (h:W.heap[g]? =some (Obj.cells cs t (0,0))) (hte:t≠e) {base size k:Nat} {v:Ah} {xs:List Ah} (hr:W.ownsRow base e size v k xs):some g≠v.ownBlock:=by
 rcases hr.2 with⟨rfl,_⟩|⟨g',cap,cur,rfl,_,hgb,_⟩
 ·simp[Value.ownBlock]
 ·intro e';obtain rfl:g=g':=by simpa[Value.ownBlock]using e'
  have:=h.symm.trans hgb;simp at this;exact hte this.2
theorem uW (l Bn n₀:Nat) (a b:Int) (hs:okS a b=true) (J Jx:List (Nat×Nat)→Ag→Prop) (n:Nat) (hn:3≤n)
  (hY:∀pre x W,J pre W→pre.length<(Eb a b).length→YieldAt Fence.wide (n-1) Tryz.prog l #[.agg #[Aa Ab (x.1:Nat),Aa Ac (x.2:Nat)]] W fun e W'=>
   (e= .returned (.bool true)∧J (pre++[x]) W'∧Kz n₀ Bn W W')∨(e= .returned (.bool false)∧Jx (pre++[x]) W'))
  (W:Ag) (hQ:∀W',Below n₀ W W'→Qt W') (hBn:W.heap[Bn]? =some (Obj.cells #[Aa Ab a,Aa Ab b] 35 (0,0))) (hn₀:n₀≤W.heap.size) (hJ:∀s A B,J s A→Below A.heap.size A B→J s B) (h0:J [] W):
  CallsIn Fence.wide n Tryz.prog 226 #[.func (.yield l) #[] #[],.pointer (some ⟨Bn,0,none⟩)] W fun e W'=>(∃v,e= .returned v)∧
   ((∃ys,ys=Eb a b∧J ys W')∨(∃pre,True∧Jx pre W')):=by
 refine callsIn_of_wp Tryz.func226 rfl trivial ?_ rfl;simp only[Tryz.ntmps226,List.size_toArray,List.length_cons,List.length_nil,Nat.reduceAdd,Nat.reduceSub,Array.replicate_succ,Array.replicate_zero,List.push_toArray,List.append_toArray,List.nil_append,List.cons_append];obtain⟨k1,k2,k3⟩:=Fc hs;have hcount:=fun w=>Ns a b w hs;obtain⟨k,hk⟩:=ey (Cq a b);rw[hk]at k1 k2 k3 hcount;have hnb:=fun(id e:Nat) w h=>Ea a b (id:Nat) (e:Nat) w hs (Int.natCast_nonneg e) h;have hU:Eb a b=Ez a b (3*k):=by unfold Eb;rw[hk]
 clear k1 hk;rw[hU]at hY⊢;obtain⟨⟨b0,b1⟩,_⟩:=Cu hBn;have hlt:Bn<W.heap.size:=(Aq.1 hBn).1
 gi_wp2
 refine⟨trivial,fun _=>by omega,(callsIn_wide.2 (hcount W)).mono ?_⟩;rintro e w1 ⟨rfl,hb1⟩
 gi_wp2
 gi_loopw [9] (fun i wr=>∃id:Nat,id≤k∧i= Aa Ab id∧J (Ez a b (3*id)) wr∧Kz n₀ Bn W wr∧W.heap.size≤wr.heap.size) (fun i _=>k-(intOf i).toNat)
 case atStart=>exact⟨0,Nat.zero_le _,rfl,hJ _ _ _ h0 hb1,⟨hb1.mono hn₀,hb1.block Bn hlt⟩,hb1.size⟩
 case round=>
  obtain⟨id,hid,rfl,hJ0,hB,hsz⟩:=hrel;by_cases hlt2:id<k
  ·have q1:(id:Int)<(k:Int):=by omega
   gi_wp2
   gi_loopw [12] (fun i wr=>∃e:Nat,e≤3∧i= Aa Ac e∧J (Ez a b (3*id+e)) wr∧Kz n₀ Bn W wr∧W.heap.size≤wr.heap.size) (fun i _=>3-(intOf i).toNat)
   case atStart=>exact⟨0,by omega,rfl,hJ0,hB,hsz⟩
   case round=>
    obtain⟨e,he,rfl,hJ1,hB1,hsz1⟩:=hrel;by_cases h3:e<3
    ·have q2:(e:Int)<3:=by omega
     obtain⟨⟨c0,c1⟩,_⟩:=Cu (hB1.2.trans hBn);have hu:=gV a b id e h3;have hisU:isU a b id e=(decide ((nbI a b id e).2=0)&&decide ((id:Int)<(nbI a b id e).1)):=rfl;have hnbx:=hnb id e;obtain⟨⟨nn,er⟩,hnz⟩:=ey (nbI a b id e);rw[hnz]at hnbx hisU
     gi_wp2
     refine⟨trivial,fun _=>by omega,(callsIn_wide.2 (hnbx _ (hQ _ hB1.1))).mono ?_⟩;rintro en w2 ⟨rfl,hb2⟩;have hJ2:=hJ _ _ _ hJ1 hb2;have hB2:Kz n₀ Bn W w2:=⟨hB1.1.trans (hb2.mono (by omega)),(hb2.block Bn (by omega)).trans hB1.2⟩;have hsz2:=Bo hsz1 hb2.size;unfold Ug;dsimp only;clear hnbx c0 c1 b0 b1 hnb hQ hJ hcount;by_cases her:er=0
     ·subst her;by_cases hgt:(id:Int)<nn
      ·have hI:isU a b id e=true:=by rw[hisU];simp[hgt]
       rw[hI,if_pos rfl]at hu
       have hlen:(Ez a b (3*id+e)).length<(Ez a b (3*k)).length:=by
        have h1:=Re a b (3*id+(e+1)) (3*k-(3*id+(e+1)));rw[show 3*id+(e+1)+(3*k-(3*id+(e+1)))=3*k by omega,hu]at h1;simp at h1;omega
       obtain⟨fn,tmps,assign,body,hy,hR⟩:=hY _ (id,e) w2 hJ2 hlen;dsimp only at hy hR;clear hY hisU hI hlen
       gi_wp2
       refine⟨fun _=>by omega,hR.mono ?_⟩;rintro e3 W3 (⟨rfl,hJ3,hk3⟩|⟨rfl,hJx3⟩)
       ·rw[←hu]at hJ3;have hB3:Kz n₀ Bn W W3:=⟨hB2.1.trans hk3.1,hk3.2.trans hB2.2⟩;have hsz3:=Bo hsz2 hk3.1.size;clear hy hR hJ2 hJ1 hJ0 hk3
        gi_wp2
        exact⟨⟨e+1,by omega,by go_num,hJ3,hB3,hsz3⟩,by simp[intOf];omega⟩
       ·clear hy hR hJ2 hJ1 hJ0
        gi_wp2
        refine Af (results_none rfl _ _ _) rfl ?_;exact⟨⟨_,rfl⟩,.inr ⟨_,trivial,hJx3⟩⟩
      ·have hI:isU a b id e=false:=by rw[hisU];simp[hgt]
       rw[hI,if_neg (by simp),List.append_nil]at hu;rw[←hu]at hJ2;clear hY hisU hI
       gi_wp2
       refine⟨fun _ h=>(by cases h),?_⟩
       gi_wp2
       exact⟨⟨e+1,by omega,by go_num,hJ2,hB2,hsz2⟩,by simp[intOf];omega⟩
     ·have hI:isU a b id e=false:=by rw[hisU];simp[her]
      rw[hI,if_neg (by simp),List.append_nil]at hu;rw[←hu]at hJ2;clear hY hisU hI
      gi_wp2
      refine⟨fun _ h=>(by cases h),?_⟩
      gi_wp2
      exact⟨⟨e+1,by omega,by go_num,hJ2,hB2,hsz2⟩,by simp[intOf];omega⟩
    ·obtain rfl:e=3:=by omega
     gi_wp2
     exact⟨⟨id+1,by omega,by go_num,by rw[show 3*(id+1)=3*id+3 by omega];exact hJ1,hB1,hsz1⟩,by simp[intOf];omega⟩
  ·obtain rfl:id=k:=by omega
   have q1:¬(id:Int)<(id:Int):=by omega
   gi_wp2
   go_end0
   exact⟨⟨_,rfl⟩,.inl hJ0⟩
theorem zK (a b:Int) (n:Nat) (w:Ag):
  CallsIn Fence.wide n Tryz.prog 160 #[.agg #[Aa Ab a,Aa Ab b]] w fun e w'=>e= .returned (.func (.func 226) #[] #[.pointer (some ⟨w.heap.size,0,none⟩)])∧w'=w.alloc (.cells #[Aa Ab a,Aa Ab b] 35):=by
 refine callsIn_of_wp Tryz.func160 rfl trivial ?_ rfl;simp only[Tryz.ntmps160,List.size_toArray,List.length_cons,List.length_nil,Nat.reduceAdd,Nat.reduceSub,Array.replicate_succ,Array.replicate_zero,List.push_toArray,List.append_toArray,List.nil_append,List.cons_append]
 gi_wp2
 go_ret;exact⟨rfl,rfl⟩
theorem jW (a b:Int) (hs:okS a b=true) (n:Nat) (hn:3≤n) (Bn n₀:Nat) (w:Ag) (hn₀:n₀≤w.heap.size) (hQ:∀W',Below n₀ w W'→Qt W') (hBn:w.heap[Bn]? =some (Obj.cells #[Aa Ab a,Aa Ab b] 35 (0,0))):
  SeqStopsK Fence.wide n Tryz.prog 226 #[.pointer (some ⟨Bn,0,none⟩)] (fun x:Nat×Nat=>#[Value.agg #[Aa Ab (x.1:Nat),Aa Ac (x.2:Nat)]]) (Kz n₀ Bn) (fun ys=>ys=Eb a b) (fun _=>True) (Eb a b).length w:=fun l J Jx W hW hJ _ hY h0=>
 uW l Bn n₀ a b hs J Jx n hn hY W (fun W' h=>hQ W' ((hW.mono hn₀).trans h)) (kept hW hBn (Aq.1 hBn).1) (Bo hn₀ hW.size) (fun s A B hs hb=>hJ s A B none hs ⟨hb.os,hb.tape,hb.output,hb.size,fun k hk _=>hb.block k hk⟩ (by simp)) h0
theorem Ue:(Tryz.prog.info? 91).map (fun i=>(i.zero,i.size,i.bytes))=some (some (.agg #[Aa Ab 0,Aa Ac 0]),2,16):=by kernel_rfl
theorem pM (A:Option Addr) (n c:Nat) (w:Ag) (h:n≤c) (_hm:c≤maxLen):
  Ai Tryz.prog 161 #[Ad A n c] w (Cg (Ad A n n) w):=by
 unfold maxLen at _hm;go_enter Tryz.func161,Tryz.ntmps161
 go_wp2
 go_ret;exact⟨rfl,Below.refl _ _⟩
def oO (l:List (Nat×Nat)) (w:Ag) (en:Ending) (w':Ag):Prop:=
 ∃A,en= .returned (.tuple #[Ad A l.length l.length,Aa Ab 0])∧Ec w' w.heap.size 91 2 A l.length (Fp l)∧Below w.heap.size w w'
theorem gW (l:List (Nat×Nat)):(Fp l).length=l.length*2:=by
 induction l with
 |nil=>rfl
 |cons u l ih=>simp only[Fp,Ba,Be,List.length_cons]at ih⊢;rw[ih];simp[cS];omega
theorem Sp (l:List (Nat×Nat)) (x:Nat×Nat):Fp (l++[x])=Fp l++[Aa Ab x.1,Aa Ac x.2]:=by simp[Fp,cS]
theorem cU (a b:Int) (w:Ag) (hs:okS a b=true) (hQ:Qt w):Ai Tryz.prog 86 #[.agg #[Aa Ab a,Aa Ab b]] w (oO (Eb a b) w):=by
 refine(callsIn_wide (n:=9)).1 ?_;obtain⟨k1,k2,k3⟩:=Fc hs;have hck:=Ev a b (w.alloc (.cells #[Aa Ab a,Aa Ab b] 35));have hec:ec (okS a b) 1=0:=by rw[hs];rfl
 rw[hec]at hck
 have hlen:(Eb a b).length≤3072:=by
  have:=Hq a b (3*Cq a b);unfold Eb;omega
 obtain⟨i0,hi,hz0,hz1,hz2⟩:=info_parts Ue;clear k1 k2 k3 hec;refine callsIn_of_wp_marks Tryz.func86 rfl trivial ?_ rfl;simp only[Tryz.ntmps86,List.size_toArray,List.length_cons,List.length_nil,Nat.reduceAdd,Nat.reduceSub,Array.replicate_succ,Array.replicate_zero,List.push_toArray,List.append_toArray,List.nil_append,List.cons_append]
 gi_wp2
 refine⟨trivial,(callsIn_wide.2 hck).mono ?_⟩;rintro e w1 ⟨rfl,hb1⟩;have hN1:=kept hb1 (Bt w (.cells #[Aa Ab a,Aa Ab b] 35)) (by simp);have hB1:Below w.heap.size w w1:=((Below.refl w.heap.size w).alloc (Aj _) (.cells #[Aa Ab a,Aa Ab b] 35)).trans (hb1.mono (by simp));have hlt1:w.heap.size<w1.heap.size:=by have:=hb1.size;simp at this;omega
 obtain⟨N,hN⟩:=ey w.heap.size;obtain⟨N5,hN5⟩:=ey w1.heap.size;rw[hN]at hN1 hB1 hlt1⊢;rw[hN5]at hlt1;obtain⟨⟨a0,a1⟩,_⟩:=Cu hN1;have hO:=Boxed.new w1 129 (Ad none 0 0);have hA:=hN1;rw[hN5]at hO;have HW:=Ae hN;clear hck hb1 hN
 gi_wp2
 refine⟨trivial,(zK a b 8 _).mono ?_⟩;rintro e w' ⟨rfl,rfl⟩
 gi_wp2
 have hB2:Below N w ((w1.alloc (.cells #[Ad none 0 0] 129)).alloc (.cells #[Aa Ab a,Aa Ab b] 35)):=(hB1.alloc (by omega) _).alloc (by simp;omega) _;have hO2:=hO.alloc (.cells #[Aa Ab a,Aa Ab b] 35);have hz:((w1.alloc (.cells #[Ad none 0 0] 129)).alloc (.cells #[Aa Ab a,Aa Ab b] 35)).heap.size=N5+2:=by simp[hN5]
 have hS:=Bt (w1.alloc (.cells #[Ad none 0 0] 129)) (.cells #[Aa Ab a,Aa Ab b] 35);simp only[World.size_alloc,hN5]at hS;obtain⟨W0,hW0⟩:=ey ((w1.alloc (.cells #[Ad none 0 0] 129)).alloc (.cells #[Aa Ab a,Aa Ab b] 35));rw[hW0]at hB2 hO2 hz hS⊢;obtain⟨Bn,hBn⟩:=ey (N5+1);rw[hBn]at hS;clear hO hA hW0 hN1 a0 a1 hB1;rw[hBn];clear hi;obtain⟨i0,hi,hz0,hz1,hz2⟩:=info_parts Ue;have hQ2:∀W',Below N W0 W'→Qt W':=fun W' h=>hQ.below (by rw[HW.out];exact hB2.trans h);have hbn:Bn<W0.heap.size:=by omega
 refine wpIn_rangeFunc_ownH rfl (by decide) (gf:=226) (lb:=#[.pointer (some ⟨Bn,0,none⟩)]) rfl trivial (enters_of Tryz.func226 (by kernel_rfl) rfl)
  (jW a b hs 8 (by decide) Bn N W0 (by omega) hQ2 hS) qR (qQ (by omega) hbn) (Below.refl _ _) (fun _=>rfl)
  (fun pre W=>(∃v,Boxed W N5 129 v∧W.ownsRow N 91 2 v pre.length (Fp pre)∧True)∧(W.heap[Bn]? =some (Obj.cells #[Aa Ab a,Aa Ab b] 35 (0,0))∧Below N w W))
  (fun _ _ _=>False)
  (OwnFrom.and (Own.from (holdsRow_own N N5 129 91 2 (fun pre=>pre.length) (fun pre=>Fp pre) (fun _ _=>True)) _) (OwnFrom.and (fun _ _ _ _ hs hg hr=>Wi hs hg (fun r e=>(hr r e).2)) (ownFrom_below (by rw[HW.out];exact Aj _) (by omega))))
  (fun _ _ _ _ _ hs _ _=>hs)
  ⟨⟨_,hO2,World.ownsRow_nil _ _ _ _,trivial⟩,hS,hB2⟩
  (fun x a' W=>∃Bx,W.heap[Bx]? =some (Obj.cells #[Aa Ab (x.1:Nat),Aa Ac (x.2:Nat)] 91 (0,0))∧a'={tmps:=#[.agg #[Aa Ab a,Aa Ab b],.pointer (some ⟨N,0,none⟩),Ad none 0 0,Aa Ab 0,Aa Ab 0,.pointer (some ⟨N5,0,none⟩),.pointer (some ⟨Bx,0,none⟩),.agg #[Aa Ab a,Aa Ab b],Aa Ab 0,Aa Ab 0,.bool false,undef,.agg #[Aa Ab a,Aa Ab b],.func (.func 226) #[] #[.pointer (some ⟨Bn,0,none⟩)],.agg #[Aa Ab (x.1:Nat),Aa Ac (x.2:Nat)],undef,undef,undef,undef,undef,undef],defers:=[]})
  (fun x a' _ X Y row hs hg hr=>by obtain⟨Bx,h1,h2⟩:=hs;exact⟨Bx,Wi h1 hg (fun r e=>(hr r e).2),h2⟩)
  ?assign ?body ?done ?stop
 case assign=>
  rintro l pre x W K ⟨⟨v,hv,hrow,_⟩,hSW,hB⟩ hK;have hlN:=hB.size;rw[HW.out]at hlN
  gi_wp2
  have hb4:=(Below.refl N W).alloc hlN (.cells #[Aa Ab (x.1:Nat),Aa Ac (x.2:Nat)] 91);exact hK _ _ ((KeepsOthers.alloc _ _).from _) ⟨hb4,Below.heap_alloc W _ Bn (Aq.1 hSW).1⟩ ⟨⟨v,hv.alloc _,hrow.alloc _,trivial⟩,(Below.heap_alloc W _ Bn (Aq.1 hSW).1).trans hSW,hB.trans hb4⟩ ⟨W.heap.size,Bt W _,rfl⟩
 case body=>
  rintro l pre x a' W hl ⟨r,hr⟩ ⟨⟨v,hv,hrow,_⟩,hSW,hB⟩ ⟨Bx,hx,rfl⟩ hlt;have hc:=hv.cell;obtain⟨⟨x0,x1⟩,_⟩:=Cu hx;have hlN:=hB.size;rw[HW.out]at hlN;have hcn:=dI W #[Value.int .i64 (x.1:Nat),Value.int .u8 (x.2:Nat)] 91;have HB:=Ae hB;have hml:pre.length+1≤maxLen:=by unfold maxLen;omega
  clear hB hQ2 hB2 hO2 hS
  gi_wp2_with (gi_at_builtin;refine wpListIn_append_own _ rfl _ _ 129 rfl N 91 i0 _ 2 16 Tryz.underlying129 hi hz0 hz1 hz2 rfl (by decide) _ _ _ rfl (hrow.alloc _) ⟨W.heap.size,0,none⟩ 1 1 [Aa Ab (x.1:Nat),Aa Ac (x.2:Nat)] rfl rfl hcn (by simp[Value.oneCell']) hml (by omega) (by simp;omega) ?_;intro v' w1 hown' hgrow _;obtain⟨g',cap',rfl⟩:=ownsRow_succ hown';obtain⟨hv1,hv2,hr2,hk2,hb2⟩:=hv.appended (by decide) hrow hlN (by omega) hown' hgrow;have hc1:=hv1.cell;have hf1:=hv1.frozen)
  have hbk:=(Below.heap_setCell w1 ⟨N5,0,none⟩ (Ad (some ⟨g',0,none⟩) (pre.length+1) cap') Bn (by show Bn≠N5;omega)).trans ((hgrow.block Bn (by have:=(Aq.1 hSW).1;simp;omega) (Ol hSW (by decide) hrow)).trans (Below.heap_alloc W _ Bn (Aq.1 hSW).1))
  have hr3:(w1.setCell ⟨N5,0,none⟩ (Ad (some ⟨g',0,none⟩) (pre.length+1) cap')).ownsRow N 91 2 (Ad (some ⟨g',0,none⟩) (pre.length+1) cap') (pre++[x]).length (Fp (pre++[x])):=by
   rw[Sp,Be];exact hr2
  exact⟨hk2.from _,⟨hb2,hbk⟩,⟨_,hv2,hr3⟩,hbk.trans hSW,HB.out.trans hb2⟩
 case done=>
  rintro D ys W hD rfl ⟨⟨v,hv,hrow,_⟩,hSW,hB⟩ hK;have hc:=hv.cell;obtain⟨A,c,rfl,hA,hnc,hcm⟩:=Fx hrow
  gi_wp2
  refine⟨trivial,(callsIn_wide.2 (pM A _ c W hnc hcm)).mono ?_⟩;rintro e w9 ⟨rfl,hb9⟩;have hK9:=(hb9.block D (Aq.1 hK).1).trans hK;have hrow9:=(Ec.of_own hrow).below hb9;have hB9:=hB.trans (hb9.mono (Bo (by rw[HW.out];exact Aj _) hB.size));clear hrow hc hv hB hb9 hK
  gi_wp2
  refine⟨by simp,.inl ⟨_,_,rfl,run_takeDeferred hK9,?_⟩⟩;have hDN:N≤D:=by omega
  have hrow10:Ec (w9.putObj D (.deferred none)) N 91 2 A (Eb a b).length (Fp (Eb a b)):=by
   refine⟨hrow9.1,?_⟩;rcases hrow9.2 with h0|⟨g,cur,r1,r2,r3,r4⟩
   ·exact .inl h0
   ·exact .inr ⟨g,cur,r1,r2,(World.putObj_heap_other (fun e=>by subst e;rw[hK9]at r3;cases r3)).trans r3,r4⟩
  exact⟨_,by simp[results,Tryz.results86,go_sem],A,rfl,by rw[HW.out];exact hrow10,by rw[HW.out];exact hB9.trans (belowK_b (w:=W0) (by omega) w9 D _ _ (by omega) hK9 rfl rfl)⟩
 case stop=>
  rintro D c pre W _ _ h _;exact h.elim
end Go.Proofs.YteoffhpfcgffcaaGreatDoor
namespace Go.Proofs.YteoffhpfcgffcaaGreatDoor
structure Sm where
 a:Cl
 b:Cl
 ps:List (Nat×Nat)
 ls:List (Nat×Nat×Nat)
 es:List Nat
deriving DecidableEq
def Sm.none (a b:Cl):Sm:=⟨a,b,[],[],[]⟩
def Vj (a b:Cl) (f:Sm→Sm):List Sm→List Sm
 |[]=>[f (Sm.none a b)]
 |s::r=>if s.a=a∧s.b=b then f s::r else s::Vj a b f r
def Ha (c:Cl) (e:Nat):Cl×Int:=(⟨(nbr c.x c.y c.q e).1,(nbr c.x c.y c.q e).2.1,(nbr c.x c.y c.q e).2.2.1.toNat⟩,(nbr c.x c.y c.q e).2.2.2)
def Mu (l:List Stk):List (Nat×Nat):=l.flatMap fun x=>x.ls.zipIdx
def Sv (n:Nat) (p:List (Nat×Nat)):List Nat:=p.foldl (fun h q=>h.set q.1 q.2) (Aw n 0)
structure Lk where
 a:Int
 b:Int
 cr:List Cr
 ms:List Mv
 is:List Cl
 hs:List Nat
def Lk.other (k:Lk) (id e:Nat):Cl:=(Ku (k.ms.getD id mv0) (Ha (Da k.a id) e).1).1
def Lk.img (k:Lk) (id:Nat):Cl:=k.is.getD id cl0
def Lk.add (k:Lk) (id e:Nat) (s:Sm):Sm:=
 if(nbI k.a k.b id e).2≠0 then{s with es:=s.es++[id]}
 else if(nbI k.a k.b id e).1<id then s
 else
  let n:=(nbI k.a k.b id e).1.toNat
  let side:=if k.img id=s.b then 1 else 0
  if Fw k.cr id e=0 then{s with ps:=s.ps++[if side=0 then (id,n)else (n,id)]}
  else{s with ls:=s.ls++[if k.hs.getD id 0<k.hs.getD n 0 then (side,id,n)else (side,n,id)]}
def Lk.key (k:Lk) (id e:Nat):Cl×Cl:=if 0<Fg (k.img id) (k.other id e)then (k.other id e,k.img id)else (k.img id,k.other id e)
def Lk.meet (k:Lk) (id e:Nat) (l:List Sm):List Sm:=Vj (k.key id e).1 (k.key id e).2 (k.add id e) l
def Lk.seamsTo (k:Lk):Nat→List Sm
 |0=>[]
 |j+1=>k.meet (j/3) (j%3) (k.seamsTo j)
def Lk.seams (k:Lk):List Sm:=k.seamsTo (3*Cq k.a k.b)
def Kp (a b:Int) (cr:List Cr) (root:Mv) (l:List Stk):Int:=
 if(Dd a b cr root).2≠0 then (Dd a b cr root).2
 else if chkS (Cq a b) l≠0 then chkS (Cq a b) l
 else if l.any fun x=>x.ls.any fun id=>decide ((Dd a b cr root).1.2.getD id cl0≠x.c)then 6
 else if l.any fun x=>[0,1,2].any fun e=>decide ((Ha x.c e).2≠0)then 3
 else 0
def Vp (a b:Int) (cr:List Cr) (root:Mv) (l:List Stk):Lk:=
 ⟨a,b,cr,(Dd a b cr root).1.1,(Dd a b cr root).1.2,Sv (Cq a b) (Mu l)⟩
def mM (side:Nat) (p:Nat×Nat):Nat:=if side=0 then p.1 else p.2
def Dq (ls:List Nat) (s:Sm) (side:Nat):List Int:=s.ps.map fun p=>Lv ls (mM side p)
def jC (ls:List Nat) (s:Sm) (side:Nat):List (Int×Int):=(s.ls.filter fun x=>decide (x.1=side)).map fun x=>(Lv ls x.2.1,Lv ls x.2.2)
def mm (p:Int×Int):Int×Int:=(min p.1 p.2,max p.1 p.2)
def My (ls:List Nat) (s:Sm) (side:Nat):List (Int×Int):=(jC ls s side).map mm
def Jd (ls:List Nat) (s:Sm) (side:Nat):Bool:=(Dq ls s side).all (fun h=>decide (0≤h))&&(jC ls s side).all (fun x=>decide (0≤x.1)&&decide (0≤x.2))
def Lq (x y:Int×Int):Bool:=(decide (x.1<y.1)&&decide (y.1<x.2)&&decide (x.2<y.2))||(decide (y.1<x.1)&&decide (x.1<y.2)&&decide (y.2<x.2))
def Hj (t:List Int) (l:List (Int×Int)):Bool:=l.any fun x=>(t.any fun h=>decide (x.1<h)&&decide (h<x.2))||l.any (Lq x)
def Lc (t u:List Int):Bool:=(t.zip u).any fun p=>(t.zip u).any fun q=>decide (p.1<q.1)&&decide (q.2<p.2)
def Fk (l:List Stk) (s:Sm):Bool:=
 !Jd (atF l s.a) s 0|| !Jd (atF l s.b) s 1||(s.ls.any fun x=>decide (1<x.1))
  ||Hj (Dq (atF l s.a) s 0) (My (atF l s.a) s 0)||Hj (Dq (atF l s.b) s 1) (My (atF l s.b) s 1)
  ||Lc (Dq (atF l s.a) s 0) (Dq (atF l s.b) s 1)
def He (a b:Int) (x:Nat×Nat×Nat):Nat×Nat:=match([0,1,2]:List Nat).find? fun(e:Nat)=>decide (nbI a b ((min x.2.1 x.2.2:Nat):Int) (e:Int)=(((max x.2.1 x.2.2:Nat):Int),(0:Int)))with
 |some e=>(min x.2.1 x.2.2,e)
 |none=>(0,0)
def aD (up:List Bool) (x:Nat×Nat×Nat):Int:=if up.getD x.2.2 false then 1 else 2
def Ed (a b:Int) (cr:List Cr) (up:List Bool) (x:Nat×Nat×Nat):Bool:=
 decide (Fw cr (He a b x).1 (He a b x).2≠3)&&decide (Fw cr (He a b x).1 (He a b x).2≠aD up x)
structure St where
 a:Int
 b:Int
 cr:List Cr
 root:Mv
 l:List Stk
def St.chk (s:St):Int:=
 if Kp s.a s.b s.cr s.root s.l≠0 then Kp s.a s.b s.cr s.root s.l
 else if(Vp s.a s.b s.cr s.root s.l).seams.any (Fk s.l)then 12
 else if(Vp s.a s.b s.cr s.root s.l).seams.any fun x=>x.ls.any (Ed s.a s.b s.cr (upF s.a s.b s.cr s.root).1)then 13
 else 0
def aA (x:Stk):List Stk→List Stk
 |[]=>[x]
 |y::r=>if Fg x.c y.c≤0 then x::y::r else y::aA x r
def Ih:List Stk→List Stk
 |[]=>[]
 |x::r=>aA x (Ih r)
def Jb (x:Stk):List Stk→List Stk
 |[]=>[x]
 |y::r=>if y.c=x.c then⟨y.c,y.ls++x.ls⟩::r else y::Jb x r
def Ff (l h:List Stk):List Stk:=Ih ((l++h).foldl (fun o x=>if x.ls.isEmpty then o else Jb x o) [])
def Es (a b:Int):St:=⟨a,b,[],mv0,Ff [] ((List.range (Cq a b)).map fun id=>⟨(Dd a b [] mv0).1.2.getD id cl0,[id]⟩)⟩
def Hc (s:St) (k c:Int):List (Nat×Nat):=
 (Eb s.a s.b).filter fun u=>decide (Gb k c ((Dd s.a s.b s.cr s.root).1.2.getD u.1 cl0)≠Gb k c ((Dd s.a s.b s.cr s.root).1.2.getD (nbI s.a s.b u.1 u.2).1.toNat cl0))&&decide (Fw s.cr u.1 u.2=0)
def lF (x:Cr):List Cr→List Cr
 |[]=>[x]
 |y::r=>if Eh x.c x.e y.c y.e≤0 then x::y::r else y::lF x r
def If:List Cr→List Cr
 |[]=>[]
 |x::r=>lF x (If r)
structure Fd where
 k:Int
 c:Int
 side:Nat
 over:Bool
deriving DecidableEq
def Lr (m:Mv) (l:List Stk):Option (List Stk):=if l.all fun x=>decide ((Gh m x.c).2=0)then some (Ih (l.map fun x=>⟨(Gh m x.c).1,x.ls⟩))else none
def Is (l:List Stk):List Stk:=l.map fun x=>⟨x.c,x.ls.reverse⟩
def Dh (k c:Int) (side:Nat) (l:List Stk):List Stk:=l.filter fun x=>decide (Gb k c x.c=side)
def St.img (s:St) (id:Nat):Cl:=(Dd s.a s.b s.cr s.root).1.2.getD id cl0
def St.fold (s:St) (f:Fd):Int×Option St:=
 if Kg f.k f.c f.side=false then (1,none)
 else if(Hc s f.k f.c).isEmpty then (7,none)
 else match Lr (ofL f.k f.c) (Is (Dh f.k f.c f.side s.l))with
  |none=>(3,none)
  |some mv=>
   let root:=if Gb f.k f.c (s.img 0)=f.side then Ni s.root (ofL f.k f.c)else (s.root,0)
   if root.2≠0 then (3,none)
   else
    let stay:=Dh f.k f.c (1-f.side) s.l
    let cr:=If (s.cr++(Hc s f.k f.c).map fun u=>⟨u.1,u.2,if(upF s.a s.b s.cr s.root).1.getD u.1 false=f.over then 2 else 1⟩)
    let t:St:=⟨s.a,s.b,cr,root.1,if f.over then Ff stay mv else Ff mv stay⟩
    if t.chk=0 then (0,some t)else (3,none)
def St.do (s:St) (f:Fd):Int×Option St:=if s.chk≠0 then (s.chk,none)else s.fold f
end Go.Proofs.YteoffhpfcgffcaaGreatDoor
namespace Go.Proofs.YteoffhpfcgffcaaGreatDoor
open Go.RowKit
theorem Cv.row {O:Nat} {w w':Ag} {v:Ah} {l1 l2:List SkR} {x y:SkR} (h:Cv O w v (l1++x::l2)) (hc:Ds y=Ds x) (hA:y.2=x.2) (hl:y.1.ls.length=x.1.ls.length) (hr:Ec w' O 3 1 y.2.1 y.1.ls.length (Cz y.1.ls))
  (hg:w.grownBy w' (x.2.1.map (·.block))):Cv O w' v (l1++y::l2):=by
 obtain⟨h1,h2,h3⟩:=h;have hx:=h2 x (by simp);have hxb:∀g,x.2.1.map (·.block)=some g→g∈Ey x:=fun g hg=>by unfold Ey;rw[hg];simp
 have hn:=h3;simp only[Bf,Ba,Bl,Bi]at hn;obtain⟨n1,⟨n2,n3,n4⟩,n5⟩:=hn
 have hoth:∀u∈l1++l2,Gx O w' u:=fun u hu=>by
  have hu':u∈l1++x::l2:=by
   rcases Bi.1 hu with h|h
   ·simp[h]
   ·simp[h]
  refine(h2 u hu').same fun g hgu=>hg.block g ((h2 u hu').lt g hgu).2.1 fun e=>?_;have hgx:=hxb g e.symm;rcases Bi.1 hu with h|h
  ·exact n5 g (List.mem_flatMap.2 ⟨u,h,hgu⟩) g (.inl hgx) rfl
  ·exact n4 g hgx g (List.mem_flatMap.2 ⟨u,h,hgu⟩) rfl
 have hb:Ey y=Ey x:=by unfold Ey;rw[hA]
 refine⟨?_,fun u hu=>?_,?_⟩
 ·have hk:=aV h1 hg (.inr fun e=>by
   rcases hr.2 with⟨h0,-⟩|⟨g,cur,h0,-⟩
   ·rw[hA]at h0;rw[h0]at e;rcases h1.2 with⟨rfl,h00⟩|⟨g',_,_,rfl,_⟩
    ·simp at h00
    ·cases e
   ·rw[hA]at h0;have hgx:=hxb g (by rw[h0];rfl);refine Nd h1 hx g hgx ?_;rw[e,h0];rfl)
  simpa[hc]using hk
 ·rcases Bi.1 hu with hu|hu
  ·exact hoth u (by simp[hu])
  ·rcases Bh.1 hu with rfl|hu
   ·refine⟨?_,?_,?_,hr⟩
    ·rw[hA,hl];exact hx.1
    ·rw[hA,hl];exact hx.2.1
    ·rw[hA];exact hx.2.2.1
   ·exact hoth u (by simp[hu])
 ·simp only[Bf,Ba,hb]at h3⊢;exact h3
def skZ:SkR:=(⟨cl0,[]⟩,(none,0))
theorem Ql:(Tryz.prog.info? 125).map (fun i=>(i.zero,i.size,i.bytes))=some (some (.agg #[Aa Ab 0,Aa Ab 0,Aa Ac 0,Ad none 0 0]),4,48):=by kernel_rfl
theorem rJ (k:Nat):madeCells #[Aa Ab 0,Aa Ab 0,Aa Ac 0,Ad none 0 0] (k*4)=((Aw k skZ).flatMap Ds).toArray:=by
 have hlen:((Aw k skZ).flatMap Ds).length=k*4:=by rw[Dl Ds 4 Fj,List.length_replicate]
 apply Array.ext';apply List.ext_getElem?;intro j;by_cases hj:j<k*4
 ·obtain⟨i,f,hf,rfl⟩:∃i f,f<4∧j=i*4+f:=⟨j/4,j%4,by omega,by omega⟩;have hi:i<k:=by omega
  have h1:((Aw k skZ).flatMap Ds)[i*4+f]? =(Ds ((Aw k skZ)[i]'(by simpa using hi)))[f]? :=Dc Ds 4 Fj _ i f (by simpa using hi) hf;rw[h1];have h3:f=0∨f=1∨f=2∨f=3:=by omega
  have hm:(i*4+f)%4=f:=by omega
  simp[madeCells,hj,hm];rcases h3 with rfl|rfl|rfl|rfl<;>rfl
 ·rw[List.getElem?_eq_none (by simp[madeCells];omega),List.getElem?_eq_none (by rw[hlen];omega)]
theorem Rn (k:Nat) (hk:k≤100000) (W:Ag):(Instr.makeSlice 41 (Aa Ab k) (Aa Ab k)).run Tryz.prog W= .ok (Ad (some ⟨W.heap.size,0,none⟩) k k) (W.alloc (.cells ((Aw k skZ).flatMap Ds).toArray 125)):=by
 obtain⟨i,hi,hz,hs,hb⟩:=info_parts Ql;have h:=run_make (P:=Tryz.prog) W 41 125 i _ Tryz.underlying41 hi hz .i64 .i64 k k (by omega) (by omega) (by rw[hb];omega) (by omega);rw[h];simp only[Int.toNat_natCast,hs];have e:(Value.agg #[Aa Ab 0,Aa Ab 0,Aa Ac 0,Ad none 0 0]).cells= #[Aa Ab 0,Aa Ab 0,Aa Ac 0,Ad none 0 0]:=by rfl
 rw[e,rJ]
theorem Cv.made (w:Ag) (k:Nat) (hk:k≤100000):Cv w.heap.size (w.alloc (.cells ((Aw k skZ).flatMap Ds).toArray 125)) (Ad (some ⟨w.heap.size,0,none⟩) k k) (Aw k skZ):=by
 have hlen:((Aw k skZ).flatMap Ds).length=k*4:=by rw[Dl Ds 4 Fj,List.length_replicate]
 refine⟨⟨by rw[hlen,List.length_replicate],.inr ⟨w.heap.size,k,_,by rw[List.length_replicate],Aj _,Bt w _,by rw[List.length_replicate];exact Aj _,by unfold maxLen;omega,by simp[hlen],?_⟩⟩,fun x hx=>?_,?_⟩
 ·rw[List.length_replicate,←hlen];exact List.take_length
 ·obtain⟨-,rfl⟩:=List.mem_replicate.1 hx;exact⟨.inl ⟨rfl,rfl,rfl⟩,Aj _,Nat.zero_le _,rfl,.inl ⟨rfl,rfl⟩⟩
 ·have:(Aw k skZ).flatMap Ey=[]:=by
   rw[List.flatMap_eq_nil_iff];intro x hx;obtain⟨-,rfl⟩:=List.mem_replicate.1 hx;rfl
  rw[this];exact List.nodup_nil
def oG (l:List Stk) (w:Ag) (e:Ending) (w':Ag):Prop:=
 ∃A c zl,e= .returned (Ad A l.length c)∧Cv w.heap.size w' (Ad A l.length c) zl∧zl.map (·.1)=l∧Below w.heap.size w w'
theorem Qr {O GO n c:Nat} {wr W:Ag} {L:List SkR} {x:SkR} {i:Nat} (h:Cv O wr (Ad (some ⟨GO,0,none⟩) n c) L) (hi:i<L.length) (hb:Below wr.heap.size wr W) (hx:Gx wr.heap.size W x) (hO:O≤wr.heap.size):
  (∀f,f<4→∃u,W.cell? ⟨GO,i*4+f,none⟩=some u)∧(∀j,W.frozen? ⟨GO,j,none⟩=false)∧
   Cv O ((((W.setCell ⟨GO,i*4,none⟩ (Aa Ab x.1.c.x)).setCell ⟨GO,i*4+1,none⟩ (Aa Ab x.1.c.y)).setCell ⟨GO,i*4+2,none⟩ (Aa Ac x.1.c.q)).setCell ⟨GO,i*4+3,none⟩ (Ad x.2.1 x.1.ls.length x.2.2)) (Ad (some ⟨GO,0,none⟩) n c) (L.set i x):=by
 have hn:n=L.length:=by
  obtain⟨A,c',e,-⟩:=Dy h.1;simp at e;exact e.2.1
 subst hn;have hk:=Ck h.1 (Aj _) hb;have hlen:=Dl Ds 4 Fj L;have hrd:=Rd.of_own hk;obtain⟨b,o,e,-,hc⟩:=hrd.2 (by omega);obtain⟨rfl,rfl⟩:GO=b∧0=o:=by simpa using e
 have s1:=En hk (Dn W (some GO)) (i*4) (Aa Ab x.1.c.x);have s2:=En s1.1 s1.2 (i*4+1) (Aa Ab x.1.c.y);have s3:=En s2.1 s2.2 (i*4+2) (Aa Ac x.1.c.q);have s4:=En s3.1 s3.2 (i*4+3) (Ad x.2.1 x.1.ls.length x.2.2);rw[tT L i hi x]at s4;refine⟨fun f hf=>?_,Kh hk,h.set hi hb hx s4.1 s4.2 hO⟩;have hl:i*4+f<(L.flatMap Ds).length:=by rw[hlen];omega
 have:=hc (i*4+f) _ (Ar hl);rw[Bp]at this;exact⟨_,this⟩
theorem mT (l:List Stk) (k:Nat) (h:k<l.length):Is (l.take (k+1))=Is (l.take k)++[⟨l[k].c,l[k].ls.reverse⟩]:=by
 unfold Is;rw[Ax h,List.map_append];rfl
theorem bR (A:Option Addr) (l:List Stk) (n cc:Nat) (w:Ag) (hn:n=l.length) (h:Cs w A l) (hl:n≤100000) (hls:∀x∈l,x.ls.length≤100000):
  Ai Tryz.prog 54 #[Ad A n cc] w (oG (Is l) w):=by
 have HSK:=Ae (fun(w':Ag) (hb:Below w.heap.size w w')=>h.below hb);have HN:=Ae hn;have HLS:=Ae hls;have hmk:=Rn n hl w;have hO0:=Cv.made w n hl;have hb0:=(Below.refl w.heap.size w).alloc (Aj _) (.cells ((Aw n skZ).flatMap Ds).toArray 125);clear hn h hls;go_enter Tryz.func54,Tryz.ntmps54;go_upto_region 2 with fail;obtain⟨GO,hGO⟩:=ey w.heap.size;have HGO:=Ae hGO;rw[hGO]at hO0
 try rw[hGO]
 obtain⟨W0,hW0⟩:=ez (w.alloc (.cells ((Aw n skZ).flatMap Ds).toArray 125));rw[←hW0]at hO0 hb0⊢;clear hW0;have HO0:Hid (Cv w.heap.size W0 (Ad (some ⟨GO,0,none⟩) n n) ([]++Aw (n-0) skZ)):=Ae (by rw[hGO];exact hO0);have HB0:=Ae hb0;clear hmk hGO hO0 hb0;go_wp2_with fail
 go_loopw [11] (fun s11 wr=>∃k:Nat,k≤n∧s11= Aa Ab k∧Hid (∃zl:List SkR,zl.map (·.1)=Is (l.take k)∧Cv w.heap.size wr (Ad (some ⟨GO,0,none⟩) n n) (zl++Aw (n-k) skZ))∧Hid (Below w.heap.size w wr)) (fun s11 _=>n-(intOf s11).toNat)
 case atStart=>exact⟨0,by omega,rfl,Ae ⟨[],rfl,HO0.out⟩,HB0⟩
 case round=>
  obtain⟨k,hk,rfl,HZ,HB⟩:=hrel;clear HO0 HB0;by_cases hlt:k<n
  ·have hkl:k<l.length:=by have:=HN.out;omega
   have q0:(k:Int)<(n:Int):=by omega
   obtain⟨bb,o,A',c',hAA,hbl,⟨d0,d1,d2,d3⟩,hA',hle,hcm,hrd⟩:=(HSK.out _ HB.out).get k hkl;have hlk:=HLS.out l[k] (Au _);have hsn:=mT l k hkl;obtain⟨⟨⟨x0,x1,x2⟩,ids⟩,hx⟩:∃z,l[k]=z:=⟨_,rfl⟩;simp only[hx]at d0 d1 d2 d3 hlk hrd hA' hle hsn;obtain⟨m,hm⟩:=ey ids.length;rw[hm]at d3 hlk hrd hA' hle;have HMD:=Ae hm;have HSN:=Ae hsn;have HCP:=Ae (fun(w':Ag) (hb:Below wr.heap.size wr w')=>Kd ⟨x0,x1,x2⟩ A' ids m c' w' hm.symm hA' (hrd.below hb) (by omega));obtain⟨C,hC⟩:=ey wr.heap.size;have hbC:=Bt wr (.cells #[Aa Ab x0,Aa Ab x1,Aa Ac x2,Ad A' m c'] 125);rw[hC]at hbC;have hbq:=(Below.refl wr.heap.size wr).alloc (Aj _) (.cells #[Aa Ab x0,Aa Ab x1,Aa Ac x2,Ad A' m c'] 125);subst hAA;clear hsn hrd hA' hle hx hm;go_upto_region 5 with fail
   try rw[hC]
   obtain⟨W5,hW5⟩:=ez (wr.alloc (.cells #[Aa Ab x0,Aa Ab x1,Aa Ac x2,Ad A' m c'] 125));rw[←hW5]at hbC hbq⊢;clear hW5;clear d0 d1 d2 d3;obtain⟨⟨e0,e1,e2,e3⟩,-⟩:=Co hbC;have HBQ:=Ae hbq;have hsz:=HB.out.size;clear hbC hbq;go_wp2_with fail;refine(HCP.out _ HBQ.out).mono ?_;rintro ee w6 ⟨A9,rfl,hA9,hrow9,hb9⟩;dsimp only;obtain⟨zl,hz1,hz2⟩:=HZ.out
   have hzl:zl.length=k:=by
    have:=congrArg List.length hz1;unfold Is at this;simp at this;omega
   have hb69:=HBQ.out.trans (hb9.mono HBQ.out.size);have hbase:=HBQ.out.size;have hx9:Gx wr.heap.size w6 (⟨⟨x0,x1,x2⟩,ids⟩,(A9,ids.length)):=⟨hA9,Aj _,by show ids.length≤maxLen;have:=HMD.out;unfold maxLen;omega,hrow9.base hbase⟩;obtain⟨ucell,ufree,hset⟩:=Qr hz2 (i:=k) (by simp[hzl];omega) hb69 hx9 hsz
   have hLset:(zl++Aw (n-k) skZ).set k (⟨⟨x0,x1,x2⟩,ids⟩,(A9,ids.length))=zl++(⟨⟨x0,x1,x2⟩,ids⟩,(A9,ids.length))::Aw (n-(k+1)) skZ:=by
    rw[List.set_append_right _ _ (by omega),hzl,Nat.sub_self];rw[show n-k=(n-(k+1))+1 by omega,List.replicate_succ,Cb]
   rw[hLset]at hset;rw[HMD.out]at hset⊢;dsimp only at hset;obtain⟨v0,g0⟩:=ucell 0 (by omega);obtain⟨v1,g1⟩:=ucell 1 (by omega);obtain⟨v2,g2⟩:=ucell 2 (by omega);obtain⟨v3,g3⟩:=ucell 3 (by omega);rw[Nat.add_zero]at g0;have z0:=ufree (k*4);have z1:=ufree (k*4+1);have z2:=ufree (k*4+2);have z3:=ufree (k*4+3)
   have hbN:Below w.heap.size w ((((w6.setCell ⟨GO,k*4,none⟩ (Aa Ab x0)).setCell ⟨GO,k*4+1,none⟩ (Aa Ab x1)).setCell ⟨GO,k*4+2,none⟩ (Aa Ac x2)).setCell ⟨GO,k*4+3,none⟩ (Ad A9 m m)):=by
    have hgo:w.heap.size≤GO:=by rw[HGO.out];exact Aj _
    have hb6:=HB.out.trans (hb69.mono hsz);exact(((hb6.setCell (p:=⟨GO,k*4,none⟩) hgo _).setCell (p:=⟨GO,k*4+1,none⟩) hgo _).setCell (p:=⟨GO,k*4+2,none⟩) hgo _).setCell (p:=⟨GO,k*4+3,none⟩) hgo _
   have hA9b:∀g,A9.map (·.block)=some g→w.heap.size≤g:=fun g hg=>by have:=(hrow9.lt g hg).1;omega
   have HZL:=Ae hzl;have HZ1:=Ae hz1;have HA9:=Ae hA9b;clear ucell ufree hLset hx9 hz1 hz2 hzl hb69 hbase hsz hb9 hrow9 hA9 e0 e1 e2 e3 HZ HB HBQ HCP hA9b;go_upto_region 6 with fail;obtain⟨W7,hW7⟩:=ez ((((w6.setCell ⟨GO,k*4,none⟩ (Aa Ab x0)).setCell ⟨GO,k*4+1,none⟩ (Aa Ab x1)).setCell ⟨GO,k*4+2,none⟩ (Aa Ac x2)).setCell ⟨GO,k*4+3,none⟩ (Ad A9 m m));rw[←hW7]at hset hbN⊢;clear hW7;clear g0 g1 g2 g3 z0 z1 z2 z3
   have h3:W7.cell? ⟨GO,k*4+3,none⟩=some (Ad A9 m m):=by
    have hln:(zl++((⟨⟨x0,x1,x2⟩,ids⟩,(A9,m)):SkR)::Aw (n-(k+1)) skZ).length=n:=by
     have:=HZL.out;simp;omega
    have h1:=hset.1;rw[hln]at h1;have hrd:=Rd.of_own h1;obtain⟨b,o',e,-,hc⟩:=hrd.2 (by omega);obtain⟨rfl,rfl⟩:GO=b∧0=o':=by simpa using e
    have hz:=HZL.out;have hat:=Dc Ds 4 Fj (zl++(⟨⟨x0,x1,x2⟩,ids⟩,(A9,m))::Aw (n-(k+1)) skZ) k 3 (by simp;omega) (by omega)
    have hge:(zl++(⟨⟨x0,x1,x2⟩,ids⟩,(A9,m))::Aw (n-(k+1)) skZ)[k]'(by simp;omega)=((⟨⟨x0,x1,x2⟩,ids⟩,(A9,m)):SkR):=by
     rw[List.getElem_append_right (by omega)];simp[hz]
    rw[hge]at hat;have:=hc (k*4+3) (Ad A9 m m) (hat.trans (by simp[Ds,HMD.out]));rw[Bp]at this;exact this
   have hx9:=hset.2.1 ((⟨⟨x0,x1,x2⟩,ids⟩,(A9,m)):SkR) (by simp);have hrow:=hx9.2.2.2;dsimp only at hrow;rw[HMD.out]at hrow;have HRV:=Ae (sU (c:=m) ids W7 hrow (by omega));have HSET:=Ae hset;have HBN:=Ae hbN;clear hset hbN hx9 hrow;go_wp2_with fail;refine HRV.out.mono ?_;rintro ee w8 ⟨rfl,hrow8,hg8⟩;have hrl:ids.reverse.length=m:=by rw[List.length_reverse,HMD.out]
   have h8:=HSET.out.row (y:=(⟨⟨x0,x1,x2⟩,ids.reverse⟩,(A9,m))) (by unfold Ds;dsimp only;rw[hrl,HMD.out]) rfl (by dsimp only;rw[hrl,HMD.out]) (by dsimp only;rw[hrl];exact hrow8) hg8;have hb8:=HBN.out.grown hg8 HBN.out.size (fun g hg=>HA9.out g hg);have HO8:Hid (∃zl:List SkR,zl.map (·.1)=Is (l.take (k+1))∧Cv w.heap.size w8 (Ad (some ⟨GO,0,none⟩) n n) (zl++Aw (n-(k+1)) skZ)):=Ae ⟨zl++[(⟨⟨x0,x1,x2⟩,ids.reverse⟩,(A9,m))],by rw[List.map_append,HZ1.out,HSN.out];rfl,by rw[Bg];exact h8⟩;have HB8:=Ae hb8;clear hrow8 hg8 hrl h8 hb8 h3 HRV HSET HBN;go_wp2_with fail;exact⟨⟨k+1,by omega,by go_num,HO8,HB8⟩,by simp[intOf];omega⟩
  ·obtain rfl:k=n:=by omega
   have q0:¬(k:Int)<(k:Int):=by omega
   obtain⟨zl,hz1,hz2⟩:=HZ.out;have ht:l.take k=l:=Bc (by have:=HN.out;omega);rw[ht]at hz1;rw[Nat.sub_self,List.replicate_zero,List.append_nil]at hz2;have hrl:(Is l).length=k:=by unfold Is;rw[Bk];exact HN.out.symm
   have HFIN:Hid (oG (Is l) w (.returned (Ad (some ⟨GO,0,none⟩) k k)) wr):=Ae ⟨some ⟨GO,0,none⟩,k,zl,by rw[hrl],by rw[hrl];exact hz2,hz1,HB.out⟩;clear hz1 hz2 hrl ht HZ;go_wp2_with fail;go_ret;exact HFIN.out
end Go.Proofs.YteoffhpfcgffcaaGreatDoor
namespace Go.Proofs.YteoffhpfcgffcaaGreatDoor.Rs
open Go.RowKit
structure Sr where
 x:Int
 y:Int
 q:Nat
 A:Option Addr
 n:Nat
 c:Nat
 ls:List Nat
 hx: -4096≤x∧x≤4096
 hy: -4096≤y∧y≤4096
 hq:q≤3
def Sr.cells (r:Sr):List Ah:=[Aa Ab r.x,Aa Ab r.y,Aa Ac (r.q:Int),Ad r.A r.n r.c]
def recs (l:List Sr):List Ah:=l.flatMap Sr.cells
def Sr.t (r:Sr):Int:=(r.y*16384+r.x)*4+r.q
theorem Ky (r:Sr):r.cells.length=4:=rfl
theorem bK (L:List Sr) (i:Nat) (hi:i<L.length) (b:Sr):
  ((((recs L).set (i*4) (Aa Ab b.x)).set (i*4+1) (Aa Ab b.y)).set (i*4+2) (Aa Ac (b.q:Int))).set (i*4+3) (Ad b.A b.n b.c)=recs (L.set i b):=by
 obtain⟨a,ha⟩:=ey (L[i]);have e0:=Fe Sr.cells 4 Ky L i 0 hi (by omega) ⟨b.x,a.y,a.q,a.A,a.n,a.c,a.ls,b.hx,a.hy,a.hq⟩ (Aa Ab b.x) (by rw[ha];rfl);have e1:=Fe Sr.cells 4 Ky (L.set i ⟨b.x,a.y,a.q,a.A,a.n,a.c,a.ls,b.hx,a.hy,a.hq⟩) i 1 (by simpa using hi) (by omega) ⟨b.x,b.y,a.q,a.A,a.n,a.c,a.ls,b.hx,b.hy,a.hq⟩ (Aa Ab b.y) (by rw[List.getElem_set_self];rfl);have e2:=Fe Sr.cells 4 Ky (L.set i ⟨b.x,b.y,a.q,a.A,a.n,a.c,a.ls,b.hx,b.hy,a.hq⟩) i 2 (by simpa using hi) (by omega) ⟨b.x,b.y,b.q,a.A,a.n,a.c,a.ls,b.hx,b.hy,b.hq⟩ (Aa Ac (b.q:Int)) (by rw[List.getElem_set_self];rfl);have e3:=Fe Sr.cells 4 Ky (L.set i ⟨b.x,b.y,b.q,a.A,a.n,a.c,a.ls,b.hx,b.hy,b.hq⟩) i 3 (by simpa using hi) (by omega) b (Ad b.A b.n b.c) (by rw[List.getElem_set_self];rfl);rw[List.set_set]at e1 e2 e3;unfold recs;rw[Nat.add_zero]at e0;rw[←e0,←e1,←e2,←e3]
theorem Ac3 {w:Ag} {A:Option Addr} {l:List Sr} (h:Rd w A 4 l.length (recs l)) (i:Nat) (hi:i<l.length):
  ∃b o,A=some ⟨b,o,none⟩∧b<w.heap.size∧w.cell? ⟨b,o+i*4,none⟩=some (Aa Ab l[i].x)∧w.cell? ⟨b,o+i*4+1,none⟩=some (Aa Ab l[i].y)∧
   w.cell? ⟨b,o+i*4+2,none⟩=some (Aa Ac (l[i].q:Int))∧w.cell? ⟨b,o+i*4+3,none⟩=some (.slice l[i].A l[i].n l[i].c):=by
 obtain⟨b,o,e,hb,hc⟩:=h.2 (by omega);refine⟨b,o,e,hb,?_,?_,?_,?_⟩
 ·exact hc (i*4+0) _ ((Dc _ 4 Ky l i 0 hi (by omega)).trans rfl)
 ·exact hc (i*4+1) _ ((Dc _ 4 Ky l i 1 hi (by omega)).trans rfl)
 ·exact hc (i*4+2) _ ((Dc _ 4 Ky l i 2 hi (by omega)).trans rfl)
 ·exact hc (i*4+3) _ ((Dc _ 4 Ky l i 3 hi (by omega)).trans rfl)
theorem Pe {a b c d:Int} (h1:a<b↔c<d) (h2:b<a↔d<c):Cy a b=Cy c d:=by
 unfold Cy;simp only[h1,h2]
theorem pS (a b:Sr):Fg ⟨a.x,a.y,a.q⟩ ⟨b.x,b.y,b.q⟩=Cy a.t b.t:=by
 have h1:=a.hx;have h2:=a.hy;have h3:=a.hq;have h4:=b.hx;have h5:=b.hy;have h6:=b.hq;unfold Fg Sr.t;dsimp only;by_cases e1:a.y=b.y
 ·rw[if_neg (fun h=>h (Dt.2 e1))];by_cases e2:a.x=b.x
  ·rw[if_neg (fun h=>h (Dt.2 e2))];exact Pe (by omega) (by omega)
  ·rw[if_pos (fun h=>e2 (Dt.1 h))];exact Pe (by omega) (by omega)
 ·rw[if_pos (fun h=>e1 (Dt.1 h))];exact Pe (by omega) (by omega)
theorem Nt (a b:Sr) (w:Ag):
  Ai Tryz.prog 94 #[.agg #[Aa Ab a.x,Aa Ab a.y,Aa Ac (a.q:Int),Ad a.A a.n a.c],.agg #[Aa Ab b.x,Aa Ab b.y,Aa Ac (b.q:Int),Ad b.A b.n b.c]] w (Cg (Aa Ab (Cy a.t b.t)) w):=by
 have HC:=Ae (fun w'=>Sb ⟨a.x,a.y,a.q⟩ ⟨b.x,b.y,b.q⟩ w' (by have:=a.hq;dsimp only;omega) (by have:=b.hq;dsimp only;omega));rw[pS]at HC;dsimp only at HC;obtain⟨r,hr⟩:=ey (Cy a.t b.t);rw[hr]at HC⊢;obtain⟨x0,x1,x2,xA,n,xc,xl,ax,ay,aq⟩:=a;obtain⟨y0,y1,y2,yA,m,yc,yl,bx,by',bq⟩:=b;dsimp only at HC⊢;have hbd:Below w.heap.size w ((w.alloc (.cells #[Aa Ab x0,Aa Ab x1,Aa Ac x2,Ad xA n xc] 125)).alloc (.cells #[Aa Ab y0,Aa Ab y1,Aa Ac y2,Ad yA m yc] 125)):=((Below.refl _ _).alloc (Aj _) _).alloc (by simp) _;have H:=((Bx.start w).new #[Aa Ab x0,Aa Ab x1,Aa Ac x2,Ad xA n xc] 125 rfl).new #[Aa Ab y0,Aa Ab y1,Aa Ac y2,Ad yA m yc] 125 (N:=w.heap.size+1) (by simp);clear hr;go_enter Tryz.func94,Tryz.ntmps94;go_upto_region 1 with fail;obtain⟨W,hW⟩:=ez ((w.alloc (.cells #[Aa Ab x0,Aa Ab x1,Aa Ac x2,Ad xA n xc] 125)).alloc (.cells #[Aa Ab y0,Aa Ab y1,Aa Ac y2,Ad yA m yc] 125));rw[←hW]at H hbd⊢;clear hW;obtain⟨N,hN⟩:=ez w.heap.size;rw[←hN]at H⊢;have HNN:=Ae hN;clear hN;obtain⟨P,hP⟩:=ey (N+1);rw[hP]at H⊢;clear hP;obtain⟨⟨a0,a1,a2,-⟩,-⟩:=Co (H.blk 0 _ _ _ rfl);obtain⟨⟨b0,b1,b2,-⟩,-⟩:=Co (H.blk 1 _ _ _ rfl);have HBD:=Ae hbd;clear hbd H;go_wp2_with fail;refine(HC.out _).mono ?_;rintro e w2 ⟨rfl,hb⟩;go_wp2_with fail;go_ret;exact⟨rfl,HBD.out.trans (hb.mono HBD.out.size)⟩
theorem Og {w:Ag} {base g cap i j n:Nat} {L:List Sr} {a b:Sr} (hown:w.ownsRow base 125 4 (Ad (some ⟨g,0,none⟩) n cap) n (recs L)) (hi:i<L.length) (hj:j<L.length):
  (((((((((w.setCell ⟨g,i*4,none⟩ (Aa Ab b.x)).setCell ⟨g,i*4+1,none⟩ (Aa Ab b.y)).setCell ⟨g,i*4+2,none⟩ (Aa Ac (b.q:Int))).setCell ⟨g,i*4+3,none⟩ (Ad b.A b.n b.c)).setCell ⟨g,j*4,none⟩ (Aa Ab a.x)).setCell ⟨g,j*4+1,none⟩ (Aa Ab a.y)).setCell ⟨g,j*4+2,none⟩ (Aa Ac (a.q:Int))).setCell ⟨g,j*4+3,none⟩ (Ad a.A a.n a.c)).drew).ownsRow base 125 4 (Ad (some ⟨g,0,none⟩) n cap) n (recs ((L.set i b).set j a))∧
  w.grownBy (((((((((w.setCell ⟨g,i*4,none⟩ (Aa Ab b.x)).setCell ⟨g,i*4+1,none⟩ (Aa Ab b.y)).setCell ⟨g,i*4+2,none⟩ (Aa Ac (b.q:Int))).setCell ⟨g,i*4+3,none⟩ (Ad b.A b.n b.c)).setCell ⟨g,j*4,none⟩ (Aa Ab a.x)).setCell ⟨g,j*4+1,none⟩ (Aa Ab a.y)).setCell ⟨g,j*4+2,none⟩ (Aa Ac (a.q:Int))).setCell ⟨g,j*4+3,none⟩ (Ad a.A a.n a.c)).drew) (some g):=by
 have h1:=En hown (Dn w (some g)) (i*4) (Aa Ab b.x);have h2:=En h1.1 h1.2 (i*4+1) (Aa Ab b.y);have h3:=En h2.1 h2.2 (i*4+2) (Aa Ac (b.q:Int));have h4:=En h3.1 h3.2 (i*4+3) (Ad b.A b.n b.c);have h5:=En h4.1 h4.2 (j*4) (Aa Ab a.x);have h6:=En h5.1 h5.2 (j*4+1) (Aa Ab a.y);have h7:=En h6.1 h6.2 (j*4+2) (Aa Ac (a.q:Int));have h8:=En h7.1 h7.2 (j*4+3) (Ad a.A a.n a.c);clear h1 h2 h3 h4 h5 h6 h7;rw[bK L i hi b,bK (L.set i b) j (by simpa using hj) a]at h8;exact⟨h8.1.drew,Ke h8.2⟩
theorem Ra {α:Type} (U V Z:List α) (x y:α) {i j:Nat} (hi:i=U.length) (hj:j=U.length+1+V.length):
  (U++x::(V++y::Z))[i]? =some x∧(U++x::(V++y::Z))[j]? =some y∧((U++x::(V++y::Z)).set i y).set j x=U++y::(V++x::Z):=by
 subst hi hj;refine⟨?_,?_,?_⟩
 ·rw[List.getElem?_append_right (Aj _),Nat.sub_self];rfl
 ·rw[List.getElem?_append_right (by omega),show U.length+1+V.length-U.length=V.length+1 by omega,List.getElem?_cons_succ,List.getElem?_append_right (Aj _),Nat.sub_self];rfl
 ·rw[List.set_append_right _ _ (Aj _),Nat.sub_self,Cb,List.set_append_right _ _ (by omega),show U.length+1+V.length-U.length=V.length+1 by omega,Cc,List.set_append_right _ _ (Aj _),Nat.sub_self,Cb]
def Fi (base g n cap:Nat) (D:List Sr) (w:Ag) (e:Ending) (w':Ag):Prop:=
 e= .returned (.tuple #[])∧w'.ownsRow base 125 4 (Ad (some ⟨g,0,none⟩) n cap) n (recs D)∧w.grownBy w' (some g)
theorem Ft {w:Ag} {base g n cap:Nat} {L:List Sr} (hown:w.ownsRow base 125 4 (Ad (some ⟨g,0,none⟩) n cap) n (recs L)) (hn:n=L.length) {i:Nat} {r:Sr} (hi:L[i]? =some r):
  (w.cell? ⟨g,i*4,none⟩=some (Aa Ab r.x)∧w.cell? ⟨g,i*4+1,none⟩=some (Aa Ab r.y)∧w.cell? ⟨g,i*4+2,none⟩=some (Aa Ac (r.q:Int))∧w.cell? ⟨g,i*4+3,none⟩=some (Ad r.A r.n r.c))∧
  (w.frozen? ⟨g,i*4,none⟩=false∧w.frozen? ⟨g,i*4+1,none⟩=false∧w.frozen? ⟨g,i*4+2,none⟩=false∧w.frozen? ⟨g,i*4+3,none⟩=false):=by
 subst hn;obtain⟨hil,rfl⟩:=As.1 hi;obtain⟨b,o,e,_,c0,c1,c2,c3⟩:=Ac3 (Rd.of_own hown) i hil;obtain⟨rfl,rfl⟩:g=b∧0=o:=by simpa using e
 simp only[Bp]at c0 c1 c2 c3;exact⟨⟨c0,c1,c2,c3⟩,Kh hown _,Kh hown _,Kh hown _,Kh hown _⟩
def Jp (P X M Y S:List Sr) (i:Nat):List Sr:=P++(Y.take i++X.drop i)++M++(X.take i++Y.drop i)++S
theorem nF (P X M Y S:List Sr) (i:Nat) (h:X.length=Y.length):(Jp P X M Y S i).length=P.length+X.length+M.length+Y.length+S.length:=by
 unfold Jp;simp;omega
theorem gP (P X M Y S:List Sr):Jp P X M Y S 0=P++X++M++Y++S:=by simp[Jp]
theorem nE (P X M Y S:List Sr) (h:X.length=Y.length):Jp P X M Y S X.length=P++Y++M++X++S:=by
 unfold Jp;rw[Bc (by omega),List.drop_of_length_le (Aj _),Bc (Aj _),List.drop_of_length_le (by omega)];simp
theorem gO (P X M Y S:List Sr) (i:Nat) (h:X.length=Y.length) (hi:i<X.length) {p q:Nat} (hp:p=P.length+i) (hq:q=P.length+X.length+M.length+i):
  ∃x y,(Jp P X M Y S i)[p]? =some x∧(Jp P X M Y S i)[q]? =some y∧((Jp P X M Y S i).set p y).set q x=Jp P X M Y S (i+1):=by
 have e1:Jp P X M Y S i=(P++Y.take i)++X[i]::((X.drop (i+1)++M++X.take i)++Y[i]::(Y.drop (i+1)++S)):=by
  unfold Jp;rw[List.drop_eq_getElem_cons hi,List.drop_eq_getElem_cons (show i<Y.length by omega)];simp only[Bg,List.cons_append]
 have e2:Jp P X M Y S (i+1)=(P++Y.take i)++Y[i]::((X.drop (i+1)++M++X.take i)++X[i]::(Y.drop (i+1)++S)):=by
  unfold Jp;rw[Ax hi,Ax (show i<Y.length by omega)];simp only[Bg,List.cons_append,List.nil_append]
 refine⟨X[i],Y[i],?_⟩;rw[e1,e2];refine Ra _ _ _ _ _ ?_ ?_
 ·simp;omega
 ·simp;omega
theorem Lg (base g n cap cc:Nat) (P X M Y S:List Sr) (a b k:Nat) (f:Ah) (w:Ag) (hxy:X.length=Y.length) (ha:a=P.length) (hb:b=P.length+X.length+M.length) (hk:k=X.length) (hn:n=P.length+X.length+M.length+Y.length+S.length) (hl:n≤1000000000)
  (hown:w.ownsRow base 125 4 (Ad (some ⟨g,0,none⟩) n cap) n (recs (P++X++M++Y++S))):
  Ai Tryz.prog 341 #[Ad (some ⟨g,0,none⟩) n cc,Aa Ab a,Aa Ab b,Aa Ab k,f] w (Fi base g n cap (P++Y++M++X++S) w):=by
 have HXY:=Ae hxy;have HA:=Ae ha;have HB:=Ae hb;have HK:=Ae hk;have HN:=Ae hn;have HO:=Ae hown;have hak:a+k≤n:=by omega
 have hbk:b+k≤n:=by omega
 clear hxy ha hb hk hn hown;go_enter Tryz.func341,Tryz.ntmps341;go_wp2_with fail
 go_loopw [10] (fun s wr=>∃i:Nat,i≤k∧s= Aa Ab i∧wr.ownsRow base 125 4 (Ad (some ⟨g,0,none⟩) n cap) n (recs (Jp P X M Y S i))∧w.grownBy wr (some g)) (fun s _=>k-(intOf s).toNat)
 case atStart=>exact⟨0,by omega,rfl,by rw[gP];exact HO.out,Dn _ _⟩
 case round=>
  obtain⟨i,hik,rfl,hown,hgr⟩:=hrel;by_cases hlt:i<k
  ·obtain⟨p,hp⟩:=ez (a+i);obtain⟨q,hq⟩:=ez (b+i);obtain⟨x,y,hx,hy,hst⟩:=gO P X M Y S i HXY.out (by have:=HK.out;omega) (p:=p) (q:=q) (by have:=HA.out;omega) (by have:=HB.out;omega);have hlenD:=nF P X M Y S i HXY.out;have hnD:n=(Jp P X M Y S i).length:=by rw[hlenD];exact HN.out
   obtain⟨⟨c0,c1,c2,c3⟩,z0,z1,z2,z3⟩:=Ft hown hnD hx;obtain⟨⟨d0,d1,d2,d3⟩,y0,y1,y2,y3⟩:=Ft hown hnD hy;have hpl:p<n:=by omega
   have hql:q<n:=by omega
   have hsw:=Og (a:=x) (b:=y) (i:=p) (j:=q) hown (by rw[←hnD];exact hpl) (by rw[←hnD];exact hql);rw[hst]at hsw;have HSW:=Ae hsw;have e1:IntKind.i64.wrap ((a:Int)+(i:Int))=(p:Int):=by rw[Bu _ (by omega)];omega
   have e2:IntKind.i64.wrap ((b:Int)+(i:Int))=(q:Int):=by rw[Bu _ (by omega)];omega
   have e3:(p:Int)<(n:Int):=by omega
   have e4:(q:Int)<(n:Int):=by omega
   have e5:(0:Int)≤(p:Int):=by omega
   have e6:(0:Int)≤(q:Int):=by omega
   have hil:(i:Int)<(k:Int):=by omega
   have hpq:¬p=q:=by have:=HA.out;have:=HB.out;have:=HK.out;omega
   have hqp:¬q=p:=fun h=>hpq h.symm;clear hp hq hx hy hst hlenD hnD hsw hown;go_wp2_with fail
   go_region
   obtain⟨h1,h2⟩:=HSW.out;clear HSW c0 c1 c2 c3 d0 d1 d2 d3 z0 z1 z2 z3 y0 y1 y2 y3 e1 e2 e3 e4 e5 e6;obtain⟨W3,hW3⟩:=ez ((((((((((wr.setCell ⟨g,p*4,none⟩ (Aa Ab y.x)).setCell ⟨g,p*4+1,none⟩ (Aa Ab y.y)).setCell ⟨g,p*4+2,none⟩ (Aa Ac (y.q:Int))).setCell ⟨g,p*4+3,none⟩ (Ad y.A y.n y.c)).setCell ⟨g,q*4,none⟩ (Aa Ab x.x)).setCell ⟨g,q*4+1,none⟩ (Aa Ab x.y)).setCell ⟨g,q*4+2,none⟩ (Aa Ac (x.q:Int))).setCell ⟨g,q*4+3,none⟩ (Ad x.A x.n x.c)).drew));rw[←hW3]at h1 h2⊢;have H1:=Ae h1;have H2:=Ae (Eu hgr h2);clear hW3 h1 h2 hgr;go_wp2_with fail
   go_roundw
   case rel=>exact⟨i+1,by omega,by go_num,H1.out,H2.out⟩
   case measure=>simp[intOf];omega
  ·obtain rfl:i=k:=by omega
   have hown':=hown;rw[HK.out,nE _ _ _ _ _ HXY.out]at hown';have HO':=Ae hown';clear hown hown';go_wp2_with fail
   go_end0
   exact⟨rfl,HO'.out,hgr⟩
def yO (base g n cap m:Nat) (D:List Sr) (w0:Ag) (i j:Nat) (w:Ag):Prop:=
 ∃P X Y S:List Sr,P.length+i=m∧X.length=i∧Y.length=j∧0<i∧0<j∧P++Y++X++S=D∧n=P.length+X.length+Y.length+S.length∧w.ownsRow base 125 4 (Ad (some ⟨g,0,none⟩) n cap) n (recs (P++X++Y++S))∧w0.grownBy w (some g)
theorem fW (base g n cap cc:Nat) (P X Y S:List Sr) (a m b:Nat) (f:Ah) (w:Ag) (ha:a=P.length) (hm:m=P.length+X.length) (hb:b=P.length+X.length+Y.length) (hn:n=P.length+X.length+Y.length+S.length) (hX:0<X.length) (hY:0<Y.length) (hl:n≤1000000000)
  (hown:w.ownsRow base 125 4 (Ad (some ⟨g,0,none⟩) n cap) n (recs (P++X++Y++S))):
  Ai Tryz.prog 293 #[Ad (some ⟨g,0,none⟩) n cc,Aa Ab a,Aa Ab m,Aa Ab b,f] w (Fi base g n cap (P++Y++X++S) w):=by
 have hstart:yO base g n cap m (P++Y++X++S) w (m-a) (b-m) w:=⟨P,X,Y,S,by omega,by omega,by omega,by omega,by omega,rfl,hn,hown,Dn _ _⟩;obtain⟨D,hD⟩:=ez (P++Y++X++S);rw[←hD]at hstart⊢;have HS:=Ae hstart;have h1:a≤m:=by omega
 have h2:m≤b:=by omega
 have h3:b≤n:=by omega
 clear hown hstart hD ha hm hb hn hX hY P X Y S;go_enter Tryz.func293,Tryz.ntmps293;go_wp2_with fail
 go_loopw [10,11] (fun s t wr=>∃i j:Nat,s= Aa Ab i∧t= Aa Ab j∧yO base g n cap m D w i j wr) (fun s t _=>(intOf s).toNat+(intOf t).toNat)
 case atStart=>exact⟨m-a,b-m,by go_num,by go_num,HS.out⟩
 case round=>
  obtain⟨i,j,rfl,rfl,P,X,Y,S,hPi,hXi,hYj,hi,hj,hDD,hnn,hown,hgr⟩:=hrel;have HO:=Ae hown;have HDD:=Ae hDD;have HN:=Ae hnn;have HXi:=Ae hXi;have HYj:=Ae hYj;have HPi:=Ae hPi;have q1:i≤m:=by omega
  have q2:m+j≤n:=by omega
  clear hown hDD hnn hXi hYj hPi HS;by_cases hij:i=j
  ·obtain rfl:=hij;have hs:=Lg base g n cap cc P X [] Y S (m-i) m i f wr (by rw[HXi.out,HYj.out]) (by have:=HPi.out;omega) (by have:=HPi.out;have:=HXi.out;simp;omega) HXi.out.symm (by have:=HN.out;simp;omega) hl (by simpa using HO.out);rw[show((m-i:Nat):Int)=(m:Int)-(i:Int)by omega]at hs;simp only[List.append_nil]at hs;rw[HDD.out]at hs;have HSW:=Ae hs;have e0:((i:Int) != (i:Int))=false:=by simp
   clear hs;go_wp2_with fail;refine HSW.out.mono ?_;rintro e w2 ⟨rfl,hown2,hg2⟩;have H2:=Ae hown2;clear hown2;go_wp2_with fail
   go_end0
   exact⟨rfl,H2.out,Eu hgr hg2⟩
  ·have e0:((i:Int) != (j:Int))=true:=by simp;omega
   by_cases hgt:j<i
   ·have hX:X.take j++X.drop j=X:=List.take_append_drop _ _;have hl1:(X.take j).length=j:=by rw[Bj,HXi.out];omega
    have hl2:(X.drop j).length=i-j:=by rw[List.length_drop,HXi.out]
    have hs:=Lg base g n cap cc P (X.take j) (X.drop j) Y S (m-i) m j f wr (by rw[hl1,HYj.out]) (by have:=HPi.out;omega) (by have:=HPi.out;omega) hl1.symm (by have:=HN.out;have:=HXi.out;omega) hl (by rw[Bg P,hX];exact HO.out);rw[show((m-i:Nat):Int)=(m:Int)-(i:Int)by omega]at hs;have HSW:=Ae hs;have HX:=Ae hX;have HL1:=Ae hl1;have HL2:=Ae hl2;have hgt':(j:Int)<(i:Int):=by omega
    clear hs hX hl1 hl2;go_wp2_with fail;refine HSW.out.mono ?_;rintro e w2 ⟨rfl,hown2,hg2⟩;have H2:=Ae hown2;have HG2:=Ae (Eu hgr hg2);clear hown2 hgr hg2;go_wp2_with fail
    go_roundw
    case rel=>
     refine⟨i-j,j,by go_num,rfl,P++Y,X.drop j,X.take j,S,?_,HL2.out,HL1.out,by omega,hj,?_,?_,H2.out,HG2.out⟩
     ·have:=HPi.out;have:=HYj.out;simp;omega
     ·rw[Bg (P++Y),HX.out];exact HDD.out
     ·have:=HN.out;have:=HXi.out;have:=HL1.out;have:=HL2.out;simp only[Be];omega
    case measure=>simp[intOf];omega
   ·have hY:Y.take (j-i)++Y.drop (j-i)=Y:=List.take_append_drop _ _;have hl1:(Y.take (j-i)).length=j-i:=by rw[Bj,HYj.out];omega
    have hl2:(Y.drop (j-i)).length=i:=by rw[List.length_drop,HYj.out];omega
    have hs:=Lg base g n cap cc P X (Y.take (j-i)) (Y.drop (j-i)) S (m-i) (m+j-i) i f wr (by rw[hl2,HXi.out]) (by have:=HPi.out;omega) (by have:=HPi.out;have:=HXi.out;omega) HXi.out.symm (by have:=HN.out;have:=HYj.out;omega) hl (by rw[Bg (P++X),hY];exact HO.out);rw[show((m-i:Nat):Int)=(m:Int)-(i:Int)by omega,show((m+j-i:Nat):Int)=(m:Int)+(j:Int)-(i:Int)by omega]at hs;have HSW:=Ae hs;have HY:=Ae hY;have HL1:=Ae hl1;have HL2:=Ae hl2;have hgt':¬(j:Int)<(i:Int):=by omega
    clear hs hY hl1 hl2;go_wp2_with fail;refine HSW.out.mono ?_;rintro e w2 ⟨rfl,hown2,hg2⟩;have H2:=Ae hown2;have HG2:=Ae (Eu hgr hg2);clear hown2 hgr hg2;go_wp2_with fail
    go_roundw
    case rel=>
     refine⟨i,j-i,rfl,by go_num,P,Y.drop (j-i),Y.take (j-i),X++S,HPi.out,HL2.out,HL1.out,hi,by omega,?_,?_,?_,HG2.out⟩
     ·rw[←Bg,Bg P,HY.out];exact HDD.out
     ·have:=HN.out;have:=HYj.out;have:=HL1.out;have:=HL2.out;simp only[Be];omega
     ·rw[←Bg];exact H2.out
    case measure=>simp[intOf];omega
end Go.Proofs.YteoffhpfcgffcaaGreatDoor.Rs
