import Derived.Test.YtlgkpdfieaadaaaGreatDoorQStk
import Derived.Shelf.SlGeneric
import Derived.Test.YtlgkpdfieaadaaaGreatDoorQSog
import Derived.Shelf.Sort.Plain
import Derived.Shelf.Slices.In.SortNone
import Derived.Sort.OwnSortedInts
import Derived.Shelf.Slices.Reverse
import Derived.RangeFuncNested
import Derived.RangeFuncBound
import Derived.RangeFuncCalls
import Derived.RangeFuncLeaves
import Derived.RangeFuncBox
import Derived.Shelf.Abstract
import Derived.WalkKit
import Derived.OwnWalkIn
import Derived.TacticsInMore
import Derived.LoopNIn
import Derived.LoopIn
import Derived.Maps.AppendAt
import Derived.BigRegion
import Derived.Deep.QuietTactic
import Derived.BigQuiet
import Derived.StillTailTactics
import Derived.Deep.DeepCutAuto
import Derived.Deep.CutBlock
import Derived.Deep.RegionHeld3
set_option linter.all false
open Array renaming getElem?_eq_some_iff->Au,replicate_succ->Da,replicate_zero->Cz
open Classical renaming byContradiction->Ew,not_not->Ek
open Go renaming Addr->Ci,Calls->Al,TypeId->Cj,Value->Ak,World->Aj,bodyPost_ret->Ai,cell_of_row->By,heap_alloc_new->Bz
open Go.IntKind renaming i64->Ab,u8->Ac
open Go.IntWalk renaming i64_in->Ca
open Go.Lib renaming hid->Ah
open Go.Obj renaming cells->Cn
open Go.Proofs.Tryz renaming prog->Do
open Go.RowKit.Below renaming heap_alloc->Eg,heap_setCell->Dp,refl->Ag
open Go.Value renaming int->Aa,slice->Ad
open Int renaming toNat_natCast->Eu
open List renaming all_eq_true->Ec,any_eq_false->Dt,any_eq_true->Ev,append_assoc->Bj,append_nil->Fe,append_toArray->Dd,cons_append->Ep,drop_eq_getElem_cons->Gn,drop_of_length_le->Ct,ext_getElem->Gj,flatMap_append->Bi,flatMap_cons->Bf,getElem?_append_left->Fj,getElem?_append_right->Ee,getElem?_cons_zero->Dj,getElem?_eq_getElem->Aw,getElem?_eq_none->Ei,getElem?_eq_some_iff->Ax,getElem?_toArray->Fu,getElem_cons_succ->Cd,getElem_cons_zero->Cc,getElem_map->Gd,getElem_mem->Ay,getElem_set_self->Cp,getElem_take->Dc,getElem_toArray->Ce,length_append->Bh,length_cons->En,length_drop->Dx,length_eq_zero_iff->Es,length_map->Bo,length_nil->Cq,length_replicate->Ff,length_take->Bm,map_append->Ey,map_cons->Er,map_map->Fs,mem_append->Bl,mem_cons->Bk,mem_flatMap->Eb,mem_iff_getElem->Be,mem_map->Dq,mem_singleton->Ge,nil_append->Et,nodup_append->Bp,range->Dr,replicate->Ba,setIfInBounds_toArray->Ch,set_append_right->Gg,set_cons_succ->Cg,set_cons_zero->Cf,size_toArray->Fp,take_append_drop->Fc,take_of_length_le->Bg,take_succ_eq_append_getElem->Bc
open Nat renaming add_zero->De,le_of_lt->Bu,le_refl->Am,le_trans->Br,lt_of_lt_of_le->Bq,mul_one->Db,sub_self->Fk,zero_add->Bt,zero_le->Gk
open Option renaming none->Ae,some->Af
set_option maxHeartbeats 8000000
set_option maxRecDepth 100000
namespace Go.Proofs
theorem lyf {α:Type} {a:Option α} {b c:α} (h:a=Af b) (e:b=c:=by kernel_rfl):a=Af c:=h.trans (congrArg Af e)
theorem lyb {P:Program} {f:FuncId} {B C:Func} (h:P.funcs[f]? =Af C) (e:C={B with name:=C.name}:=by kernel_rfl) (n:(C.name== "runtime.NumGoroutine")=false:=by decide):Bears P f B:=⟨C.name,n,h.trans (congrArg Af e)⟩
open Go.Shelf Go.RowKit
def Tryz.laysSortStk_ren:Go.Shelf.Ren:=⟨fun|6=>108|15=>85|14=>165|28=>149|29=>150|20=>215|21=>216|22=>217|23=>218|24=>219|25=>220|26=>221|27=>222|46=>260|47=>189|48=>190|49=>261|50=>262|57=>303|n=>n,fun|22=>31|24=>92|25=>212|3=>3|39=>176|0=>0|53=>251|55=>253|4=>4|46=>245|45=>244|50=>208|5=>5|9=>9|66=>307|70=>109|76=>369|77=>225|n=>n,fun|n=>n⟩
open Tryz in
theorem Tryz.laysSortStk:Go.Proofs.SlLaysF0.n6 Do Tryz.laysSortStk_ren:={
 mixed:=Gw,f6:=lyb func108,f14:=lyb func165,f15:=lyf func85,f20:=lyb func215,f21:=lyb func216,f22:=lyb func217,f23:=lyb func218,f24:=lyb func219,f25:=lyb func220,f26:=lyb func221,f27:=lyb func222,f28:=lyf func149,f29:=lyf func150,f46:=lyb func260,f47:=lyf func189,f48:=lyf func190,f49:=lyb func261,f50:=lyb func262,f57:=lyb func303,t0:=underlying0,a0:=isAgg0,z0:=sizeOf0,v0:=zeroValue0,t3:=underlying3,a3:=isAgg3,z3:=sizeOf3,v3:=zeroValue3,t4:=underlying4,a4:=isAgg4,z4:=sizeOf4,v4:=zeroValue4,t5:=underlying5,a5:=isAgg5,z5:=sizeOf5,v5:=zeroValue5,t9:=underlying9,a9:=isAgg9,z9:=sizeOf9,v9:=zeroValue9,t22:=underlying31,a22:=isAgg31,z22:=sizeOf31,v22:=zeroValue31,t25:=underlying212,a25:=isAgg212,z25:=sizeOf212,v25:=zeroValue212,t39:=underlying176,a39:=isAgg176,z39:=sizeOf176,v39:=zeroValue176,t45:=underlying244,a45:=isAgg244,z45:=sizeOf244,v45:=zeroValue244,t46:=underlying245,a46:=isAgg245,z46:=sizeOf245,v46:=zeroValue245,t50:=underlying208,a50:=isAgg208,z50:=sizeOf208,v50:=zeroValue208,t53:=underlying251,a53:=isAgg251,z53:=sizeOf251,v53:=zeroValue251,t55:=underlying253,a55:=isAgg253,z55:=sizeOf253,v55:=zeroValue253,t66:=underlying307,a66:=isAgg307,z66:=sizeOf307,v66:=zeroValue307,t70:=underlying109,a70:=isAgg109,z70:=sizeOf109,v70:=zeroValue109,t76:=underlying369,a76:=isAgg369,z76:=sizeOf369,v76:=zeroValue369,t77:=underlying225,a77:=isAgg225,z77:=sizeOf225,v77:=zeroValue225}
end Go.Proofs
namespace Go.Proofs.YtlgkpdfieaadaaaGreatDoor
open Go.RowKit Go.Sort
abbrev SkE:={x:Stk×(Option Ci×Nat)//x.1.c.q<=255}
instance:Inhabited SkE:=⟨⟨(⟨cl0,[]⟩,(Ae,0)),Ha⟩⟩
def skV (x:SkE):List Ak:=Jb x.1
def qO (x y:SkE):Int:=Kc x.1.1.c y.1.1.c
theorem uU (x y:SkE) (w:Aj):Al Do 109 #[.agg (skV x).toArray,.agg (skV y).toArray] w (Uv (Aa Ab (qO x y)) w):=by
 obtain⟨⟨⟨⟨x0,x1,x2⟩,xl⟩,xA,xc⟩,hx⟩:=x;obtain⟨⟨⟨⟨y0,y1,y2⟩,yl⟩,yA,yc⟩,hy⟩:=y;unfold skV qO Jb;dsimp only at hx hy⊢;have HC:=Ah (λw'=>Tv ⟨x0,x1,x2⟩ ⟨y0,y1,y2⟩ w' hx hy);obtain⟨n,hn⟩:=ey xl.length;obtain⟨m,hm⟩:=ey yl.length;rw[hn,hm];generalize Kc ⟨x0,x1,x2⟩ ⟨y0,y1,y2⟩=r at HC⊢;dsimp only at HC;have dm:Bd w ((w.alloc (.cells #[x0,x1,Aa Ac x2,Ad xA n xc] 92)).alloc (.cells #[y0,y1,Aa Ac y2,Ad yA m yc] 92)):=((Bd.refl w).alloc _).alloc _;have H:=((Bx.start w).new #[x0,x1,Aa Ac x2,Ad xA n xc] 92 rfl).new #[y0,y1,Aa Ac y2,Ad yA m yc] 92 (N:=w.heap.size+1) Gx;clear hn hm;go_enter Tryz.func109,Tryz.ntmps109;go_upto_region 1 with fail;generalize (w.alloc _).alloc _=W at H dm⊢;obtain⟨N,hN⟩:=ez w.heap.size;rw[<-hN]at H⊢;have db:=Ah hN;clear hN;generalize N+1=P at H⊢;obtain⟨⟨a0,a1,a2,-⟩,-⟩:=Jm (H.b 0);obtain⟨⟨b0,b1,b2,-⟩,-⟩:=Jm (H.b 1);have dx:=Ah dm;clear dm H;go_wp2_with fail;refine(HC.out _).mono ?_;rintro e w2 ⟨rfl,hb⟩;go_wp2;go_ret;exact⟨rfl,dx.out.trans hb⟩
theorem Mx {a b:Int}:Ih a b<0↔a<b:=by
 unfold Ih
 split
 ·simp;assumption
 ·split
  ·simp;omega
  ·simp;omega
theorem Je {a b:Int}:Ih a b=0↔a=b:=by
 unfold Ih
 split
 ·simp;omega
 ·split
  ·simp;omega
  ·simp;omega
theorem Jk {a b:Cl}:Kc a b<0↔a.y<b.y∨(a.y=b.y/\(a.x<b.x∨(a.x=b.x/\a.q<b.q))):=by
 unfold Kc
 split
 ·rename_i h;rw[Mx];have:=mt Je.2 h;omega
 ·rename_i h;have h1:=Je.1 (Ek.1 h)
  split
  ·rename_i h2;rw[Mx];have:=mt Je.2 h2;omega
  ·rename_i h2;have h3:=Je.1 (Ek.1 h2);rw[Mx];omega
theorem Bj4 (x y:SkE):ltOf qO x y=decide (Kc x.1.1.c y.1.1.c<0):=rfl
theorem Cd0:SWO (ltOf qO) where
 irrefl x:=by rw[Bj4,Rt,Jk];omega
 trans x y z h1 h2:=by rw[Bj4,decide_eq_true_iff,Jk]at*;omega
 ntrans x y z h1 h2:=by rw[Bj4,Rt,Jk]at*;omega
theorem Bi2 (w:Aj):(isAgg 92).run Do w= .ok true w:=Gw
theorem Bx4 (w:Aj):(Go.sizeOf 92).run Do w= .ok 4 w:=Gw
theorem qT {O m c:Nat} {B:Option Ci} (l:List SkE) (w:Aj) (h:w.ownsRow O 92 4 (Ad B m c) m (l.flatMap skV)) (hm:m<=1000000):
  Al Do 108 #[Ad B m c,.func (.func 109) #[] #[]] w (Lo skV qO l O 92 4 m (Ad B m c) w):=
 Tp Tryz.laysSortStk 4 Ha Bi2 Bx4 skV (λ_=>rfl) (λx v hv=>by
  simp[skV,Jb]at hv;rcases hv with rfl|rfl|rfl|rfl<;>rfl) qO Cd0 109 #[] (enters_of Tryz.func109 Gw rfl) l w h hm (λW' _ x y=>uU x y W')
def atF (l:List Stk) (c:Cl):List Nat:=match l.find? λx=>decide (x.c=c)with
 |some x=>x.ls
 |none=>[]
theorem An5 {l:List Stk} {c:Cl} {i:Nat} (hi:i<l.length) (h:l[i].c=c) (hb:∀j (hj:j<l.length),j<i->l[j].c≠c):atF l c=l[i].ls:=by
 unfold atF
 have:l.find? (λx=>decide (x.c=c))=Af l[i]:=by
  rw[List.find?_eq_some_iff_getElem];exact⟨by simp[h],i,hi,rfl,λj hj=>by simp[hb j Gu hj]⟩
 rw[this]
theorem An6 {l:List Stk} {c:Cl} (hb:∀j (hj:j<l.length),l[j].c≠c):atF l c=[]:=by
 unfold atF
 have:l.find? (λx=>decide (x.c=c))=Ae:=by
  rw[List.find?_eq_none];intro x hx;obtain⟨j,hj,rfl⟩:=Be.1 hx;simp[hb j hj]
 rw[this]
def Bq8 (m:List Nat) (w:Aj) (en:Ending) (w':Aj):Prop:=
 ∃A,en= .returned (Ad A m.length m.length)/\AOk A m.length m.length/\Jj w' w.heap.size 3 1 A m.length (If m)/\Below w.heap.size w w'
theorem qU (A:Option Ci) (l:List Stk) (n cc:Nat) (c:Cl) (w:Aj) (hn:n=l.length) (h:Hz w A l) (hl:n<=100000) (ij:∀x∈l,x.ls.length<=100000):
  Al Do 207 #[Ad A n cc,.agg #[Aa Ab c.x,Aa Ab c.y,Aa Ac c.q]] w (Bq8 (atF l c) w):=by
 obtain⟨x,y,q⟩:=c;have HS:=Ah h;have HN:=Ah hn;have uq:=Ah ij;have H:=(Bx.start w).new #[x,y,Aa Ac q] 90 rfl;clear hn h ij;go_enter Tryz.func207,Tryz.ntmps207;go_upto_region 1 with fail;generalize w.alloc _=W at H⊢;obtain⟨N,hN⟩:=ez w.heap.size;rw[<-hN]at H⊢;have db:=Ah hN;clear hN;go_wp2
 go_loopw [9] (λi wr=>∃k:Nat,k<=n/\i= Aa Ab k/\Bx w [(N,#[x,y,Aa Ac q],90)] wr/\Hid (∀j (hj:j<l.length),j<k->l[j].c≠⟨x,y,q⟩)) (λi _=>n-(intOf i).toNat)
 case atStart=>exact⟨0,Gu,rfl,H,Ah λj _ hj=>absurd hj Gu⟩
 obtain⟨k,hk,rfl,Hr,HK⟩:=hrel;obtain⟨⟨a0,a1,a2⟩,_⟩:=He (Hr.b 0);have hlt0:=Hr.lt 0 rfl;by_cases ad:k<n
 ·have bc:k<l.length:=oHx HN.out;obtain⟨bb,o,A',c',rfl,cj,⟨d0,d1,d2,d3⟩,dq,hle,ia,be⟩:=(HS.out.below Hr.below).get k bc;have q1:(k:Int)<(n:Int):=Gu;have dy:=uq.out l[k] (Ay _);by_cases he:l[k].c=⟨x,y,q⟩
  ·have HF:=Ah (An5 bc he λj hj h=>HK.out j hj h);generalize l[k].ls=ids at d3 dq hle be HF dy;rw[he]at d0 d1 d2;dsimp only at d0 d1 d2;have FSz:=Ah λ(w':Aj) (hb:Below wr.heap.size wr w')=>Uz A' ids.length c' (If ids) w' dq (be.below hb) (Yy ids) Gu;clear he be dq;go_wp2_with fail;refine(FSz.out _ ((Ag _ _).alloc (Am _) _)).mono ?_;rintro e w3 ⟨v,rfl,aa,bm⟩;obtain⟨A2,c2,rfl,qf,xy,LJ⟩:=Mi aa;have H3:=(Hr.other _).call bm;go_wp2_with fail;refine(Yp A2 _ c2 _ xy LJ).mono ?_;rintro e w4 ⟨rfl,ct⟩;have H4:=H3.call ct;have ag:=(Jj.of_own aa).below ct;go_wp2;go_ret;exact⟨A2,by rw[HF.out];rfl,by rw[HF.out];exact qf.clip,by rw[HF.out];exact ag.base (by have:=Hr.below.size;simp;omega),H4.below⟩
  ·have jf:=Ah (λj (hj:j<l.length) (h:j<k+1)=>show l[j].c≠⟨x,y,q⟩by
    by_cases kj:j=k
    ·subst kj;exact he
    ·exact HK.out j hj Gu)
   obtain⟨⟨⟨x',y',q'⟩,ids⟩,hr⟩:∃z,l[k]=z:=⟨_,rfl⟩;rw[hr]at d0 d1 d2 d3 he;dsimp only at d0 d1 d2 d3 he;have hne:¬(x'=x/\y'=y/\q'=q):=λh=>he (by rw[h.1,h.2.1,h.2.2]);have hy:=λo=>Hr.other o;clear he hr be dq;go_wp2_with fail
   all_goals first
    |exact⟨⟨k+1,Gu,by go_num,hy _,jf⟩,by simp[intOf];omega⟩
    |exact absurd ⟨rfl,rfl,rfl⟩ hne
    |(exfalso;omega)
 ·have q1:¬(k:Int)<(n:Int):=Gu;have HF:=Ah (An6 (l:=l) (c:=⟨x,y,q⟩) λj hj=>HK.out j hj (oHx HN.out));go_wp2;go_ret;exact⟨Ae,by rw[HF.out];rfl,by rw[HF.out];exact .inl ⟨rfl,rfl,rfl⟩,by rw[HF.out];exact⟨rfl,.inl ⟨rfl,rfl⟩⟩,Hr.below⟩
theorem Xy (o:Option Nat):o.toList.Nodup:=by cases o<;>simp
abbrev SkR:=Stk×(Option Ci×Nat)
def Kl (x:SkR):List Nat:=(x.2.1.map (·.block)).toList
def Nl (O:Nat) (w:Aj) (x:SkR):Prop:=AOk x.2.1 x.1.ls.length x.2.2/\x.1.ls.length<=x.2.2/\x.2.2<=maxLen/\Jj w O 3 1 x.2.1 x.1.ls.length (If x.1.ls)
theorem Jj.same {w w':Aj} {base:Nat} {e:Cj} {sz n:Nat} {A:Option Ci} {xs:List Ak} (h:Jj w base e sz A n xs) (hb:∀g,A.map (·.block)=Af g->w'.heap[g]? =w.heap[g]?):Jj w' base e sz A n xs:=by
 refine⟨h.1,h.2.imp id ?_⟩;rintro⟨g,cur,rfl,r2,r3,r4⟩;exact⟨g,cur,rfl,r2,(hb g rfl).trans r3,r4⟩
theorem Jj.lt {w:Aj} {base:Nat} {e:Cj} {sz n:Nat} {A:Option Ci} {xs:List Ak} (h:Jj w base e sz A n xs):∀g,A.map (·.block)=Af g->base<=g/\g<w.heap.size/\∃cur,w.heap[g]? =Af (.cells cur e (0,0)):=by
 intro g hg;rcases h.2 with⟨rfl,_⟩|⟨g',cur,rfl,r2,r3,r4⟩
 ·cases hg
 ·obtain rfl:g'=g:=by simpa using hg
  exact⟨r2,(Au.1 r3).1,cur,r3⟩
def Hy (O:Nat) (w:Aj) (v:Ak) (l:List SkR):Prop:=
 w.ownsRow O 92 4 v l.length (l.flatMap Jb)/\(∀x∈l,Nl O w x)/\(l.flatMap Kl).Nodup
theorem Nl.same {O:Nat} {w w':Aj} {x:SkR} (h:Nl O w x) (hb:∀g∈Kl x,w'.heap[g]? =w.heap[g]?):Nl O w' x:=
 ⟨h.1,h.2.1,h.2.2.1,h.2.2.2.same λg hg=>hb g (by unfold Kl;rw[hg];simp)⟩
theorem Nl.lt {O:Nat} {w:Aj} {x:SkR} (h:Nl O w x):∀g∈Kl x,O<=g/\g<w.heap.size/\∃cur,w.heap[g]? =Af (.cells cur 3 (0,0)):=λg hg=>h.2.2.2.lt g (by unfold Kl at hg;simpa using hg)
theorem Nl.base {O O':Nat} {w:Aj} {x:SkR} (h:Nl O w x) (hO:O'<=O):Nl O' w x:=⟨h.1,h.2.1,h.2.2.1,h.2.2.2.base hO⟩
theorem Vk {O:Nat} {w:Aj} {v:Ak} {x:SkR} {n O':Nat} {xs:List Ak} (h:w.ownsRow O 92 4 v n xs) (hx:Nl O' w x):∀g∈Kl x,v.ownBlock≠Af g:=by
 intro g hg e;obtain⟨_,_,cur,hc⟩:=hx.lt g hg;rcases h.2 with⟨rfl,_⟩|⟨g',cap,YN,rfl,_,ud,_⟩
 ·cases e
 ·obtain rfl:g'=g:=by simpa[Value.ownBlock]using e
  rw[hc]at ud;injection ud with ud;injection ud with _ ht;exact absurd ht Ha
theorem Hy.below {O:Nat} {w w':Aj} {v:Ak} {l:List SkR} (h:Hy O w v l) (hb:Below w.heap.size w w'):Hy O w' v l:=
 ⟨Hx h.1 (Am _) hb,λx hx=>(h.2.1 x hx).same λg hg=>hb.block g ((h.2.1 x hx).lt g hg).2.1,h.2.2⟩
theorem Hy.nil (O:Nat) (w:Aj):Hy O w (Ad Ae 0 0) []:=⟨⟨rfl,.inl ⟨rfl,rfl⟩⟩,Gx,Gx⟩
theorem Hy.stks {O:Nat} {w:Aj} {A:Option Ci} {n c:Nat} {l:List SkR} (h:Hy O w (Ad A n c) l):Hz w A (l.map (·.1)):=by
 have hz:(l.map (·.1)).zip (l.map (·.2))=l:=by
  rw[List.zip_map'];simp
 refine⟨l.map (·.2),Gx,?_,λi hi se=>?_⟩
 ·rw[hz,Bo];obtain⟨A',c',hv,kh,va⟩:=Hw h.1;obtain⟨rfl,rfl,rfl⟩:A=A'/\n=l.length/\c=c':=by simpa using hv
  exact Rd.of_own h.1
 ·have bv:i<l.length:=by simpa using hi
  have:=h.2.1 l[i] (Ay bv);simp only[Gd];exact⟨this.1,this.2.1,this.2.2.1,this.2.2.2.rd⟩
theorem Hy.snoc {O:Nat} {w W w':Aj} {v v':Ak} {l:List SkR} {x:SkR} (h:Hy O w v l) (hb:Below w.heap.size w W) (hx:Nl w.heap.size W x) (ho:w'.ownsRow O 92 4 v' (l.length+1) (l.flatMap Jb++Jb x)) (hg:W.grownBy w' v.ownBlock)
  (hO:O<=w.heap.size):Hy O w' v' (l++[x]):=by
 refine⟨by simpa using ho,λy hy=>?_,?_⟩
 ·rcases Bl.1 hy with hy|hy
  ·have hk:=h.2.1 y hy;refine hk.same λg lr=>?_;have ad:=(hk.lt g lr).2.1;exact(hg.block g (Bq ad hb.size) (Ne.symm (Vk h.1 hk g lr))).trans (hb.block g ad)
  ·obtain rfl:=Ge.1 hy;refine(hx.same λg lr=>hg.block g (hx.lt g lr).2.1 λe=>?_).base hO;have h1:=(h.1.lt g e.symm).2;have h2:=(hx.lt g lr).1;omega
 ·rw[Bi,Bp];refine⟨h.2.2,by rw[Bf,List.flatMap_nil,Fe];exact Xy _,λa ha b hb' e=>?_⟩;subst e;obtain⟨y,hy,hay⟩:=Eb.1 ha;have h1:=((h.2.1 y hy).lt a hay).2.1;have h2:=(hx.lt a (by simpa using hb')).1;omega
theorem bI {α:Type} (l:List α) (i:Nat) (h:i<l.length) (x:α):l.set i x=l.take i++x::l.drop (i+1):=by
 rw[List.set_eq_take_append_cons_drop,Hd h]
theorem Hy.set {O:Nat} {w W w':Aj} {v:Ak} {l:List SkR} {x:SkR} {i:Nat} (h:Hy O w v l) (hi:i<l.length) (hb:Below w.heap.size w W) (hx:Nl w.heap.size W x) (ho:w'.ownsRow O 92 4 v l.length ((l.set i x).flatMap Jb)) (hg:W.grownBy w' v.ownBlock)
  (hO:O<=w.heap.size):Hy O w' v (l.set i x):=by
 have el:∀y∈l,Nl O w' y:=λy hy=>by
  have hk:=h.2.1 y hy;refine hk.same λg lr=>?_;have ad:=(hk.lt g lr).2.1;exact(hg.block g (Bq ad hb.size) (Ne.symm (Vk h.1 hk g lr))).trans (hb.block g ad)
 refine⟨by rw[List.length_set];exact ho,λy hy=>?_,?_⟩
 ·rcases List.mem_or_eq_of_mem_set hy with hy|rfl
  ·exact el y hy
  ·refine(hx.same λg lr=>hg.block g (hx.lt g lr).2.1 λe=>?_).base hO;have h1:=(h.1.lt g e.symm).2;have h2:=(hx.lt g lr).1;omega
 ·have hn:=h.2.2;have e0:l=l.take i++l[i]::l.drop (i+1):=by rw[<-Gn hi,Fc]
  have hold:∀g∈l.flatMap Kl,g<w.heap.size:=λg hg=>by
   obtain⟨y,hy,lr⟩:=Eb.1 hg;exact((h.2.1 y hy).lt g lr).2.1
  rw[bI l i hi];rw[e0]at hn hold;simp only[Bi,Bf,Bp,Bl]at hn hold⊢;obtain⟨a1,⟨a2,a3,a4⟩,a5⟩:=hn;have JT:=λg hg=>(hx.lt g hg).1;refine⟨a1,⟨Xy _,a3,λa ha b hb' e=>?_⟩,λa ha b hb' e=>?_⟩
  ·subst e;have:=JT a ha;have:=hold a (.inr (.inr hb'));omega
  ·subst e;rcases hb' with hb'|hb'
   ·have:=JT a hb';have:=hold a (.inl ha);omega
   ·exact a5 a ha a (.inr hb') rfl
theorem Hy.perm {O:Nat} {w w':Aj} {v:Ak} {l l':List SkR} (h:Hy O w v l) (hp:l'.Perm l) (ho:w'.ownsRow O 92 4 v l'.length (l'.flatMap Jb)) (hg:w.grownBy w' v.ownBlock):Hy O w' v l':=by
 refine⟨ho,λy hy=>?_,(hp.flatMap_right Kl).nodup_iff.2 h.2.2⟩;have hk:=h.2.1 y (hp.mem_iff.1 hy);exact hk.same λg lr=>hg.block g (hk.lt g lr).2.1 (Ne.symm (Vk h.1 hk g lr))
theorem Ba7 (L:List SkR) (i:Nat) (hi:i<L.length) (b:SkR):
  ((((L.flatMap Jb).set (i*4) (Aa Ab b.1.c.x)).set (i*4+1) (Aa Ab b.1.c.y)).set (i*4+2) (Aa Ac b.1.c.q)).set (i*4+3) (Ad b.2.1 b.1.ls.length b.2.2)=(L.set i b).flatMap Jb:=by
 obtain⟨a,ha⟩:=ey (L[i]);have e0:=Oo Jb 4 Le L i 0 hi Gu (⟨⟨b.1.c.x,a.1.c.y,a.1.c.q⟩,a.1.ls⟩,a.2) (Aa Ab b.1.c.x) (by rw[ha];rfl);have e1:=Oo Jb 4 Le (L.set i (⟨⟨b.1.c.x,a.1.c.y,a.1.c.q⟩,a.1.ls⟩,a.2)) i 1 (by simpa using hi) Gu (⟨⟨b.1.c.x,b.1.c.y,a.1.c.q⟩,a.1.ls⟩,a.2) (Aa Ab b.1.c.y) (by rw[Cp];rfl);have e2:=Oo Jb 4 Le (L.set i (⟨⟨b.1.c.x,b.1.c.y,a.1.c.q⟩,a.1.ls⟩,a.2)) i 2 (by simpa using hi) Gu (⟨⟨b.1.c.x,b.1.c.y,b.1.c.q⟩,a.1.ls⟩,a.2) (Aa Ac b.1.c.q) (by rw[Cp];rfl);have e3:=Oo Jb 4 Le (L.set i (⟨⟨b.1.c.x,b.1.c.y,b.1.c.q⟩,a.1.ls⟩,a.2)) i 3 (by simpa using hi) Gu b (Ad b.2.1 b.1.ls.length b.2.2) (by rw[Cp];rfl);rw[List.set_set]at e1 e2 e3;rw[De]at e0;rw[<-e0,<-e1,<-e2,<-e3]
end Go.Proofs.YtlgkpdfieaadaaaGreatDoor
namespace Go.Proofs
open Go.Shelf Go.RowKit
def Tryz.laysSortE_ren:Go.Shelf.Ren:=⟨fun|189=>80|125=>85|257=>140|128=>149|129=>150|294=>179|295=>180|296=>181|297=>182|298=>183|299=>184|216=>185|300=>186|301=>187|328=>238|329=>189|330=>190|331=>239|332=>240|215=>86|343=>282|n=>n,fun|28=>38|3=>3|46=>176|0=>0|51=>251|53=>253|4=>4|183=>245|182=>244|131=>208|5=>5|9=>9|218=>307|222=>109|228=>369|229=>225|n=>n,fun|n=>n⟩
open Tryz in
theorem Tryz.laysSortE:Go.Proofs.Lays.n189 Do Tryz.laysSortE_ren:={
 mixed:=Gw,f125:=lyf func85,f128:=lyf func149,f129:=lyf func150,f189:=lyf func80,f215:=lyf func86,f216:=lyf func185,f257:=lyf func140,f294:=lyf func179,f295:=lyf func180,f296:=lyf func181,f297:=lyf func182,f298:=lyf func183,f299:=lyf func184,f300:=lyf func186,f301:=lyf func187,f328:=lyf func238,f329:=lyf func189,f330:=lyf func190,f331:=lyf func239,f332:=lyf func240,f343:=lyf func282,t0:=underlying0,a0:=isAgg0,z0:=sizeOf0,v0:=zeroValue0,t3:=underlying3,a3:=isAgg3,z3:=sizeOf3,v3:=zeroValue3,t4:=underlying4,a4:=isAgg4,z4:=sizeOf4,v4:=zeroValue4,t5:=underlying5,a5:=isAgg5,z5:=sizeOf5,v5:=zeroValue5,t9:=underlying9,a9:=isAgg9,z9:=sizeOf9,v9:=zeroValue9,t28:=underlying38,a28:=isAgg38,z28:=sizeOf38,v28:=zeroValue38,t46:=underlying176,a46:=isAgg176,z46:=sizeOf176,v46:=zeroValue176,t51:=underlying251,a51:=isAgg251,z51:=sizeOf251,v51:=zeroValue251,t53:=underlying253,a53:=isAgg253,z53:=sizeOf253,v53:=zeroValue253,t131:=underlying208,a131:=isAgg208,z131:=sizeOf208,v131:=zeroValue208,t182:=underlying244,a182:=isAgg244,z182:=sizeOf244,v182:=zeroValue244,t183:=underlying245,a183:=isAgg245,z183:=sizeOf245,v183:=zeroValue245,t218:=underlying307,a218:=isAgg307,z218:=sizeOf307,v218:=zeroValue307,t222:=underlying109,a222:=isAgg109,z222:=sizeOf109,v222:=zeroValue109,t228:=underlying369,a228:=isAgg369,z228:=sizeOf369,v228:=zeroValue369,t229:=underlying225,a229:=isAgg225,z229:=sizeOf225,v229:=zeroValue225}
end Go.Proofs
namespace Go.Proofs.YtlgkpdfieaadaaaGreatDoor
open Go.RowKit
theorem Aj4 {O m c:Nat} {B:Option Ci} (l:List Nat) (w:Aj) (h:w.ownsRow O 3 1 (Ad B m c) m (If l)) (hm:m<=1000000):
  Al Do 80 #[Ad B m c] w λe w'=>e= .returned (.tuple #[])/\∃r:List Nat,r.Perm l/\w'.ownsRow O 3 1 (Ad B m c) m (If r)/\w.grownBy w' (Value.slice B m c).ownBlock:=by
 have hl:l.length=m:=by have:=h.1;simpa[If]using this
 rcases h.2 with⟨h0,rfl⟩|⟨g,cap,cur,r1,r2,r3,r4,r5,r6,r7⟩
 ·obtain rfl:l=[]:=List.eq_nil_of_length_eq_zero hl;refine(Any.slices_Sort_int_none Tryz.laysSortE B c w).mono ?_;rintro e w' ⟨rfl,rfl⟩;exact⟨rfl,[],.refl _,h,Jr _ _⟩
 ·obtain⟨rfl,rfl⟩:B=Af ⟨g,0,Ae⟩/\c=cap:=by simpa using r1
  subst hl;obtain⟨xs,um⟩:∃xs:List Int,l.map Int.ofNat=xs:=⟨_,rfl⟩;have vk:xs.length=l.length:=by rw[<-um];simp
  have hid:If l=xs.map (Value.int .i64):=by rw[<-um];unfold If;rw[Fs];rfl
  have hH:=holds_of_blockI (ss:=xs) r3 (by rw[vk];rw[Db]at r7;exact r7.trans hid);obtain⟨ts,hts⟩:=ey (xs.mergeSort (λx y=>decide (x<=y)));have htl:ts.length=xs.length:=by rw[<-hts,List.length_mergeSort]
  have htp:ts.Perm xs:=by rw[<-hts];exact List.mergeSort_perm _ _
  have fp:(ts.map Int.toNat).Perm l:=by
   have:=htp.map Int.toNat;rw[<-um,Fs]at this
   have e:l.map (Int.toNat∘Int.ofNat)=l:=by
    conv=>rhs;rw[<-List.map_id l]
    exact List.map_congr_left λx _=>rfl
   rw[e]at this;exact this
  have hback:If (ts.map Int.toNat)=ts.map (Value.int .i64):=by
   unfold If;rw[Fs];refine List.map_congr_left λx hx=>?_;have:x∈xs:=htp.mem_iff.1 hx;rw[<-um]at this;obtain⟨y,-,rfl⟩:=Dq.1 this;rfl
  have hb:=Any.slices_Sort_int Tryz.laysSortE g 0 c xs w hH (Au.1 r3).1 Gu;rw[hts,vk]at hb;refine hb.mono ?_;rintro e w' ⟨rfl,n,os,rfl⟩;refine⟨rfl,ts.map Int.toNat,fp,?_,grownBy_sortedI _⟩;rw[hback];have:=ownsRow_sortedI (n:=n) (os:=os) (ts:=ts) (ss:=xs) htl r2 r3 (by rw[vk];exact r4) r5 r6;rw[vk]at this;exact this
end Go.Proofs.YtlgkpdfieaadaaaGreatDoor
namespace Go.Proofs
open Go.Shelf Go.RowKit
def Tryz.laysRev_ren:Go.Shelf.Ren:=⟨fun|112=>124|n=>n,fun|28=>38|3=>3|4=>4|0=>0|n=>n,fun|n=>n⟩
open Tryz in
theorem Tryz.laysRev:Go.Proofs.Lays.n112 Do Tryz.laysRev_ren:={
 mixed:=Gw,f112:=lyf func124,t0:=underlying0,a0:=isAgg0,z0:=sizeOf0,v0:=zeroValue0,t3:=underlying3,a3:=isAgg3,z3:=sizeOf3,v3:=zeroValue3,t4:=underlying4,a4:=isAgg4,z4:=sizeOf4,v4:=zeroValue4,t28:=underlying38,a28:=isAgg38,z28:=sizeOf38,v28:=zeroValue38}
end Go.Proofs
namespace Go.Proofs.YtlgkpdfieaadaaaGreatDoor
open Go.RowKit Go.Sort
theorem Ay4 {O n c:Nat} {A:Option Ci} (l:List Nat) (w:Aj) (h:Jj w O 3 1 A n (If l)) (hm:n<=1000000):
  Al Do 124 #[Ad A n c] w λe w'=>e= .returned (.tuple #[])/\Jj w' O 3 1 A n (If l.reverse)/\w.grownBy w' (A.map (·.block)):=by
 have hl:l.length=n:=by have:=h.1;simpa[If]using this
 rcases h.2 with⟨rfl,rfl⟩|⟨g,cur,rfl,r2,r3,r4,r5⟩
 ·obtain rfl:l=[]:=List.eq_nil_of_length_eq_zero hl;refine(Any.slices_Reverse_int_empty Tryz.laysRev Ae c w).mono ?_;rintro e w' ⟨rfl,rfl⟩;exact⟨rfl,h,Jr _ _⟩
 ·subst hl;obtain⟨xs,um⟩:∃xs:List Int,l.map Int.ofNat=xs:=⟨_,rfl⟩;have vk:xs.length=l.length:=by rw[<-um];simp
  have hid:If l=xs.map (Value.int .i64):=by rw[<-um];unfold If;rw[Fs];rfl
  have SO:If l.reverse=xs.reverse.map (Value.int .i64):=by rw[List.map_reverse,<-hid];unfold If;rw[List.map_reverse]
  rw[Db]at r4 r5;have hH:=holds_of_blockI (ss:=xs) r3 (by rw[vk];exact r5.trans hid);have hb:=Any.slices_Reverse_int Tryz.laysRev g 0 c xs w hH Gu;rw[vk]at hb;refine hb.mono ?_;rintro e w' ⟨rfl,k,rfl⟩;have hg:=grownBy_sortedI (w:=w) (g:=g) (n:=k) (os:=#[]) xs.reverse.toArray;have hh:=heap_sortedI (w:=w) (g:=g) (n:=k) (os:=#[]) xs.reverse.toArray r3;rw[Go.Sort.grow_empty]at hg hh;refine⟨rfl,⟨by simp[If],.inr ⟨g,_,rfl,r2,hh,?_,?_⟩⟩,hg⟩
  ·rw[Db];have:(putCells (Value.int .i64) 0 xs.reverse.toArray cur).size=cur.size:=by simp[putCells]
   omega
  ·have ht:=take_putCellsI cur xs.reverse Hu;rw[SO,Db,<-vk,show xs.length=xs.reverse.length by simp];exact ht
end Go.Proofs.YtlgkpdfieaadaaaGreatDoor
namespace Go.Proofs.YtlgkpdfieaadaaaGreatDoor
open Go.RowKit Go.Shelf
attribute [local go_sem] Oper.semAt_some
def isU (a b:Int) (i e:Nat):Bool:=decide ((nbI a b i e).2=0)&&decide ((i:Int)<(nbI a b i e).1)
def Ul (a b:Int) (j:Nat):List (Nat×Nat):=if isU a b (j/3) (j%3)then[(j/3,j%3)]else[]
def Ka (a b:Int):Nat->List (Nat×Nat)
 |0=>[]
 |j+1=>Ka a b j++Ul a b j
def Kq (a b:Int):List (Nat×Nat):=Ka a b (3*Hg a b)
def qY (u:Nat×Nat):List Ak:=[Aa Ab u.1,Aa Ac u.2]
def Lx (l:List (Nat×Nat)):List Ak:=l.flatMap qY
theorem wP (a b:Int) (i e:Nat) (he:e<3):Ka a b (3*i+(e+1))=Ka a b (3*i+e)++if isU a b i e then[(i,e)]else[]:=by
 show Ka a b (3*i+e)++Ul a b (3*i+e)=_;unfold Ul;rw[show(3*i+e)/3=i by omega,show(3*i+e)%3=e by omega]
theorem Sb (a b:Int):∀j,(Ka a b j).length<=j
 |0=>Am _
 |j+1=>by
  have:=Sb a b j;unfold Ka Ul
  split<;>simp<;>omega
theorem aB (a b:Int) (j:Nat):∀d,(Ka a b j).length<=(Ka a b (j+d)).length
 |0=>Am _
 |d+1=>by
  refine Br (aB a b j d) ?_;show _<=(Ka a b (j+d)++Ul a b (j+d)).length;simp
def Mo (n₀ Bn:Nat) (A B:Aj):Prop:=Below n₀ A B/\B.heap[Bn]? =A.heap[Bn]?
theorem Ve {n₀ Bn:Nat} {A B C:Aj} (h:Mo n₀ Bn A B) (k:Mo n₀ Bn B C):Mo n₀ Bn A C:=⟨h.1.trans k.1,k.2.trans h.2⟩
theorem eU {n₀ Bn:Nat} {w:Aj} (hn:n₀<=w.heap.size) (hB:Bn<w.heap.size) (W:Aj) (l:Nat) (o o':Obj) (hl:w.heap.size<=l) (h:W.heap[l]? =Af o) (hc:o.isCells=false) (hw:o.isWalk=false):Mo n₀ Bn W (W.putObj l o'):=
 ⟨belowK_b hn W l o o' hl h hc hw,World.putObj_heap_other Gu⟩
theorem Vz {W W':Aj} {row:Option Nat} {g:Nat} {cs:Array Ak} {t:Cj} (h:W.heap[g]? =Af (Cn cs t (0,0))) (hg:W.grownBy W' row) (hr:∀r,row=Af r->∃o:Obj,W.heap[r]? =Af o/\o.isCells=false):W'.heap[g]? =Af (Cn cs t (0,0)):=by
 refine(hg.block g (Au.1 h).1 λe=>?_).trans h;obtain⟨o,ho,hc⟩:=hr g e.symm;rw[h]at ho;cases ho;cases hc
theorem dR (W:Aj) (cs:Array Ak) (t:Cj) (j:Nat) (u:Ak) (h:cs.toList[j]? =Af u):(W.alloc (.cells cs t)).cell? ((⟨W.heap.size,0,Ae⟩:Ci).add j)=Af u:=by
 have e:(⟨W.heap.size,0,Ae⟩:Ci).add j=⟨W.heap.size,j,Ae⟩:=by unfold Addr.add;split<;>simp_all
 rw[e,By _ _ j _ _ (0,0) (Bz W _)];simpa using h
theorem Wz {W:Aj} {g:Nat} {cs:Array Ak} {t e:Cj} (h:W.heap[g]? =Af (Cn cs t (0,0))) (IL:t≠e) {base size k:Nat} {v:Ak} {xs:List Ak} (hr:W.ownsRow base e size v k xs):Af g≠v.ownBlock:=by
 rcases hr.2 with⟨rfl,_⟩|⟨g',cap,cur,rfl,_,xp,_⟩
 ·simp[Value.ownBlock]
 ·intro e';obtain rfl:g=g':=by simpa[Value.ownBlock]using e'
  have:=h.symm.trans xp;simp at this;exact IL this.2
theorem Bd6 (l Bn n₀:Nat) (a b:Int) (hs:okS a b=true) (J Jx:List (Nat×Nat)->Aj->Prop) (n:Nat) (hn:3<=n)
  (hY:∀pre x W,J pre W->pre.length<(Kq a b).length->YieldAt Fence.wide (n-1) Do l #[.agg #[Aa Ab (x.1:Nat),Aa Ac (x.2:Nat)]] W λe W'=>
   (e= .returned (.bool true)/\J (pre++[x]) W'/\Mo n₀ Bn W W')∨(e= .returned (.bool false)/\Jx (pre++[x]) W'))
  (W:Aj) (hQ:∀W',Below n₀ W W'->Qt W') (js:W.heap[Bn]? =Af (Cn #[a,b] 25 (0,0))) (vy:n₀<=W.heap.size) (hJ:∀s A B,J s A->Below A.heap.size A B->J s B) (h0:J [] W):
  CallsIn Fence.wide n Do 225 #[.func (.yield l) #[] #[],.pointer (Af ⟨Bn,0,Ae⟩)] W λe W'=>(∃v,e= .returned v)/\
   ((∃ys,ys=Kq a b/\J ys W')∨(∃pre,True/\Jx pre W')):=by
 refine callsIn_of_wp Tryz.func225 rfl trivial ?_ rfl;simp only[Tryz.ntmps225,Fp,En,Cq,Nat.reduceAdd,Nat.reduceSub,Da,Cz,List.push_toArray,Dd,Et,Ep];obtain⟨k1,k2,k3⟩:=Lf hs;have gg:=λw=>Wa a b w hs;obtain⟨k,hk⟩:=ey (Hg a b);rw[hk]at k1 k2 k3 gg;have fd:=λ(id e:Nat) w h=>Ji a b (id:Nat) (e:Nat) w hs (Int.natCast_nonneg e) h;have hU:Kq a b=Ka a b (3*k):=by unfold Kq;rw[hk]
 clear k1 hk;rw[hU]at hY⊢;obtain⟨⟨b0,b1⟩,_⟩:=Hn js;have ad:Bn<W.heap.size:=(Au.1 js).1
 gi_wp2
 refine⟨trivial,λ_=>Gu,(callsIn_wide.2 (gg W)).mono ?_⟩;rintro e w1 ⟨rfl,ci⟩
 gi_wp2
 gi_loopw [9] (λi wr=>∃id:Nat,id<=k/\i= Aa Ab id/\J (Ka a b (3*id)) wr/\Mo n₀ Bn W wr/\W.heap.size<=wr.heap.size) (λi _=>k-(intOf i).toNat)
 case atStart=>exact⟨0,Gk _,rfl,hJ _ _ _ h0 ci,⟨ci.mono vy,ci.block Bn ad⟩,ci.size⟩
 obtain⟨id,hid,rfl,JE,hB,ir⟩:=hrel;by_cases gp:id<k
 ·have q1:(id:Int)<(k:Int):=Gu
  gi_wp2
  gi_loopw [12] (λi wr=>∃e:Nat,e<=3/\i= Aa Ac e/\J (Ka a b (3*id+e)) wr/\Mo n₀ Bn W wr/\W.heap.size<=wr.heap.size) (λi _=>3-(intOf i).toNat)
  case atStart=>exact⟨0,Gu,rfl,JE,hB,ir⟩
  obtain⟨e,he,rfl,hJ1,it,I7⟩:=hrel;by_cases h3:e<3
  ·have q2:(e:Int)<3:=Gu;obtain⟨⟨c0,c1⟩,_⟩:=Hn (it.2.trans js);have hu:=wP a b id e h3;have DO:isU a b id e=(decide ((nbI a b id e).2=0)&&decide ((id:Int)<(nbI a b id e).1)):=rfl;have E5:=fd id e;obtain⟨⟨nn,er⟩,VV⟩:=ey (nbI a b id e);rw[VV]at E5 DO
   gi_wp2
   refine⟨trivial,λ_=>Gu,(callsIn_wide.2 (E5 _ (hQ _ it.1))).mono ?_⟩;rintro en w2 ⟨rfl,aj⟩;have GH:=hJ _ _ _ hJ1 aj;have dl:Mo n₀ Bn W w2:=⟨it.1.trans (aj.mono Gu),(aj.block Bn Gu).trans it.2⟩;have SQ:=Br I7 aj.size;unfold eQ;dsimp only;clear E5 c0 c1 b0 b1 fd hQ hJ gg;by_cases her:er=0
   ·subst her;by_cases zh:(id:Int)<nn
    ·have hI:isU a b id e=true:=by rw[DO];simp[zh]
     rw[hI,Hd rfl]at hu
     have hlen:(Ka a b (3*id+e)).length<(Ka a b (3*k)).length:=by
      have h1:=aB a b (3*id+(e+1)) (3*k-(3*id+(e+1)));rw[show 3*id+(e+1)+(3*k-(3*id+(e+1)))=3*k by omega,hu]at h1;simp at h1;omega
     obtain⟨fn,tmps,assign,body,hy,hR⟩:=hY _ (id,e) w2 GH hlen;dsimp only at hy hR;clear hY DO hI hlen
     gi_wp2
     refine⟨λ_=>Gu,hR.mono ?_⟩;rintro e3 W3 (⟨rfl,ER,FD⟩|⟨rfl,uw⟩)
     ·rw[<-hu]at ER;have KO:Mo n₀ Bn W W3:=⟨dl.1.trans FD.1,FD.2.trans dl.2⟩;have I8:=Br SQ FD.1.size;clear hy hR GH hJ1 JE FD
      gi_wp2
      exact⟨⟨e+1,Gu,by go_num,ER,KO,I8⟩,by simp[intOf];omega⟩
     ·clear hy hR GH hJ1 JE
      gi_wp2
      refine Ai (results_none rfl _ _ _) rfl ?_;exact⟨⟨_,rfl⟩,.inr ⟨_,trivial,uw⟩⟩
    ·have hI:isU a b id e=false:=by rw[DO];simp[zh]
     rw[hI,Gz Gx,Fe]at hu;rw[<-hu]at GH;clear hY DO hI
     gi_wp2
     refine⟨λ_ h=>(by cases h),?_⟩
     gi_wp2
     exact⟨⟨e+1,Gu,by go_num,GH,dl,SQ⟩,by simp[intOf];omega⟩
   ·have hI:isU a b id e=false:=by rw[DO];simp[her]
    rw[hI,Gz Gx,Fe]at hu;rw[<-hu]at GH;clear hY DO hI
    gi_wp2
    refine⟨λ_ h=>(by cases h),?_⟩
    gi_wp2
    exact⟨⟨e+1,Gu,by go_num,GH,dl,SQ⟩,by simp[intOf];omega⟩
  ·obtain rfl:e=3:=Gu
   gi_wp2
   exact⟨⟨id+1,Gu,by go_num,by rw[show 3*(id+1)=3*id+3 by omega];exact hJ1,it,I7⟩,by simp[intOf];omega⟩
 ·obtain rfl:id=k:=Gu;have q1:¬(id:Int)<(id:Int):=Gu
  gi_wp2
  go_end0
  exact⟨⟨_,rfl⟩,.inl JE⟩
theorem Br9 (a b:Int) (n:Nat) (w:Aj):
  CallsIn Fence.wide n Do 169 #[.agg #[a,b]] w λe w'=>e= .returned (.func (.func 225) #[] #[.pointer (Af ⟨w.heap.size,0,Ae⟩)])/\w'=w.alloc (.cells #[a,b] 25):=by
 refine callsIn_of_wp Tryz.func169 rfl trivial ?_ rfl;simp only[Tryz.ntmps169,Fp,En,Cq,Nat.reduceAdd,Nat.reduceSub,Da,Cz,List.push_toArray,Dd,Et,Ep]
 gi_wp2
 go_ret;exact⟨rfl,rfl⟩
theorem zX (a b:Int) (hs:okS a b=true) (n:Nat) (hn:3<=n) (Bn n₀:Nat) (w:Aj) (vy:n₀<=w.heap.size) (hQ:∀W',Below n₀ w W'->Qt W') (js:w.heap[Bn]? =Af (Cn #[a,b] 25 (0,0))):
  SeqStopsK Fence.wide n Do 225 #[.pointer (Af ⟨Bn,0,Ae⟩)] (λx:Nat×Nat=>#[Value.agg #[Aa Ab (x.1:Nat),Aa Ac (x.2:Nat)]]) (Mo n₀ Bn) (λys=>ys=Kq a b) (λ_=>True) (Kq a b).length w:=λl J Jx W hW hJ _ hY h0=>
 Bd6 l Bn n₀ a b hs J Jx n hn hY W (λW' h=>hQ W' ((hW.mono vy).trans h)) (kept hW js (Au.1 js).1) (Br vy hW.size) (λs A B hs hb=>hJ s A B Ae hs ⟨hb.os,hb.tape,hb.output,hb.size,λk hk _=>hb.block k hk⟩ Gx) h0
theorem eP:(Tryz.prog.info? 194).map (λi=>(i.zero,i.size,i.bytes))=Af (Af (.agg #[Aa Ab 0,Aa Ac 0]),2,16):=Gw
theorem Ap2 (A:Option Ci) (n c:Nat) (w:Aj) (h:n<=c) (CV:c<=maxLen):
  Al Do 170 #[Ad A n c] w (Gy (Ad A n n) w):=by
 unfold maxLen at CV;go_enter Tryz.func170,Tryz.ntmps170
 go_wp2
 go_ret;exact⟨rfl,Ag _ _⟩
def An2 (l:List (Nat×Nat)) (w:Aj) (en:Ending) (w':Aj):Prop:=
 ∃A,en= .returned (.tuple #[Ad A l.length l.length,Aa Ab 0])/\Jj w' w.heap.size 194 2 A l.length (Lx l)/\Below w.heap.size w w'
theorem wQ (l:List (Nat×Nat)):(Lx l).length=l.length*2:=by
 induction l with
 |nil=>rfl
 |cons u l ih=>simp only[Lx,Bf,Bh,En]at ih⊢;rw[ih];simp[qY];omega
theorem cQ (l:List (Nat×Nat)) (x:Nat×Nat):Lx (l++[x])=Lx l++[Aa Ab x.1,Aa Ac x.2]:=by simp[Lx,qY]
theorem Bc6 (a b:Int) (w:Aj) (hs:okS a b=true) (hQ:Qt w):Al Do 115 #[.agg #[a,b]] w (An2 (Kq a b) w):=by
 refine(callsIn_wide (n:=9)).1 ?_;obtain⟨k1,k2,k3⟩:=Lf hs;have lq:=Ju a b (w.alloc (.cells #[a,b] 25));have LM:ec (okS a b) 1=0:=by rw[hs];rfl
 rw[LM]at lq
 have hlen:(Kq a b).length<=3072:=by
  have:=Sb a b (3*Hg a b);unfold Kq;omega
 obtain⟨i0,hi,dp,ap,ca⟩:=info_parts eP;clear k1 k2 k3 LM;refine callsIn_of_wp_marks Tryz.func115 rfl trivial ?_ rfl;simp only[Tryz.ntmps115,Fp,En,Cq,Nat.reduceAdd,Nat.reduceSub,Da,Cz,List.push_toArray,Dd,Et,Ep]
 gi_wp2
 refine⟨trivial,(callsIn_wide.2 lq).mono ?_⟩;rintro e w1 ⟨rfl,ci⟩;have hN1:=kept ci (Bz w (.cells #[a,b] 25)) Gx;have it:Below w.heap.size w w1:=((Ag w.heap.size w).alloc (Am _) (.cells #[a,b] 25)).trans (ci.mono Gx);have GY:w.heap.size<w1.heap.size:=by have:=ci.size;simp at this;omega
 obtain⟨N,hN⟩:=ey w.heap.size;obtain⟨N5,JF⟩:=ey w1.heap.size;rw[hN]at hN1 it GY⊢;rw[JF]at GY;obtain⟨⟨a0,a1⟩,_⟩:=Hn hN1;have hO:=Boxed.new w1 152 (Ad Ae 0 0);have hA:=hN1;rw[JF]at hO;have HW:=Ah hN;clear lq ci hN
 gi_wp2
 refine⟨trivial,(Br9 a b 8 _).mono ?_⟩;rintro e w' ⟨rfl,rfl⟩
 gi_wp2
 have dl:Below N w ((w1.alloc (.cells #[Ad Ae 0 0] 152)).alloc (.cells #[a,b] 25)):=(it.alloc Gu _).alloc Hu _;have OH:=hO.alloc (.cells #[a,b] 25);have hz:((w1.alloc (.cells #[Ad Ae 0 0] 152)).alloc (.cells #[a,b] 25)).heap.size=N5+2:=by simp[JF]
 have hS:=Bz (w1.alloc (.cells #[Ad Ae 0 0] 152)) (.cells #[a,b] 25);simp only[World.size_alloc,JF]at hS;generalize (w1.alloc (.cells #[Ad Ae 0 0] 152)).alloc (.cells #[a,b] 25)=W0 at dl OH hz hS⊢;obtain⟨Bn,js⟩:=ey (N5+1);rw[js]at hS;clear hO hA hN1 a0 a1 it;rw[js];clear hi;obtain⟨i0,hi,dp,ap,ca⟩:=info_parts eP;have sc:∀W',Below N W0 W'->Qt W':=λW' h=>hQ.below (by rw[HW.out];exact dl.trans h);have LE:Bn<W0.heap.size:=Gu
 refine wpIn_rangeFunc_ownH rfl Ha (gf:=225) (lb:=#[.pointer (Af ⟨Bn,0,Ae⟩)]) rfl trivial (enters_of Tryz.func225 Gw rfl)
  (zX a b hs 8 Ha Bn N W0 Gu sc hS) Ve (eU Gu LE) (Ag _ _) (λ_=>rfl)
  (λpre W=>(∃v,Boxed W N5 152 v/\W.ownsRow N 194 2 v pre.length (Lx pre)/\True)/\(W.heap[Bn]? =Af (Cn #[a,b] 25 (0,0))/\Below N w W))
  (λ_ _ _=>False)
  (OwnFrom.and (Own.from (holdsRow_own N N5 152 194 2 (λpre=>pre.length) (λpre=>Lx pre) (λ_ _=>True)) _) (OwnFrom.and (λ_ _ _ _ hs hg hr=>Vz hs hg (λr e=>(hr r e).2)) (ownFrom_below (by rw[HW.out];exact Am _) Gu)))
  (λ_ _ _ _ _ hs _ _=>hs)
  ⟨⟨_,OH,World.ownsRow_nil _ _ _ _,trivial⟩,hS,dl⟩
  (λx a' W=>∃Bx,W.heap[Bx]? =Af (Cn #[Aa Ab (x.1:Nat),Aa Ac (x.2:Nat)] 194 (0,0))/\a'={tmps:=#[.agg #[a,b],.pointer (Af ⟨N,0,Ae⟩),Ad Ae 0 0,Aa Ab 0,Aa Ab 0,.pointer (Af ⟨N5,0,Ae⟩),.pointer (Af ⟨Bx,0,Ae⟩),.agg #[a,b],Aa Ab 0,Aa Ab 0,.bool false,undef,.agg #[a,b],.func (.func 225) #[] #[.pointer (Af ⟨Bn,0,Ae⟩)],.agg #[Aa Ab (x.1:Nat),Aa Ac (x.2:Nat)],undef,undef,undef,undef,undef,undef],defers:=[]})
  (λx a' _ X Y row hs hg hr=>by obtain⟨Bx,h1,h2⟩:=hs;exact⟨Bx,Vz h1 hg (λr e=>(hr r e).2),h2⟩)
  ?assign ?body ?done ?stop
 case assign=>
  rintro l pre x W K ⟨⟨v,hv,ag,_⟩,uy,hB⟩ hK;have FF:=hB.size;rw[HW.out]at FF
  gi_wp2
  have ct:=(Ag N W).alloc FF (.cells #[Aa Ab (x.1:Nat),Aa Ac (x.2:Nat)] 194);exact hK _ _ ((KeepsOthers.alloc _ _).from _) ⟨ct,Eg W _ Bn (Au.1 uy).1⟩ ⟨⟨v,hv.alloc _,ag.alloc _,trivial⟩,(Eg W _ Bn (Au.1 uy).1).trans uy,hB.trans ct⟩ ⟨W.heap.size,Bz W _,rfl⟩
 case body=>
  rintro l pre x a' W hl ⟨r,hr⟩ ⟨⟨v,hv,ag,_⟩,uy,hB⟩ ⟨Bx,hx,rfl⟩ ad;have hc:=hv.cell;obtain⟨⟨x0,x1⟩,_⟩:=Hn hx;have FF:=hB.size;rw[HW.out]at FF;have on:=dR W #[Value.int .i64 (x.1:Nat),Value.int .u8 (x.2:Nat)] 194;have HB:=Ah hB;have ig:pre.length+1<=maxLen:=by unfold maxLen;omega
  clear hB sc dl OH hS
  gi_wp2_with (gi_at_builtin;refine wpListIn_append_own _ rfl _ _ 152 rfl N 194 i0 _ 2 16 Tryz.underlying152 hi dp ap ca rfl Ha _ _ _ rfl (ag.alloc _) ⟨W.heap.size,0,Ae⟩ 1 1 [Aa Ab (x.1:Nat),Aa Ac (x.2:Nat)] rfl rfl on (by simp[Value.oneCell']) ig Gu Hu ?_;intro v' w1 ak qk _;obtain⟨g',KM,rfl⟩:=ownsRow_succ ak;obtain⟨km,tr,ii,DP,aj⟩:=hv.appended Ha ag FF Gu ak qk;have kh:=km.cell;have ze:=km.frozen)
  have DG:=(Dp w1 ⟨N5,0,Ae⟩ (Ad (Af ⟨g',0,Ae⟩) (pre.length+1) KM) Bn (by show Bn≠N5;omega)).trans ((qk.block Bn (by have:=(Au.1 uy).1;simp;omega) (Wz uy Ha ag)).trans (Eg W _ Bn (Au.1 uy).1))
  have FO:(w1.setCell ⟨N5,0,Ae⟩ (Ad (Af ⟨g',0,Ae⟩) (pre.length+1) KM)).ownsRow N 194 2 (Ad (Af ⟨g',0,Ae⟩) (pre.length+1) KM) (pre++[x]).length (Lx (pre++[x])):=by
   rw[cQ,Bh];exact ii
  exact⟨DP.from _,⟨aj,DG⟩,⟨_,tr,FO⟩,DG.trans uy,HB.out.trans aj⟩
 case done=>
  rintro D ys W hD rfl ⟨⟨v,hv,ag,_⟩,uy,hB⟩ hK;have hc:=hv.cell;obtain⟨A,c,rfl,hA,xy,ia⟩:=Mi ag
  gi_wp2
  refine⟨trivial,(callsIn_wide.2 (Ap2 A _ c W xy ia)).mono ?_⟩;rintro e w9 ⟨rfl,bh⟩;have UW:=(bh.block D (Au.1 hK).1).trans hK;have bo:=(Jj.of_own ag).below bh;have uu:=hB.trans (bh.mono (Br (by rw[HW.out];exact Am _) hB.size));clear ag hc hv hB bh hK
  gi_wp2
  refine⟨Gx,.inl ⟨_,_,rfl,run_takeDeferred UW,?_⟩⟩;have hDN:N<=D:=Gu
  have mh:Jj (w9.putObj D (.deferred Ae)) N 194 2 A (Kq a b).length (Lx (Kq a b)):=by
   refine⟨bo.1,?_⟩;rcases bo.2 with h0|⟨g,cur,r1,r2,r3,r4⟩
   ·exact .inl h0
   ·exact .inr ⟨g,cur,r1,r2,(World.putObj_heap_other (λe=>by subst e;rw[UW]at r3;cases r3)).trans r3,r4⟩
  exact⟨_,by simp[results,Tryz.results115,go_sem],A,rfl,by rw[HW.out];exact mh,by rw[HW.out];exact uu.trans (belowK_b (w:=W0) Gu w9 D _ _ Gu UW rfl rfl)⟩
 case stop=>
  rintro D c pre W _ _ h _;exact h.elim
end Go.Proofs.YtlgkpdfieaadaaaGreatDoor
namespace Go.Proofs.YtlgkpdfieaadaaaGreatDoor
structure Sm where
 a:Cl
 b:Cl
 ps:List (Nat×Nat)
 ls:List (Nat×Nat×Nat)
 es:List Nat
deriving DecidableEq
def Sm.none (a b:Cl):Sm:=⟨a,b,[],[],[]⟩
def Qw (a b:Cl) (f:Sm->Sm):List Sm->List Sm
 |[]=>[f (Sm.none a b)]
 |s::r=>if s.a=a/\s.b=b then f s::r else s::Qw a b f r
def Sg (c:Cl) (e:Nat):Cl×Int:=(⟨(nbr c.x c.y c.q e).1,(nbr c.x c.y c.q e).2.1,(nbr c.x c.y c.q e).2.2.1.toNat⟩,(nbr c.x c.y c.q e).2.2.2)
def Qh (l:List Stk):List (Nat×Nat):=l.flatMap λx=>x.ls.zipIdx
def Yv (n:Nat) (p:List (Nat×Nat)):List Nat:=p.foldl (λh q=>h.set q.1 q.2) (Ba n 0)
structure Lk where
 a:Int
 b:Int
 cr:List Cr
 ms:List Mv
 is:List Cl
 hs:List Nat
def Lk.other (k:Lk) (id e:Nat):Cl:=(Pv (k.ms.getD id mv0) (Sg (Hf k.a id) e).1).1
def Lk.img (k:Lk) (id:Nat):Cl:=k.is.getD id cl0
def Lk.add (k:Lk) (id e:Nat) (s:Sm):Sm:=
 if(nbI k.a k.b id e).2≠0 then{s with es:=s.es++[id]}
 else if(nbI k.a k.b id e).1<id then s
 else
  let n:=(nbI k.a k.b id e).1.toNat
  let side:=if k.img id=s.b then 1 else 0
  if Hm k.cr id e=0 then{s with ps:=s.ps++[if side=0 then (id,n)else (n,id)]}
  else{s with ls:=s.ls++[if k.hs.getD id 0<k.hs.getD n 0 then (side,id,n)else (side,n,id)]}
def Lk.key (k:Lk) (id e:Nat):Cl×Cl:=if 0<Kc (k.img id) (k.other id e)then (k.other id e,k.img id)else (k.img id,k.other id e)
def Lk.meet (k:Lk) (id e:Nat) (l:List Sm):List Sm:=Qw (k.key id e).1 (k.key id e).2 (k.add id e) l
def Lk.seamsTo (k:Lk):Nat->List Sm
 |0=>[]
 |j+1=>k.meet (j/3) (j%3) (k.seamsTo j)
def Lk.seams (k:Lk):List Sm:=k.seamsTo (3*Hg k.a k.b)
def Ow (a b:Int) (cr:List Cr) (root:Mv) (l:List Stk):Int:=
 if(Ia a b cr root).2≠0 then (Ia a b cr root).2
 else if chkS (Hg a b) l≠0 then chkS (Hg a b) l
 else if l.any λx=>x.ls.any λid=>decide ((Ia a b cr root).1.2.getD id cl0≠x.c)then 6
 else if l.any λx=>[0,1,2].any λe=>decide ((Sg x.c e).2≠0)then 3
 else 0
def eV (a b:Int) (cr:List Cr) (root:Mv) (l:List Stk):Lk:=
 ⟨a,b,cr,(Ia a b cr root).1.1,(Ia a b cr root).1.2,Yv (Hg a b) (Qh l)⟩
def lN (side:Nat) (p:Nat×Nat):Nat:=if side=0 then p.1 else p.2
def Ik (ls:List Nat) (s:Sm) (side:Nat):List Int:=s.ps.map λp=>Jg ls (lN side p)
def iM (ls:List Nat) (s:Sm) (side:Nat):List (Int×Int):=(s.ls.filter λx=>decide (x.1=side)).map λx=>(Jg ls x.2.1,Jg ls x.2.2)
def mm (p:Int×Int):Int×Int:=(min p.1 p.2,max p.1 p.2)
def Te (ls:List Nat) (s:Sm) (side:Nat):List (Int×Int):=(iM ls s side).map mm
def Oq (ls:List Nat) (s:Sm) (side:Nat):Bool:=(Ik ls s side).all (λh=>decide (0<=h))&&(iM ls s side).all (λx=>decide (0<=x.1)&&decide (0<=x.2))
def Oy (x y:Int×Int):Bool:=(decide (x.1<y.1)&&decide (y.1<x.2)&&decide (x.2<y.2))||(decide (y.1<x.1)&&decide (x.1<y.2)&&decide (y.2<x.2))
def Mz (t:List Int) (l:List (Int×Int)):Bool:=l.any λx=>(t.any λh=>decide (x.1<h)&&decide (h<x.2))||l.any (Oy x)
def Qe (t u:List Int):Bool:=(t.zip u).any λp=>(t.zip u).any λq=>decide (p.1<q.1)&&decide (q.2<p.2)
def Ke (l:List Stk) (s:Sm):Bool:=
 !Oq (atF l s.a) s 0|| !Oq (atF l s.b) s 1||(s.ls.any λx=>decide (1<x.1))
  ||Mz (Ik (atF l s.a) s 0) (Te (atF l s.a) s 0)||Mz (Ik (atF l s.b) s 1) (Te (atF l s.b) s 1)
  ||Qe (Ik (atF l s.a) s 0) (Ik (atF l s.b) s 1)
def Mr (a b:Int) (x:Nat×Nat×Nat):Nat×Nat:=match([0,1,2]:List Nat).find? λ(e:Nat)=>decide (nbI a b ((min x.2.1 x.2.2:Nat):Int) (e:Int)=(((max x.2.1 x.2.2:Nat):Int),(0:Int)))with
 |some e=>(min x.2.1 x.2.2,e)
 |none=>(0,0)
def iK (up:List Bool) (x:Nat×Nat×Nat):Int:=if up.getD x.2.2 false then 1 else 2
def Iz (a b:Int) (cr:List Cr) (up:List Bool) (x:Nat×Nat×Nat):Bool:=
 decide (Hm cr (Mr a b x).1 (Mr a b x).2≠3)&&decide (Hm cr (Mr a b x).1 (Mr a b x).2≠iK up x)
structure St where
 a:Int
 b:Int
 cr:List Cr
 root:Mv
 l:List Stk
def St.chk (s:St):Int:=
 if Ow s.a s.b s.cr s.root s.l≠0 then Ow s.a s.b s.cr s.root s.l
 else if(eV s.a s.b s.cr s.root s.l).seams.any (Ke s.l)then 12
 else if(eV s.a s.b s.cr s.root s.l).seams.any λx=>x.ls.any (Iz s.a s.b s.cr (upF s.a s.b s.cr s.root).1)then 13
 else 0
def oN (x:Stk):List Stk->List Stk
 |[]=>[x]
 |y::r=>if Kc x.c y.c<=0 then x::y::r else y::oN x r
def Nq:List Stk->List Stk
 |[]=>[]
 |x::r=>oN x (Nq r)
def Nd (x:Stk):List Stk->List Stk
 |[]=>[x]
 |y::r=>if y.c=x.c then⟨y.c,y.ls++x.ls⟩::r else y::Nd x r
def Kd (l h:List Stk):List Stk:=Nq ((l++h).foldl (λo x=>if x.ls.isEmpty then o else Nd x o) [])
def Jq (a b:Int):St:=⟨a,b,[],mv0,Kd [] ((Dr (Hg a b)).map λid=>⟨(Ia a b [] mv0).1.2.getD id cl0,[id]⟩)⟩
def Lv (s:St) (k c:Int):List (Nat×Nat):=
 (Kq s.a s.b).filter λu=>decide (Ir k c ((Ia s.a s.b s.cr s.root).1.2.getD u.1 cl0)≠Ir k c ((Ia s.a s.b s.cr s.root).1.2.getD (nbI s.a s.b u.1 u.2).1.toNat cl0))&&decide (Hm s.cr u.1 u.2=0)
def Ad6 (x:Cr):List Cr->List Cr
 |[]=>[x]
 |y::r=>if Kv x.c x.e y.c y.e<=0 then x::y::r else y::Ad6 x r
def Oc:List Cr->List Cr
 |[]=>[]
 |x::r=>Ad6 x (Oc r)
structure Fd where
 k:Int
 c:Int
 side:Nat
 over:Bool
deriving DecidableEq
def Rx (m:Mv) (l:List Stk):Option (List Stk):=if l.all λx=>decide ((Li m x.c).2=0)then Af (Nq (l.map λx=>⟨(Li m x.c).1,x.ls⟩))else Ae
def Mj (l:List Stk):List Stk:=l.map λx=>⟨x.c,x.ls.reverse⟩
def Hv (k c:Int) (side:Nat) (l:List Stk):List Stk:=l.filter λx=>decide (Ir k c x.c=side)
def St.img (s:St) (id:Nat):Cl:=(Ia s.a s.b s.cr s.root).1.2.getD id cl0
def St.fold (s:St) (f:Fd):Int×Option St:=
 if Qk f.k f.c f.side=false then (1,Ae)
 else if(Lv s f.k f.c).isEmpty then (7,Ae)
 else match Rx (ofL f.k f.c) (Mj (Hv f.k f.c f.side s.l))with
  |none=>(3,Ae)
  |some mv=>
   let root:=if Ir f.k f.c (s.img 0)=f.side then Vt s.root (ofL f.k f.c)else (s.root,0)
   if root.2≠0 then (3,Ae)
   else
    let stay:=Hv f.k f.c (1-f.side) s.l
    let cr:=Oc (s.cr++(Lv s f.k f.c).map λu=>⟨u.1,u.2,if(upF s.a s.b s.cr s.root).1.getD u.1 false=f.over then 2 else 1⟩)
    let t:St:=⟨s.a,s.b,cr,root.1,if f.over then Kd stay mv else Kd mv stay⟩
    if t.chk=0 then (0,Af t)else (3,Ae)
def St.do (s:St) (f:Fd):Int×Option St:=if s.chk≠0 then (s.chk,Ae)else s.fold f
open Go.RowKit
theorem Hy.row {O:Nat} {w w':Aj} {v:Ak} {l1 l2:List SkR} {x y:SkR} (h:Hy O w v (l1++x::l2)) (hc:Jb y=Jb x) (hA:y.2=x.2) (hl:y.1.ls.length=x.1.ls.length) (hr:Jj w' O 3 1 y.2.1 y.1.ls.length (If y.1.ls))
  (hg:w.grownBy w' (x.2.1.map (·.block))):Hy O w' v (l1++y::l2):=by
 obtain⟨h1,h2,h3⟩:=h;have hx:=h2 x Gx;have JT:∀g,x.2.1.map (·.block)=Af g->g∈Kl x:=λg hg=>by unfold Kl;rw[hg];simp
 have hn:=h3;simp only[Bi,Bf,Bp,Bl]at hn;obtain⟨n1,⟨n2,n3,n4⟩,n5⟩:=hn
 have jc:∀u∈l1++l2,Nl O w' u:=λu hu=>by
  have WH:u∈l1++x::l2:=by
   rcases Bl.1 hu with h|h
   ·simp[h]
   ·simp[h]
  refine(h2 u WH).same λg hgu=>hg.block g ((h2 u WH).lt g hgu).2.1 λe=>?_;have DL:=JT g e.symm;rcases Bl.1 hu with h|h
  ·exact n5 g (Eb.2 ⟨u,h,hgu⟩) g (.inl DL) rfl
  ·exact n4 g DL g (Eb.2 ⟨u,h,hgu⟩) rfl
 have hb:Kl y=Kl x:=by unfold Kl;rw[hA]
 refine⟨?_,λu hu=>?_,?_⟩
 ·have hk:=Vm h1 hg (.inr λe=>by
   rcases hr.2 with⟨h0,-⟩|⟨g,cur,h0,-⟩
   ·rw[hA]at h0;rw[h0]at e;rcases h1.2 with⟨rfl,h00⟩|⟨g',_,_,rfl,_⟩
    ·simp at h00
    ·cases e
   ·rw[hA]at h0;have DL:=JT g (by rw[h0];rfl);refine Vk h1 hx g DL ?_;rw[e,h0];rfl)
  simpa[hc]using hk
 ·rcases Bl.1 hu with hu|hu
  ·exact jc u (by simp[hu])
  ·rcases Bk.1 hu with rfl|hu
   ·refine⟨?_,?_,?_,hr⟩
    ·rw[hA,hl];exact hx.1
    ·rw[hA,hl];exact hx.2.1
    ·rw[hA];exact hx.2.2.1
   ·exact jc u (by simp[hu])
 ·simp only[Bi,Bf,hb]at h3⊢;exact h3
def skZ:SkR:=(⟨cl0,[]⟩,(Ae,0))
theorem Zb:(Tryz.prog.info? 92).map (λi=>(i.zero,i.size,i.bytes))=Af (Af (.agg #[Aa Ab 0,Aa Ab 0,Aa Ac 0,Ad Ae 0 0]),4,48):=Gw
theorem Au1 (k:Nat):madeCells #[Aa Ab 0,Aa Ab 0,Aa Ac 0,Ad Ae 0 0] (k*4)=((Ba k skZ).flatMap Jb).toArray:=by
 have hlen:((Ba k skZ).flatMap Jb).length=k*4:=by rw[Ks Jb 4 Le,Ff]
 apply Array.ext';apply List.ext_getElem?;intro j;by_cases hj:j<k*4
 ·obtain⟨i,f,hf,rfl⟩:∃i f,f<4/\j=i*4+f:=⟨j/4,j%4,Gu,Gu⟩;have hi:i<k:=Gu;have h1:((Ba k skZ).flatMap Jb)[i*4+f]? =(Jb ((Ba k skZ)[i]'(by simpa using hi)))[f]? :=Iv Jb 4 Le _ i f (by simpa using hi) hf;rw[h1];have h3:f=0∨f=1∨f=2∨f=3:=Gu;have hm:(i*4+f)%4=f:=Gu;simp[madeCells,hj,hm];rcases h3 with rfl|rfl|rfl|rfl<;>rfl
 ·rw[Ei (by simp[madeCells];omega),Ei (by rw[hlen];omega)]
theorem aT (k:Nat) (hk:k<=100000) (W:Aj):(Instr.makeSlice 31 (Aa Ab k) (Aa Ab k)).run Do W= .ok (Ad (Af ⟨W.heap.size,0,Ae⟩) k k) (W.alloc (.cells ((Ba k skZ).flatMap Jb).toArray 92)):=by
 obtain⟨i,hi,hz,hs,hb⟩:=info_parts Zb;have h:=run_make (P:=Do) W 31 92 i _ Tryz.underlying31 hi hz .i64 .i64 k k Gu Gu (by rw[hb];omega) Gu;rw[h];simp only[Eu,hs];have e:(Value.agg #[Aa Ab 0,Aa Ab 0,Aa Ac 0,Ad Ae 0 0]).cells= #[Aa Ab 0,Aa Ab 0,Aa Ac 0,Ad Ae 0 0]:=by rfl
 rw[e,Au1]
theorem Hy.made (w:Aj) (k:Nat) (hk:k<=100000):Hy w.heap.size (w.alloc (.cells ((Ba k skZ).flatMap Jb).toArray 92)) (Ad (Af ⟨w.heap.size,0,Ae⟩) k k) (Ba k skZ):=by
 have hlen:((Ba k skZ).flatMap Jb).length=k*4:=by rw[Ks Jb 4 Le,Ff]
 refine⟨⟨by rw[hlen,Ff],.inr ⟨w.heap.size,k,_,by rw[Ff],Am _,Bz w _,by rw[Ff];exact Am _,by unfold maxLen;omega,by simp[hlen],?_⟩⟩,λx hx=>?_,?_⟩
 ·rw[Ff,<-hlen];exact List.take_length
 ·obtain⟨-,rfl⟩:=List.mem_replicate.1 hx;exact⟨.inl ⟨rfl,rfl,rfl⟩,Am _,Gk _,rfl,.inl ⟨rfl,rfl⟩⟩
 ·have:(Ba k skZ).flatMap Kl=[]:=by
   rw[List.flatMap_eq_nil_iff];intro x hx;obtain⟨-,rfl⟩:=List.mem_replicate.1 hx;rfl
  rw[this];exact List.nodup_nil
def Am5 (l:List Stk) (w:Aj) (e:Ending) (w':Aj):Prop:=
 ∃A c zl,e= .returned (Ad A l.length c)/\Hy w.heap.size w' (Ad A l.length c) zl/\zl.map (·.1)=l/\Below w.heap.size w w'
theorem Zl {O GO n c:Nat} {wr W:Aj} {L:List SkR} {x:SkR} {i:Nat} (h:Hy O wr (Ad (Af ⟨GO,0,Ae⟩) n c) L) (hi:i<L.length) (hb:Below wr.heap.size wr W) (hx:Nl wr.heap.size W x) (hO:O<=wr.heap.size):
  (∀f,f<4->∃u,W.cell? ⟨GO,i*4+f,Ae⟩=Af u)/\(∀j,W.frozen? ⟨GO,j,Ae⟩=false)/\
   Hy O ((((W.setCell ⟨GO,i*4,Ae⟩ (Aa Ab x.1.c.x)).setCell ⟨GO,i*4+1,Ae⟩ (Aa Ab x.1.c.y)).setCell ⟨GO,i*4+2,Ae⟩ (Aa Ac x.1.c.q)).setCell ⟨GO,i*4+3,Ae⟩ (Ad x.2.1 x.1.ls.length x.2.2)) (Ad (Af ⟨GO,0,Ae⟩) n c) (L.set i x):=by
 have hn:n=L.length:=by
  obtain⟨A,c',e,-⟩:=Hw h.1;simp at e;exact e.2.1
 subst hn;have hk:=Hx h.1 (Am _) hb;have hlen:=Ks Jb 4 Le L;have be:=Rd.of_own hk;obtain⟨b,o,e,-,hc⟩:=be.2 Gu;obtain⟨rfl,rfl⟩:GO=b/\0=o:=by simpa using e
 have s1:=Kx hk (Jr W (Af GO)) (i*4) (Aa Ab x.1.c.x);have s2:=Kx s1.1 s1.2 (i*4+1) (Aa Ab x.1.c.y);have s3:=Kx s2.1 s2.2 (i*4+2) (Aa Ac x.1.c.q);have s4:=Kx s3.1 s3.2 (i*4+3) (Ad x.2.1 x.1.ls.length x.2.2);rw[Ba7 L i hi x]at s4;refine⟨λf hf=>?_,Ti hk,h.set hi hb hx s4.1 s4.2 hO⟩;have hl:i*4+f<(L.flatMap Jb).length:=by rw[hlen];omega
 have:=hc (i*4+f) _ (Aw hl);rw[Bt]at this;exact⟨_,this⟩
theorem Ai7 (l:List Stk) (k:Nat) (h:k<l.length):Mj (l.take (k+1))=Mj (l.take k)++[⟨l[k].c,l[k].ls.reverse⟩]:=by
 unfold Mj;rw[Bc h,Ey];rfl
theorem qK (A:Option Ci) (l:List Stk) (n cc:Nat) (w:Aj) (hn:n=l.length) (h:Hz w A l) (hl:n<=100000) (ij:∀x∈l,x.ls.length<=100000):
  Al Do 70 #[Ad A n cc] w (Am5 (Mj l) w):=by
 have UC:=Ah (λ(w':Aj) (hb:Below w.heap.size w w')=>h.below hb);have HN:=Ah hn;have uq:=Ah ij;have uf:=aT n hl w;have BI:=Hy.made w n hl;have lw:=(Ag w.heap.size w).alloc (Am _) (.cells ((Ba n skZ).flatMap Jb).toArray 92);clear hn h ij;go_enter Tryz.func70,Tryz.ntmps70;go_upto_region 2 with fail;obtain⟨GO,pj⟩:=ey w.heap.size;have TP:=Ah pj;rw[pj]at BI
 try rw[pj]
 generalize w.alloc _=W0 at BI lw⊢;have XV:Hid (Hy w.heap.size W0 (Ad (Af ⟨GO,0,Ae⟩) n n) ([]++Ba (n-0) skZ)):=Ah (by rw[pj];exact BI);have tw:=Ah lw;clear uf pj BI lw;go_wp2
 go_loopw [11] (λtu wr=>∃k:Nat,k<=n/\tu= Aa Ab k/\Hid (∃zl:List SkR,zl.map (·.1)=Mj (l.take k)/\Hy w.heap.size wr (Ad (Af ⟨GO,0,Ae⟩) n n) (zl++Ba (n-k) skZ))/\Hid (Below w.heap.size w wr)) (λtu _=>n-(intOf tu).toNat)
 case atStart=>exact⟨0,Gu,rfl,Ah ⟨[],rfl,XV.out⟩,tw⟩
 obtain⟨k,hk,rfl,HZ,HB⟩:=hrel;clear XV tw;by_cases ad:k<n
 ·have bc:k<l.length:=oHx HN.out;have q0:(k:Int)<(n:Int):=Gu;obtain⟨bb,o,A',c',QI,cj,⟨d0,d1,d2,d3⟩,dq,hle,ia,be⟩:=(UC.out _ HB.out).get k bc;have dy:=uq.out l[k] (Ay _);have ld:=Ai7 l k bc;obtain⟨⟨⟨x0,x1,x2⟩,ids⟩,hx⟩:∃z,l[k]=z:=⟨_,rfl⟩;simp only[hx]at d0 d1 d2 d3 dy be dq hle ld;obtain⟨m,hm⟩:=ey ids.length;rw[hm]at d3 dy be dq hle;have fi:=Ah hm;have ur:=Ah ld;have AH:=Ah (λ(w':Aj) (hb:Below wr.heap.size wr w')=>Re ⟨x0,x1,x2⟩ A' ids m c' w' hm.symm dq (be.below hb) Gu);obtain⟨C,hC⟩:=ey wr.heap.size;have DF:=Bz wr (.cells #[x0,x1,Aa Ac x2,Ad A' m c'] 92);rw[hC]at DF;have cg:=(Ag wr.heap.size wr).alloc (Am _) (.cells #[x0,x1,Aa Ac x2,Ad A' m c'] 92);subst QI;clear ld be dq hle hx hm;go_upto_region 5 with fail
  try rw[hC]
  generalize wr.alloc _=W5 at DF cg⊢;clear d0 d1 d2 d3;obtain⟨⟨e0,e1,e2,e3⟩,-⟩:=Jm DF;have N0:=Ah cg;have ir:=HB.out.size;clear DF cg;go_wp2_with fail;refine(AH.out _ N0.out).mono ?_;rintro ee w6 ⟨A9,rfl,qg,bo,bh⟩;dsimp only;obtain⟨zl,ap,ca⟩:=HZ.out
  have kc:zl.length=k:=by
   have:=congrArg List.length ap;unfold Mj at this;simp at this;omega
  have xk:=N0.out.trans (bh.mono N0.out.size);have kq:=N0.out.size;have jj:Nl wr.heap.size w6 (⟨⟨x0,x1,x2⟩,ids⟩,(A9,ids.length)):=⟨qg,Am _,by show ids.length<=maxLen;have:=fi.out;unfold maxLen;omega,bo.base kq⟩;obtain⟨df,dg,dj⟩:=Zl ca (i:=k) (by simp[kc];omega) xk jj ir
  have qh:(zl++Ba (n-k) skZ).set k (⟨⟨x0,x1,x2⟩,ids⟩,(A9,ids.length))=zl++(⟨⟨x0,x1,x2⟩,ids⟩,(A9,ids.length))::Ba (n-(k+1)) skZ:=by
   rw[Gg _ _ Gu,kc,Fk];rw[show n-k=(n-(k+1))+1 by omega,List.replicate_succ,Cf]
  rw[qh]at dj;rw[fi.out]at dj⊢;dsimp only at dj;obtain⟨v0,g0⟩:=df 0 Gu;obtain⟨v1,g1⟩:=df 1 Gu;obtain⟨v2,g2⟩:=df 2 Gu;obtain⟨v3,g3⟩:=df 3 Gu;rw[De]at g0;have z0:=dg (k*4);have z1:=dg (k*4+1);have z2:=dg (k*4+2);have z3:=dg (k*4+3)
  have OK:Below w.heap.size w ((((w6.setCell ⟨GO,k*4,Ae⟩ (Aa Ab x0)).setCell ⟨GO,k*4+1,Ae⟩ (Aa Ab x1)).setCell ⟨GO,k*4+2,Ae⟩ (Aa Ac x2)).setCell ⟨GO,k*4+3,Ae⟩ (Ad A9 m m)):=by
   have ki:w.heap.size<=GO:=by rw[TP.out];exact Am _
   have ba:=HB.out.trans (xk.mono ir);exact(((ba.setCell (p:=⟨GO,k*4,Ae⟩) ki _).setCell (p:=⟨GO,k*4+1,Ae⟩) ki _).setCell (p:=⟨GO,k*4+2,Ae⟩) ki _).setCell (p:=⟨GO,k*4+3,Ae⟩) ki _
  have Z_:∀g,A9.map (·.block)=Af g->w.heap.size<=g:=λg hg=>by have:=(bo.lt g hg).1;omega
  have EO:=Ah kc;have mo:=Ah ap;have HA9:=Ah Z_;clear df dg qh jj ap ca kc xk kq ir bh bo qg e0 e1 e2 e3 HZ HB N0 AH Z_;go_upto_region 6 with fail;generalize (((w6.setCell _ _).setCell _ _).setCell _ _).setCell _ _=W7 at dj OK⊢;clear g0 g1 g2 g3 z0 z1 z2 z3
  have h3:W7.cell? ⟨GO,k*4+3,Ae⟩=Af (Ad A9 m m):=by
   have qw:(zl++((⟨⟨x0,x1,x2⟩,ids⟩,(A9,m)):SkR)::Ba (n-(k+1)) skZ).length=n:=by
    have:=EO.out;simp;omega
   have h1:=dj.1;rw[qw]at h1;have be:=Rd.of_own h1;obtain⟨b,o',e,-,hc⟩:=be.2 Gu;obtain⟨rfl,rfl⟩:GO=b/\0=o':=by simpa using e
   have hz:=EO.out;have bi:=Iv Jb 4 Le (zl++(⟨⟨x0,x1,x2⟩,ids⟩,(A9,m))::Ba (n-(k+1)) skZ) k 3 Hu Gu
   have ju:(zl++(⟨⟨x0,x1,x2⟩,ids⟩,(A9,m))::Ba (n-(k+1)) skZ)[k]'(by simp;omega)=((⟨⟨x0,x1,x2⟩,ids⟩,(A9,m)):SkR):=by
    rw[List.getElem_append_right Gu];simp[hz]
   rw[ju]at bi;have:=hc (k*4+3) (Ad A9 m m) (bi.trans (by simp[Jb,fi.out]));rw[Bt]at this;exact this
  have jj:=dj.2.1 ((⟨⟨x0,x1,x2⟩,ids⟩,(A9,m)):SkR) Gx;have ag:=jj.2.2.2;dsimp only at ag;rw[fi.out]at ag;have KJ:=Ah (Ay4 (c:=m) ids W7 ag Gu);have QD:=Ah dj;have IQ:=Ah OK;clear dj OK jj ag;go_wp2_with fail;refine KJ.out.mono ?_;rintro ee w8 ⟨rfl,WC,FB⟩;have na:ids.reverse.length=m:=by rw[List.length_reverse,fi.out]
  have h8:=QD.out.row (y:=(⟨⟨x0,x1,x2⟩,ids.reverse⟩,(A9,m))) (by unfold Jb;dsimp only;rw[na,fi.out]) rfl (by dsimp only;rw[na,fi.out]) (by dsimp only;rw[na];exact WC) FB;have pk:=IQ.out.grown FB IQ.out.size (λg hg=>HA9.out g hg);have HO8:Hid (∃zl:List SkR,zl.map (·.1)=Mj (l.take (k+1))/\Hy w.heap.size w8 (Ad (Af ⟨GO,0,Ae⟩) n n) (zl++Ba (n-(k+1)) skZ)):=Ah ⟨zl++[(⟨⟨x0,x1,x2⟩,ids.reverse⟩,(A9,m))],by rw[Ey,mo.out,ur.out];rfl,by rw[Bj];exact h8⟩;have vm:=Ah pk;clear WC FB na h8 pk h3 KJ QD IQ;go_wp2;exact⟨⟨k+1,Gu,by go_num,HO8,vm⟩,by simp[intOf];omega⟩
 ·obtain rfl:k=n:=Gu;have q0:¬(k:Int)<(k:Int):=Gu;obtain⟨zl,ap,ca⟩:=HZ.out;have ht:l.take k=l:=Bg (oHx HN.out);rw[ht]at ap;rw[Fk,List.replicate_zero,Fe]at ca;have na:(Mj l).length=k:=by unfold Mj;rw[Bo];exact HN.out.symm
  have aw:Hid (Am5 (Mj l) w (.returned (Ad (Af ⟨GO,0,Ae⟩) k k)) wr):=Ah ⟨Af ⟨GO,0,Ae⟩,k,zl,by rw[na],by rw[na];exact ca,ap,HB.out⟩;clear ap ca na ht HZ;go_wp2;go_ret;exact aw.out
end Go.Proofs.YtlgkpdfieaadaaaGreatDoor
namespace Go.Proofs.YtlgkpdfieaadaaaGreatDoor.Rs
open Go.RowKit
structure Sr where
 x:Int
 y:Int
 q:Nat
 A:Option Ci
 n:Nat
 c:Nat
 ls:List Nat
 hx: -4096<=x/\x<=4096
 hy: -4096<=y/\y<=4096
 hq:q<=3
def Sr.cells (r:Sr):List Ak:=[Aa Ab r.x,Aa Ab r.y,Aa Ac (r.q:Int),Ad r.A r.n r.c]
def recs (l:List Sr):List Ak:=l.flatMap Sr.cells
def Sr.t (r:Sr):Int:=(r.y*16384+r.x)*4+r.q
theorem Rz (r:Sr):r.cells.length=4:=rfl
theorem qE (L:List Sr) (i:Nat) (hi:i<L.length) (b:Sr):
  ((((recs L).set (i*4) (Aa Ab b.x)).set (i*4+1) (Aa Ab b.y)).set (i*4+2) (Aa Ac (b.q:Int))).set (i*4+3) (Ad b.A b.n b.c)=recs (L.set i b):=by
 obtain⟨a,ha⟩:=ey (L[i]);have e0:=Oo Sr.cells 4 Rz L i 0 hi Gu ⟨b.x,a.y,a.q,a.A,a.n,a.c,a.ls,b.hx,a.hy,a.hq⟩ (Aa Ab b.x) (by rw[ha];rfl);have e1:=Oo Sr.cells 4 Rz (L.set i ⟨b.x,a.y,a.q,a.A,a.n,a.c,a.ls,b.hx,a.hy,a.hq⟩) i 1 (by simpa using hi) Gu ⟨b.x,b.y,a.q,a.A,a.n,a.c,a.ls,b.hx,b.hy,a.hq⟩ (Aa Ab b.y) (by rw[Cp];rfl);have e2:=Oo Sr.cells 4 Rz (L.set i ⟨b.x,b.y,a.q,a.A,a.n,a.c,a.ls,b.hx,b.hy,a.hq⟩) i 2 (by simpa using hi) Gu ⟨b.x,b.y,b.q,a.A,a.n,a.c,a.ls,b.hx,b.hy,b.hq⟩ (Aa Ac (b.q:Int)) (by rw[Cp];rfl);have e3:=Oo Sr.cells 4 Rz (L.set i ⟨b.x,b.y,b.q,a.A,a.n,a.c,a.ls,b.hx,b.hy,b.hq⟩) i 3 (by simpa using hi) Gu b (Ad b.A b.n b.c) (by rw[Cp];rfl);rw[List.set_set]at e1 e2 e3;unfold recs;rw[De]at e0;rw[<-e0,<-e1,<-e2,<-e3]
theorem Bw7 {w:Aj} {A:Option Ci} {l:List Sr} (h:Rd w A 4 l.length (recs l)) (i:Nat) (hi:i<l.length):
  ∃b o,A=Af ⟨b,o,Ae⟩/\b<w.heap.size/\w.cell? ⟨b,o+i*4,Ae⟩=Af (Aa Ab l[i].x)/\w.cell? ⟨b,o+i*4+1,Ae⟩=Af (Aa Ab l[i].y)/\
   w.cell? ⟨b,o+i*4+2,Ae⟩=Af (Aa Ac (l[i].q:Int))/\w.cell? ⟨b,o+i*4+3,Ae⟩=Af (.slice l[i].A l[i].n l[i].c):=by
 obtain⟨b,o,e,hb,hc⟩:=h.2 Gu;refine⟨b,o,e,hb,?_,?_,?_,?_⟩
 ·exact hc (i*4+0) _ ((Iv _ 4 Rz l i 0 hi Gu).trans rfl)
 ·exact hc (i*4+1) _ ((Iv _ 4 Rz l i 1 hi Gu).trans rfl)
 ·exact hc (i*4+2) _ ((Iv _ 4 Rz l i 2 hi Gu).trans rfl)
 ·exact hc (i*4+3) _ ((Iv _ 4 Rz l i 3 hi Gu).trans rfl)
theorem Xr {a b c d:Int} (h1:a<b↔c<d) (h2:b<a↔d<c):Ih a b=Ih c d:=by
 unfold Ih;simp only[h1,h2]
theorem Ap8 (a b:Sr):Kc ⟨a.x,a.y,a.q⟩ ⟨b.x,b.y,b.q⟩=Ih a.t b.t:=by
 have h1:=a.hx;have h2:=a.hy;have h3:=a.hq;have h4:=b.hx;have h5:=b.hy;have h6:=b.hq;unfold Kc Sr.t;dsimp only;by_cases e1:a.y=b.y
 ·rw[Gz (λh=>h (Je.2 e1))];by_cases e2:a.x=b.x
  ·rw[Gz (λh=>h (Je.2 e2))];exact Xr Gu Gu
  ·rw[Hd (λh=>e2 (Je.1 h))];exact Xr Gu Gu
 ·rw[Hd (λh=>e1 (Je.1 h))];exact Xr Gu Gu
theorem Wc (a b:Sr) (w:Aj):
  Al Do 123 #[.agg #[Aa Ab a.x,Aa Ab a.y,Aa Ac (a.q:Int),Ad a.A a.n a.c],.agg #[Aa Ab b.x,Aa Ab b.y,Aa Ac (b.q:Int),Ad b.A b.n b.c]] w (Gy (Aa Ab (Ih a.t b.t)) w):=by
 have HC:=Ah (λw'=>bU ⟨a.x,a.y,a.q⟩ ⟨b.x,b.y,b.q⟩ w' (by have:=a.hq;dsimp only;omega) (by have:=b.hq;dsimp only;omega));rw[Ap8]at HC;dsimp only at HC;generalize Ih a.t b.t=r at HC⊢;obtain⟨x0,x1,x2,xA,n,xc,xl,ax,ay,aq⟩:=a;obtain⟨y0,y1,y2,yA,m,yc,yl,bx,nm,bq⟩:=b;dsimp only at HC⊢;have dm:Below w.heap.size w ((w.alloc (.cells #[x0,x1,Aa Ac x2,Ad xA n xc] 92)).alloc (.cells #[y0,y1,Aa Ac y2,Ad yA m yc] 92)):=((Ag _ _).alloc (Am _) _).alloc Gx _;have H:=((Bx.start w).new #[x0,x1,Aa Ac x2,Ad xA n xc] 92 rfl).new #[y0,y1,Aa Ac y2,Ad yA m yc] 92 (N:=w.heap.size+1) Gx;go_enter Tryz.func123,Tryz.ntmps123;go_upto_region 1 with fail;generalize (w.alloc _).alloc _=W at H dm⊢;obtain⟨N,hN⟩:=ez w.heap.size;rw[<-hN]at H⊢;have db:=Ah hN;clear hN;generalize N+1=P at H⊢;obtain⟨⟨a0,a1,a2,-⟩,-⟩:=Jm (H.b 0);obtain⟨⟨b0,b1,b2,-⟩,-⟩:=Jm (H.b 1);have dx:=Ah dm;clear dm H;go_wp2_with fail;refine(HC.out _).mono ?_;rintro e w2 ⟨rfl,hb⟩;go_wp2;go_ret;exact⟨rfl,dx.out.trans (hb.mono dx.out.size)⟩
theorem Wt {w:Aj} {base g cap i j n:Nat} {L:List Sr} {a b:Sr} (aa:w.ownsRow base 92 4 (Ad (Af ⟨g,0,Ae⟩) n cap) n (recs L)) (hi:i<L.length) (hj:j<L.length):
  (((((((((w.setCell ⟨g,i*4,Ae⟩ (Aa Ab b.x)).setCell ⟨g,i*4+1,Ae⟩ (Aa Ab b.y)).setCell ⟨g,i*4+2,Ae⟩ (Aa Ac (b.q:Int))).setCell ⟨g,i*4+3,Ae⟩ (Ad b.A b.n b.c)).setCell ⟨g,j*4,Ae⟩ (Aa Ab a.x)).setCell ⟨g,j*4+1,Ae⟩ (Aa Ab a.y)).setCell ⟨g,j*4+2,Ae⟩ (Aa Ac (a.q:Int))).setCell ⟨g,j*4+3,Ae⟩ (Ad a.A a.n a.c)).drew).ownsRow base 92 4 (Ad (Af ⟨g,0,Ae⟩) n cap) n (recs ((L.set i b).set j a))/\
  w.grownBy (((((((((w.setCell ⟨g,i*4,Ae⟩ (Aa Ab b.x)).setCell ⟨g,i*4+1,Ae⟩ (Aa Ab b.y)).setCell ⟨g,i*4+2,Ae⟩ (Aa Ac (b.q:Int))).setCell ⟨g,i*4+3,Ae⟩ (Ad b.A b.n b.c)).setCell ⟨g,j*4,Ae⟩ (Aa Ab a.x)).setCell ⟨g,j*4+1,Ae⟩ (Aa Ab a.y)).setCell ⟨g,j*4+2,Ae⟩ (Aa Ac (a.q:Int))).setCell ⟨g,j*4+3,Ae⟩ (Ad a.A a.n a.c)).drew) (Af g):=by
 have h1:=Kx aa (Jr w (Af g)) (i*4) (Aa Ab b.x);have h2:=Kx h1.1 h1.2 (i*4+1) (Aa Ab b.y);have h3:=Kx h2.1 h2.2 (i*4+2) (Aa Ac (b.q:Int));have h4:=Kx h3.1 h3.2 (i*4+3) (Ad b.A b.n b.c);have h5:=Kx h4.1 h4.2 (j*4) (Aa Ab a.x);have h6:=Kx h5.1 h5.2 (j*4+1) (Aa Ab a.y);have h7:=Kx h6.1 h6.2 (j*4+2) (Aa Ac (a.q:Int));have h8:=Kx h7.1 h7.2 (j*4+3) (Ad a.A a.n a.c);clear h1 h2 h3 h4 h5 h6 h7;rw[qE L i hi b,qE (L.set i b) j (by simpa using hj) a]at h8;exact⟨h8.1.drew,Rh h8.2⟩
theorem Zx {α:Type} (U V Z:List α) (x y:α) {i j:Nat} (hi:i=U.length) (hj:j=U.length+1+V.length):
  (U++x::(V++y::Z))[i]? =Af x/\(U++x::(V++y::Z))[j]? =Af y/\((U++x::(V++y::Z)).set i y).set j x=U++y::(V++x::Z):=by
 subst hi hj;refine⟨?_,?_,?_⟩
 ·rw[Ee (Am _),Fk];rfl
 ·rw[Ee Gu,show U.length+1+V.length-U.length=V.length+1 by omega,List.getElem?_cons_succ,Ee (Am _),Fk];rfl
 ·rw[Gg _ _ (Am _),Fk,Cf,Gg _ _ Gu,show U.length+1+V.length-U.length=V.length+1 by omega,Cg,Gg _ _ (Am _),Fk,Cf]
def Lo (base g n cap:Nat) (D:List Sr) (w:Aj) (e:Ending) (w':Aj):Prop:=
 e= .returned (.tuple #[])/\w'.ownsRow base 92 4 (Ad (Af ⟨g,0,Ae⟩) n cap) n (recs D)/\w.grownBy w' (Af g)
theorem Lp {w:Aj} {base g n cap:Nat} {L:List Sr} (aa:w.ownsRow base 92 4 (Ad (Af ⟨g,0,Ae⟩) n cap) n (recs L)) (hn:n=L.length) {i:Nat} {r:Sr} (hi:L[i]? =Af r):
  (w.cell? ⟨g,i*4,Ae⟩=Af (Aa Ab r.x)/\w.cell? ⟨g,i*4+1,Ae⟩=Af (Aa Ab r.y)/\w.cell? ⟨g,i*4+2,Ae⟩=Af (Aa Ac (r.q:Int))/\w.cell? ⟨g,i*4+3,Ae⟩=Af (Ad r.A r.n r.c))/\
  (w.frozen? ⟨g,i*4,Ae⟩=false/\w.frozen? ⟨g,i*4+1,Ae⟩=false/\w.frozen? ⟨g,i*4+2,Ae⟩=false/\w.frozen? ⟨g,i*4+3,Ae⟩=false):=by
 subst hn;obtain⟨bv,rfl⟩:=Ax.1 hi;obtain⟨b,o,e,_,c0,c1,c2,c3⟩:=Bw7 (Rd.of_own aa) i bv;obtain⟨rfl,rfl⟩:g=b/\0=o:=by simpa using e
 simp only[Bt]at c0 c1 c2 c3;exact⟨⟨c0,c1,c2,c3⟩,Ti aa _,Ti aa _,Ti aa _,Ti aa _⟩
def Qo (P X M Y S:List Sr) (i:Nat):List Sr:=P++(Y.take i++X.drop i)++M++(X.take i++Y.drop i)++S
theorem Ak5 (P X M Y S:List Sr) (i:Nat) (h:X.length=Y.length):(Qo P X M Y S i).length=P.length+X.length+M.length+Y.length+S.length:=by
 unfold Qo;simp;omega
theorem wM (P X M Y S:List Sr):Qo P X M Y S 0=P++X++M++Y++S:=by simp[Qo]
theorem Ak4 (P X M Y S:List Sr) (h:X.length=Y.length):Qo P X M Y S X.length=P++Y++M++X++S:=by
 unfold Qo;rw[Bg Gu,Ct (Am _),Bg (Am _),Ct Gu];simp
theorem wK (P X M Y S:List Sr) (i:Nat) (h:X.length=Y.length) (hi:i<X.length) {p q:Nat} (hp:p=P.length+i) (hq:q=P.length+X.length+M.length+i):
  ∃x y,(Qo P X M Y S i)[p]? =Af x/\(Qo P X M Y S i)[q]? =Af y/\((Qo P X M Y S i).set p y).set q x=Qo P X M Y S (i+1):=by
 have e1:Qo P X M Y S i=(P++Y.take i)++X[i]::((X.drop (i+1)++M++X.take i)++Y[i]::(Y.drop (i+1)++S)):=by
  unfold Qo;rw[Gn hi,Gn (show i<Y.length by omega)];simp only[Bj,Ep]
 have e2:Qo P X M Y S (i+1)=(P++Y.take i)++Y[i]::((X.drop (i+1)++M++X.take i)++X[i]::(Y.drop (i+1)++S)):=by
  unfold Qo;rw[Bc hi,Bc (show i<Y.length by omega)];simp only[Bj,Ep,Et]
 refine⟨X[i],Y[i],?_⟩;rw[e1,e2];refine Zx _ _ _ _ _ ?_ ?_
 ·simp;omega
 ·simp;omega
theorem Sk (base g n cap cc:Nat) (P X M Y S:List Sr) (a b k:Nat) (f:Ak) (w:Aj) (ef:X.length=Y.length) (ha:a=P.length) (hb:b=P.length+X.length+M.length) (hk:k=X.length) (hn:n=P.length+X.length+M.length+Y.length+S.length) (hl:n<=1000000000)
  (aa:w.ownsRow base 92 4 (Ad (Af ⟨g,0,Ae⟩) n cap) n (recs (P++X++M++Y++S))):
  Al Do 304 #[Ad (Af ⟨g,0,Ae⟩) n cc,a,b,k,f] w (Lo base g n cap (P++Y++M++X++S) w):=by
 have ml:=Ah ef;have HA:=Ah ha;have HB:=Ah hb;have HK:=Ah hk;have HN:=Ah hn;have HO:=Ah aa;have hak:a+k<=n:=Gu;have DG:b+k<=n:=Gu;clear ef ha hb hk hn aa;go_enter Tryz.func304,Tryz.ntmps304;go_wp2
 go_loopw [10] (λs wr=>∃i:Nat,i<=k/\s= Aa Ab i/\wr.ownsRow base 92 4 (Ad (Af ⟨g,0,Ae⟩) n cap) n (recs (Qo P X M Y S i))/\w.grownBy wr (Af g)) (λs _=>k-(intOf s).toNat)
 case atStart=>exact⟨0,Gu,rfl,by rw[wM];exact HO.out,Jr _ _⟩
 obtain⟨i,xt,rfl,aa,fj⟩:=hrel;by_cases ad:i<k
 ·obtain⟨p,hp⟩:=ez (a+i);obtain⟨q,hq⟩:=ez (b+i);obtain⟨x,y,hx,hy,br⟩:=wK P X M Y S i ml.out (oHx HK.out) (p:=p) (q:=q) (oHx HA.out) (oHx HB.out);have VQ:=Ak5 P X M Y S i ml.out;have E4:n=(Qo P X M Y S i).length:=by rw[VQ];exact HN.out
  obtain⟨⟨c0,c1,c2,c3⟩,z0,z1,z2,z3⟩:=Lp aa E4 hx;obtain⟨⟨d0,d1,d2,d3⟩,y0,y1,y2,y3⟩:=Lp aa E4 hy;have dw:p<n:=Gu;have SK:q<n:=Gu;have DZ:=Wt (a:=x) (b:=y) (i:=p) (j:=q) aa (by rw[<-E4];exact dw) (by rw[<-E4];exact SK);rw[br]at DZ;have sm:=Ah DZ;have e1:Ab.wrap ((a:Int)+(i:Int))=(p:Int):=by rw[Ca _ Gu];omega
  have e2:Ab.wrap ((b:Int)+(i:Int))=(q:Int):=by rw[Ca _ Gu];omega
  have e3:(p:Int)<(n:Int):=Gu;have e4:(q:Int)<(n:Int):=Gu;have e5:(0:Int)<=(p:Int):=Gu;have e6:(0:Int)<=(q:Int):=Gu;have bv:(i:Int)<(k:Int):=Gu;have MR:¬p=q:=by have:=HA.out;have:=HB.out;have:=HK.out;omega
  have hqp:¬q=p:=λh=>MR h.symm;clear hp hq hx hy br VQ E4 DZ aa;go_wp2
  go_region
  obtain⟨h1,h2⟩:=sm.out;clear sm c0 c1 c2 c3 d0 d1 d2 d3 z0 z1 z2 z3 y0 y1 y2 y3 e1 e2 e3 e4 e5 e6;generalize ((((((((wr.setCell _ _).setCell _ _).setCell _ _).setCell _ _).setCell _ _).setCell _ _).setCell _ _).setCell _ _).drew=W3 at h1 h2⊢;have H1:=Ah h1;have H2:=Ah (Kt fj h2);clear h1 h2 fj;go_wp2
  go_roundw
  case rel=>exact⟨i+1,Gu,by go_num,H1.out,H2.out⟩
  case measure=>simp[intOf];omega
 ·obtain rfl:i=k:=Gu;have ak:=aa;rw[HK.out,Ak4 _ _ _ _ _ ml.out]at ak;have p_:=Ah ak;clear aa ak;go_wp2_with fail
  go_end0
  exact⟨rfl,p_.out,fj⟩
def Bo5 (base g n cap m:Nat) (D:List Sr) (w0:Aj) (i j:Nat) (w:Aj):Prop:=
 ∃P X Y S:List Sr,P.length+i=m/\X.length=i/\Y.length=j/\0<i/\0<j/\P++Y++X++S=D/\n=P.length+X.length+Y.length+S.length/\w.ownsRow base 92 4 (Ad (Af ⟨g,0,Ae⟩) n cap) n (recs (P++X++Y++S))/\w0.grownBy w (Af g)
theorem vJ (base g n cap cc:Nat) (P X Y S:List Sr) (a m b:Nat) (f:Ak) (w:Aj) (ha:a=P.length) (hm:m=P.length+X.length) (hb:b=P.length+X.length+Y.length) (hn:n=P.length+X.length+Y.length+S.length) (hX:0<X.length) (hY:0<Y.length) (hl:n<=1000000000)
  (aa:w.ownsRow base 92 4 (Ad (Af ⟨g,0,Ae⟩) n cap) n (recs (P++X++Y++S))):
  Al Do 278 #[Ad (Af ⟨g,0,Ae⟩) n cc,a,m,b,f] w (Lo base g n cap (P++Y++X++S) w):=by
 have DY:Bo5 base g n cap m (P++Y++X++S) w (m-a) (b-m) w:=⟨P,X,Y,S,Gu,Gu,Gu,Gu,Gu,rfl,hn,aa,Jr _ _⟩;generalize P++Y++X++S=D at DY⊢;have HS:=Ah DY;have h1:a<=m:=Gu;have h2:m<=b:=Gu;have h3:b<=n:=Gu;clear aa DY ha hm hb hn hX hY P X Y S;go_enter Tryz.func278,Tryz.ntmps278;go_wp2
 go_loopw [10,11] (λs t wr=>∃i j:Nat,s= Aa Ab i/\t= Aa Ab j/\Bo5 base g n cap m D w i j wr) (λs t _=>(intOf s).toNat+(intOf t).toNat)
 case atStart=>exact⟨m-a,b-m,by go_num,by go_num,HS.out⟩
 obtain⟨i,j,rfl,rfl,P,X,Y,S,hPi,hXi,hYj,hi,hj,hDD,DT,aa,fj⟩:=hrel;have HO:=Ah aa;have HDD:=Ah hDD;have HN:=Ah DT;have OA:=Ah hXi;have YJ:=Ah hYj;have UA:=Ah hPi;have q1:i<=m:=Gu;have q2:m+j<=n:=Gu;clear aa hDD DT hXi hYj hPi HS;by_cases yj:i=j
 ·obtain rfl:=yj;have hs:=Sk base g n cap cc P X [] Y S (m-i) m i f wr (by rw[OA.out,YJ.out]) (oHx UA.out) (by have:=UA.out;have:=OA.out;simp;omega) OA.out.symm (by have:=HN.out;simp;omega) hl (by simpa using HO.out);rw[show((m-i:Nat):Int)=(m:Int)-(i:Int)by omega]at hs;simp only[Fe]at hs;rw[HDD.out]at hs;have sm:=Ah hs;have e0:((i:Int) != (i:Int))=false:=Gx;clear hs;go_wp2_with fail;refine sm.out.mono ?_;rintro e w2 ⟨rfl,ai,du⟩;have H2:=Ah ai;clear ai;go_wp2_with fail
  go_end0
  exact⟨rfl,H2.out,Kt fj du⟩
 ·have e0:((i:Int) != (j:Int))=true:=Hu;by_cases zh:j<i
  ·have hX:X.take j++X.drop j=X:=Fc _ _;have gn:(X.take j).length=j:=by rw[Bm,OA.out];omega
   have oa:(X.drop j).length=i-j:=by rw[Dx,OA.out]
   have hs:=Sk base g n cap cc P (X.take j) (X.drop j) Y S (m-i) m j f wr (by rw[gn,YJ.out]) (oHx UA.out) (oHx UA.out) gn.symm (by have:=HN.out;have:=OA.out;omega) hl (by rw[Bj P,hX];exact HO.out);rw[show((m-i:Nat):Int)=(m:Int)-(i:Int)by omega]at hs;have sm:=Ah hs;have HX:=Ah hX;have PO:=Ah gn;have KA:=Ah oa;have y9:(j:Int)<(i:Int):=Gu;clear hs hX gn oa;go_wp2_with fail;refine sm.out.mono ?_;rintro e w2 ⟨rfl,ai,du⟩;have H2:=Ah ai;have yr:=Ah (Kt fj du);clear ai fj du;go_wp2
   go_roundw
   case rel=>
    refine⟨i-j,j,by go_num,rfl,P++Y,X.drop j,X.take j,S,?_,KA.out,PO.out,Gu,hj,?_,?_,H2.out,yr.out⟩
    ·have:=UA.out;have:=YJ.out;simp;omega
    ·rw[Bj (P++Y),HX.out];exact HDD.out
    ·have:=HN.out;have:=OA.out;have:=PO.out;have:=KA.out;simp only[Bh];omega
   case measure=>simp[intOf];omega
  ·have hY:Y.take (j-i)++Y.drop (j-i)=Y:=Fc _ _;have gn:(Y.take (j-i)).length=j-i:=by rw[Bm,YJ.out];omega
   have oa:(Y.drop (j-i)).length=i:=by rw[Dx,YJ.out];omega
   have hs:=Sk base g n cap cc P X (Y.take (j-i)) (Y.drop (j-i)) S (m-i) (m+j-i) i f wr (by rw[oa,OA.out]) (oHx UA.out) (by have:=UA.out;have:=OA.out;omega) OA.out.symm (by have:=HN.out;have:=YJ.out;omega) hl (by rw[Bj (P++X),hY];exact HO.out);rw[show((m-i:Nat):Int)=(m:Int)-(i:Int)by omega,show((m+j-i:Nat):Int)=(m:Int)+(j:Int)-(i:Int)by omega]at hs;have sm:=Ah hs;have HY:=Ah hY;have PO:=Ah gn;have KA:=Ah oa;have y9:¬(j:Int)<(i:Int):=Gu;clear hs hY gn oa;go_wp2_with fail;refine sm.out.mono ?_;rintro e w2 ⟨rfl,ai,du⟩;have H2:=Ah ai;have yr:=Ah (Kt fj du);clear ai fj du;go_wp2
   go_roundw
   case rel=>
    refine⟨i,j-i,rfl,by go_num,P,Y.drop (j-i),Y.take (j-i),X++S,UA.out,KA.out,PO.out,hi,Gu,?_,?_,?_,yr.out⟩
    ·rw[<-Bj,Bj P,HY.out];exact HDD.out
    ·have:=HN.out;have:=YJ.out;have:=PO.out;have:=KA.out;simp only[Bh];omega
    ·rw[<-Bj];exact H2.out
   case measure=>simp[intOf];omega
section
variable {α:Type} (t:α->Int)
def leT (a b:α):Bool:=decide (t a<=t b)
def mrg (a b:List α):List α:=a.merge b (leT t)
def srt:List α->List α
 |[]=>[]
 |x::l=>mrg t [x] (srt l)
def Pr (l:List α):Prop:=l.Pairwise (λa b=>t a<=t b)
end
section
variable {α:Type} {t:α->Int}
theorem Pq (a:List α):mrg t a []=a:=by unfold mrg;simp
theorem Nh (a:List α):mrg t [] a=a:=by unfold mrg;simp
theorem Nt {x y:α} {a b:List α} (h:t x<=t y):mrg t (x::a) (y::b)=x::mrg t a (y::b):=by
 unfold mrg;exact List.cons_merge_cons_pos _ _ _ (by simpa[leT]using h)
theorem Ms {x y:α} {a b:List α} (h:t y<t x):mrg t (x::a) (y::b)=y::mrg t (x::a) b:=by
 unfold mrg;exact List.cons_merge_cons_neg _ _ _ (by simp[leT];omega)
theorem yN (a b:List α):(mrg t a b).length=a.length+b.length:=by unfold mrg;exact List.length_merge _ _ _
theorem yM {a b:List α} (h:∀x∈a,∀y∈b,t x<=t y):mrg t a b=a++b:=by
 unfold mrg;exact List.merge_of_le λx y hx hy=>by simpa[leT]using h x hx y hy
theorem Bk5 {a b:List α} (ha:Pr t a) (hb:Pr t b):Pr t (mrg t a b):=by
 have h:=List.pairwise_merge (le:=leT t) (λa b c h1 h2=>by simp[leT]at*;omega) (λa b=>by simp[leT];omega) a b (ha.imp (λh=>by simpa[leT]using h)) (hb.imp (λh=>by simpa[leT]using h));exact h.imp (λh=>by simpa[leT]using h)
theorem gL (n:Nat):∀(A1 A2 B1 B2:List α),A1.length+B1.length<=n->(∀x∈A1,∀y∈B2,t x<=t y)->(∀x∈A2,∀y∈B1,t y<t x)->mrg t (A1++A2) (B1++B2)=mrg t A1 B1++mrg t A2 B2:=by
 induction n with
 |zero=>
  intro A1 A2 B1 B2 hn _ _;have h1:A1=[]:=Es.1 Gu;have h2:B1=[]:=Es.1 Gu;subst h1 h2;simp[Nh]
 |succ n ih=>
  intro A1 A2 B1 B2 hn h1 h2
  cases A1 with
  |nil=>
   cases B1 with
   |nil=>simp[Nh]
   |cons y B1=>
    rw[Nh,Et]
    cases A2 with
    |nil=>simp[Nh]
    |cons x A2=>
     have ef:=h2 x Gx y Gx;rw[Ep,Ms ef];have:=ih [] (x::A2) B1 B2 (by simp at hn⊢;omega) Gx (λx hx y hy=>h2 x hx y (by simp[hy]));rw[Nh,Et]at this;rw[this];rfl
  |cons x A1=>
   cases B1 with
   |nil=>
    rw[Pq,Et]
    cases B2 with
    |nil=>simp[Pq]
    |cons y B2=>
     have ef:=h1 x Gx y Gx;rw[Ep,Nt ef];have:=ih A1 A2 [] (y::B2) (by simp at hn⊢;omega) (λx hx y hy=>h1 x (by simp[hx]) y hy) Gx;rw[Pq,Et]at this;rw[this];rfl
   |cons y B1=>
    by_cases ef:t x<=t y
    ·rw[Ep,Ep,Nt ef,Nt ef];have:=ih A1 A2 (y::B1) B2 (by simp at hn⊢;omega) (λx hx y hy=>h1 x (by simp[hx]) y hy) h2;rw[Ep]at this;rw[this];rfl
    ·rw[Ep,Ep,Ms Gu,Ms Gu];have:=ih (x::A1) A2 B1 B2 (by simp at hn⊢;omega) h1 (λx hx y hy=>h2 x hx y (by simp[hy]));rw[Ep]at this;rw[this];rfl
theorem aV (A1 A2 B1 B2:List α) (h1:∀x∈A1,∀y∈B2,t x<=t y) (h2:∀x∈A2,∀y∈B1,t y<t x):mrg t (A1++A2) (B1++B2)=mrg t A1 B1++mrg t A2 B2:=
 gL _ A1 A2 B1 B2 (Am _) h1 h2
theorem gK (n:Nat):∀(A B C:List α),A.length+B.length+C.length<=n->mrg t (mrg t A B) C=mrg t A (mrg t B C):=by
 induction n with
 |zero=>
  intro A B C hn;have h1:A=[]:=Es.1 Gu;have h2:B=[]:=Es.1 Gu;subst h1 h2;simp[Nh]
 |succ n ih=>
  intro A B C hn
  cases A with
  |nil=>simp[Nh]
  |cons a A=>
   cases B with
   |nil=>simp[Nh,Pq]
   |cons b B=>
    cases C with
    |nil=>simp[Pq]
    |cons c C=>
     simp only[En]at hn;by_cases jk:t a<=t b
     ·rw[Nt jk];by_cases hac:t a<=t c
      ·rw[Nt hac,ih A (b::B) (c::C) Hu];by_cases j8:t b<=t c
       ·rw[Nt j8,Nt jk]
       ·rw[Ms Gu,Nt hac]
      ·rw[Ms Gu,Ms (show t c<t b by omega),Ms Gu,<-Nt jk,ih (a::A) (b::B) C Hu]
     ·rw[Ms (show t b<t a by omega)];by_cases j8:t b<=t c
      ·rw[Nt j8,Nt j8,Ms Gu,ih (a::A) B (c::C) Hu]
      ·rw[Ms Gu,Ms (show t c<t b by omega),Ms Gu,<-Ms (show t b<t a by omega),ih (a::A) (b::B) C Hu]
theorem Af8 (A B C:List α):mrg t (mrg t A B) C=mrg t A (mrg t B C):=gK _ A B C (Am _)
theorem zJ (A B:List α):srt t (A++B)=mrg t (srt t A) (srt t B):=by
 induction A with
 |nil=>simp[srt,Nh]
 |cons x A ih=>simp only[Ep,srt,ih,Af8]
theorem zK (x:α):srt t [x]=[x]:=by simp[srt,Pq]
theorem Qv (A:List α):(srt t A).length=A.length:=by
 induction A with
 |nil=>rfl
 |cons x A ih=>simp[srt,yN,ih];omega
theorem Bd8 (x:α):Pr t [x]:=List.pairwise_singleton _ _
theorem Zt (A:List α):Pr t (srt t A):=by
 induction A with
 |nil=>exact List.Pairwise.nil
 |cons x A ih=>exact Bk5 (Bd8 x) ih
theorem xD {A B:List α}:Pr t (A++B)↔Pr t A/\Pr t B/\∀x∈A,∀y∈B,t x<=t y:=List.pairwise_append
theorem Rv {A:List α} (h:Pr t A) {i j:Nat} (hi:i<A.length) (hj:j<A.length) (yj:i<=j):t A[i]<=t A[j]:=by
 rcases Nat.lt_or_eq_of_le yj with ad|rfl
 ·exact List.pairwise_iff_getElem.1 h i j hi hj ad
 ·exact Int.le_refl _
theorem fE {S1 S2:List α} {x:α} (h1:∀y∈S1,t y<=t x) (h2:∀y∈S2,t x<t y):mrg t (S1++S2) [x]=S1++x::S2:=by
 have:=aV (t:=t) S1 S2 [x] [] Gx (by simpa using h2);rw[Fe,Pq,yM (a:=S1) (b:=[x]) (by simpa using h1)]at this;rw[this,Bj];rfl
theorem Af9 {S1 S2:List α} {x:α} (h1:∀y∈S1,t y<t x) (h2:∀y∈S2,t x<=t y):mrg t [x] (S1++S2)=S1++x::S2:=by
 have:=aV (t:=t) [] [x] S1 S2 Gx (by simpa using h1);rw[Et,Nh,yM (a:=[x]) (b:=S2) (by simpa using h2)]at this;rw[this];rfl
theorem Bk6 {A B:List α} {p q:Nat} (ha:Pr t A) (hb:Pr t B) (hp:p<=A.length) (hq:q<=B.length)
  (h1:p=0∨q=B.length∨∃x y,A[p-1]? =Af x/\B[q]? =Af y/\t x<=t y) (h2:p=A.length∨q=0∨∃x y,A[p]? =Af x/\B[q-1]? =Af y/\t y<t x):
  mrg t A B=mrg t (A.take p) (B.take q)++mrg t (A.drop p) (B.drop q):=by
 conv=>lhs;rw[<-Fc p A,<-Fc q B]
 refine aV _ _ _ _ ?_ ?_
 ·intro x hx y hy;obtain⟨i,hi,rfl⟩:=Be.1 hx;obtain⟨j,hj,rfl⟩:=Be.1 hy;simp only[Bm,Dx]at hi hj;rw[Dc,List.getElem_drop];rcases h1 with h|h|⟨u,v,hu,hv,huv⟩
  ·omega
  ·omega
  ·obtain⟨FN,rfl⟩:=Ax.1 hu;obtain⟨hqv,rfl⟩:=Ax.1 hv;have e1:=Rv ha (i:=i) (j:=p-1) Gu FN Gu;have e2:=Rv hb (i:=q) (j:=q+j) hqv Gu Gu;omega
 ·intro x hx y hy;obtain⟨i,hi,rfl⟩:=Be.1 hx;obtain⟨j,hj,rfl⟩:=Be.1 hy;simp only[Bm,Dx]at hi hj;rw[Dc,List.getElem_drop];rcases h2 with h|h|⟨u,v,hu,hv,huv⟩
  ·omega
  ·omega
  ·obtain⟨FN,rfl⟩:=Ax.1 hu;obtain⟨hqv,rfl⟩:=Ax.1 hv;have e1:=Rv ha (i:=p) (j:=p+i) FN Gu Gu;have e2:=Rv hb (i:=j) (j:=q-1) Gu hqv Gu;omega
end
theorem Pt {a b c:Aj} {g:Nat} (h:a.grownBy b (Af g)) (k:Below b.heap.size b c):a.grownBy c (Af g):=
 ⟨k.os.trans h.os,k.tape.trans h.tape,k.output.trans h.output,Br h.size k.size,λi hi hne=>(k.block i (Bq hi h.size)).trans (h.block i hi hne)⟩
def Kj (P S1:List Sr) (x:Sr) (S2 R:List Sr):List Sr:=P++(S1++x::S2)++R
theorem yC (P S1:List Sr) (y x:Sr) (S2 R:List Sr) {p q:Nat} (hp:p=P.length+S1.length+1) (hq:q=P.length+S1.length):
  (Kj P (S1++[y]) x S2 R)[p]? =Af x/\(Kj P (S1++[y]) x S2 R)[q]? =Af y/\((Kj P (S1++[y]) x S2 R).set p y).set q x=Kj P S1 x (y::S2) R:=by
 have e1:Kj P (S1++[y]) x S2 R=(P++S1)++y::([]++x::(S2++R)):=by simp[Kj]
 have e2:Kj P S1 x (y::S2) R=(P++S1)++x::([]++y::(S2++R)):=by simp[Kj]
 obtain⟨h1,h2,h3⟩:=Zx (P++S1) [] (S2++R) y x (i:=q) (j:=p) Hu Hu;rw[e1,e2];refine⟨h2,h1,?_⟩;rw[<-h3,List.set_comm _ _ Gu]
theorem cE {a b:Aj} {r:Option Nat} (h:a.grownBy b r) (n:Nat):a.grownBy (b.drewN n) r:=⟨h.os,h.tape,h.output,h.size,h.block⟩
theorem Tb (P S1:List Sr) (x:Sr) (S2 R:List Sr):(Kj P S1 x S2 R).length=P.length+S1.length+1+S2.length+R.length:=by
 simp[Kj];omega
theorem Xb (base g n cap cc:Nat) (P X S:List Sr) (a b:Nat) (w:Aj) (ha:a=P.length) (hb:b=P.length+X.length) (hn:n=P.length+X.length+S.length) (hl:n<=1000000000)
  (aa:w.ownsRow base 92 4 (Ad (Af ⟨g,0,Ae⟩) n cap) n (recs (P++X++S))):
  Al Do 215 #[Ad (Af ⟨g,0,Ae⟩) n cc,a,b,.func (.func 123) #[] #[]] w (Lo base g n cap (P++srt Sr.t X++S) w):=by
 have HA:=Ah ha;have HB:=Ah hb;have HN:=Ah hn;have HO:=Ah aa;have jk:a<=b:=Gu;have LE:b<=n:=Gu;clear ha hb hn aa;go_enter Tryz.func215,Tryz.ntmps215;go_wp2
 go_loopw [8,9] (λs _ wr=>∃q i:Nat,1<=q/\a+q<=b+1/\i=a+q/\s= Aa Ab i/\wr.ownsRow base 92 4 (Ad (Af ⟨g,0,Ae⟩) n cap) n (recs (P++(srt Sr.t (X.take q)++X.drop q)++S))/\w.grownBy wr (Af g)) (λs _ _=>b+1-(intOf s).toNat)
 case atStart=>
  refine⟨1,a+1,Gu,Gu,rfl,by go_num,?_,Jr _ _⟩
  have e:srt Sr.t (X.take 1)++X.drop 1=X:=by
   cases X with
   |nil=>rfl
   |cons x X=>simp[zK]
  rw[e];exact HO.out
 obtain⟨q,i,VZ,SJ,hi,rfl,aa,fj⟩:=hrel;have HI:=Ah hi;by_cases ad:a+q<b
 ·have D7:(i:Int)<(b:Int):=Gu;have gp:a<i:=Gu;clear hi;have hqx:q<X.length:=by have:=HA.out;have:=HB.out;omega
  obtain⟨x,hx⟩:=ey (X[q]);have hsrt:srt Sr.t (X.take (q+1))=mrg Sr.t (srt Sr.t (X.take q)) [x]:=by rw[Bc hqx,zJ,hx,zK]
  have zd:Pr Sr.t (srt Sr.t (X.take q)):=Zt _;have hlen:(srt Sr.t (X.take q)).length=q:=by rw[Qv,Bm];omega
  rw[Gn hqx,hx]at aa;obtain⟨R,hR⟩:=ez (X.drop (q+1)++S);have hRl:R.length=X.length-(q+1)+S.length:=by rw[hR];simp
  have VW:wr.ownsRow base 92 4 (Ad (Af ⟨g,0,Ae⟩) n cap) n (recs (Kj P (srt Sr.t (X.take q)) x [] R)):=by
   have e:Kj P (srt Sr.t (X.take q)) x [] R=P++(srt Sr.t (X.take q)++x::X.drop (q+1))++S:=by rw[hR];simp[Kj]
   rw[e];exact aa
  have XV:=Ah VW;have pd:=Ah hsrt;have HASC:=Ah zd;have FY:=Ah hlen;have HR:=Ah hR;have AY:=Ah hRl;clear aa VW hsrt zd hlen hR hRl hx HO;go_wp2_with fail;obtain⟨wo,rfl⟩:∃wo:Aj,wo=wr:=⟨_,rfl⟩
  go_loopw [9] (λs wr=>∃(S1 S2:List Sr) (j:Nat),j=a+S1.length/\s= Aa Ab j/\srt Sr.t (X.take q)=S1++S2/\(∀y∈S2,x.t<y.t)/\wr.ownsRow base 92 4 (Ad (Af ⟨g,0,Ae⟩) n cap) n (recs (Kj P S1 x S2 R))/\w.grownBy wr (Af g)) (λs _=>(intOf s).toNat)
  case atStart=>
   refine⟨srt Sr.t (X.take q),[],i,?_,rfl,Gx,Gx,XV.out,fj⟩;rw[FY.out];exact HI.out
  obtain⟨S1,S2,j,hj,rfl,wh,zh,aa,tb⟩:=hrel;have xx:S1.length+S2.length=q:=by rw[<-FY.out,wh];simp
  have wz:=Ah wh;have EH:=Ah zh;have iu:n=(Kj P S1 x S2 R).length:=by rw[Tb];have:=HN.out;have:=AY.out;omega
  clear wh zh fj XV;rcases List.eq_nil_or_concat S1 with rfl|⟨S1,y,rfl⟩
  ·have hd:decide (((a:Int))<((a:Int)))=false:=Gx;have mj:=Ah aa;have XK:=Ah iu;have HL12:=Ah xx;clear aa iu xx;simp only[Cq,De]at hj;subst hj;go_wp2
   go_quiet (fail)
   go_wp2
   go_roundw
   case rel=>
    refine⟨q+1,i+1,Gu,Gu,by have:=HI.out;omega,by go_num,?_,cE tb _⟩
    have e:P++(srt Sr.t (X.take (q+1))++X.drop (q+1))++S=Kj P [] x S2 R:=by
     rw[pd.out,wz.out,fE (S1:=[]) (S2:=S2) (x:=x) Gx EH.out,HR.out];simp[Kj]
    rw[e];exact mj.out
   case measure=>simp[intOf];omega
  ·have gn:(S1.concat y).length=S1.length+1:=Gx;simp only[List.concat_eq_append]at aa iu wz xx;obtain⟨p,hp⟩:=ez (a+S1.length);obtain⟨r,hr⟩:=ez (p+1);obtain⟨g1,g2,g3⟩:=yC P S1 y x S2 R (p:=r) (q:=p) (oHx HA.out) (oHx HA.out);obtain⟨⟨c0,c1,c2,c3⟩,z0,z1,z2,z3⟩:=Lp aa iu g1;obtain⟨⟨d0,d1,d2,d3⟩,y0,y1,y2,y3⟩:=Lp aa iu g2
   have mc:r<n:=by
    have:=Tb P (S1++[y]) x S2 R;rw[<-iu,Bh]at this;have h1:[y].length=1:=rfl;have h2:=HA.out;omega
   have mj:=Ah aa;have e0:r=j:=by rw[gn]at hj;omega
   have e1:(a:Int)<(r:Int):=Gu;have e1':decide ((a:Int)<(r:Int))=true:=by simpa using e1
   have e2:Ab.wrap ((r:Int)-1)=(p:Int):=by rw[Ca _ Gu];omega
   have e3:(p:Int)<(n:Int):=Gu;have e4:(r:Int)<(n:Int):=Gu;have e5:(0:Int)<=(p:Int):=Gu;have e6:(0:Int)<=(r:Int):=Gu;have HP:=Ah hp;have jq:=Ah hr;have G3:=Ah g3;subst e0;have XK:=Ah iu;have HL12:=Ah xx;have G1:=Ah g1;have G2:=Ah g2;clear aa g1 g2 g3 hp hr hj gn iu xx;go_wp2
   go_still_tail 14,Gw
   change wpList _ _ _ _ _ wr.drew;go_wp2_with fail;refine(Wc x y _).mono ?_;rintro e w2 ⟨rfl,aj⟩;have ai:=Hx mj.out.drew (Am _) aj;have du:w.grownBy w2 (Af g):=Pt (Rh tb) aj;clear c0 c1 c2 c3 d0 d1 d2 d3 z0 z1 z2 z3 y0 y1 y2 y3 aj tb;by_cases ef:x.t<y.t
   ·rw[Tu ef];have ml:=Ah ef;obtain⟨⟨c0,c1,c2,c3⟩,z0,z1,z2,z3⟩:=Lp ai XK.out G1.out;obtain⟨⟨d0,d1,d2,d3⟩,y0,y1,y2,y3⟩:=Lp ai XK.out G2.out;have DZ:=Wt (a:=x) (b:=y) (i:=r) (j:=p) ai (by rw[<-XK.out];omega) (by rw[<-XK.out];omega);rw[G3.out]at DZ;have sm:=Ah DZ;have fp:¬p=r:=oHx jq.out;have hrp:¬r=p:=λh=>fp h.symm;clear ef DZ ai;go_wp2
    go_region
    obtain⟨h1,h2⟩:=sm.out;clear sm c0 c1 c2 c3 d0 d1 d2 d3 z0 z1 z2 z3 y0 y1 y2 y3;generalize ((((((((w2.setCell _ _).setCell _ _).setCell _ _).setCell _ _).setCell _ _).setCell _ _).setCell _ _).setCell _ _).drew=W3 at h1 h2⊢;have H1:=Ah h1;have H2:=Ah (Kt du h2);clear h1 h2 du;go_wp2
    go_roundw
    case rel=>
     refine⟨S1,y::S2,p,HP.out,rfl,?_,?_,H1.out,H2.out⟩
     ·rw[wz.out];simp
     ·intro u hu;rcases Bk.1 hu with rfl|hu
      ·exact ml.out
      ·exact EH.out u hu
    case measure=>have:=jq.out;simp[intOf];omega
   ·have hc:Ih x.t y.t=0∨Ih x.t y.t=1:=by unfold Ih;rw[Gz ef];split<;>simp
    have EY:decide (Ih x.t y.t<0)=false:=by rcases hc with hc|hc<;>rw[hc]<;>rfl
    have ml:=Ah ef;have jg:=Ah ai;clear ef hc ai;go_wp2
    go_roundw
    case rel=>
     refine⟨q+1,i+1,Gu,Gu,by have:=HI.out;omega,by go_num,?_,du⟩;have zd:=HASC.out;rw[wz.out]at zd;obtain⟨DB,S9,_⟩:=xD.1 zd;obtain⟨_,_,ha3⟩:=xD.1 DB;have hle:y.t<=x.t:=oHx ml.out
     have e:P++(srt Sr.t (X.take (q+1))++X.drop (q+1))++S=Kj P (S1++[y]) x S2 R:=by
      rw[pd.out,wz.out,fE (S1:=S1++[y]) (S2:=S2) (x:=x) ?_ EH.out,HR.out]
      ·simp[Kj]
      ·intro u hu;rcases Bl.1 hu with hu|hu
       ·exact Int.le_trans (ha3 u hu y Gx) hle
       ·rw[Ge]at hu;subst hu;exact hle
     rw[e];exact jg.out
    case measure=>simp[intOf];omega
 ·have hle:X.length<=q:=by have:=HA.out;have:=HB.out;omega
  have e:P++(srt Sr.t (X.take q)++X.drop q)++S=P++srt Sr.t X++S:=by
   rw[Bg hle,Ct hle,Fe]
  rw[e]at aa;have jg:=Ah aa;have D7:¬(i:Int)<(b:Int):=Gu;clear aa e hi;go_wp2_with fail
  go_end0
  refine⟨rfl,?_,fj⟩;rw[<-Bj];exact jg.out
theorem As3 (P S1:List Sr) (y x:Sr) (S2 R:List Sr) {p q:Nat} (hp:p=P.length+S1.length) (hq:q=P.length+S1.length+1):
  (Kj P S1 x (y::S2) R)[p]? =Af x/\(Kj P S1 x (y::S2) R)[q]? =Af y/\((Kj P S1 x (y::S2) R).set p y).set q x=Kj P (S1++[y]) x S2 R:=by
 have e1:Kj P S1 x (y::S2) R=(P++S1)++x::([]++y::(S2++R)):=by simp[Kj]
 have e2:Kj P (S1++[y]) x S2 R=(P++S1)++y::([]++x::(S2++R)):=by simp[Kj]
 rw[e1,e2];exact Zx (P++S1) [] (S2++R) x y Hu Hu
theorem Yt {P B S:List Sr} {i k:Nat} (hi:i<B.length) (hk:k=P.length+i):(P++B++S)[k]? =Af B[i]:=by
 subst hk;rw[Bj,Ee Gu,Nat.add_sub_cancel_left,Fj hi,Aw hi]
theorem As4 {P S1:List Sr} {x:Sr} {S2 R:List Sr} {i k:Nat} (hi:i<S2.length) (hk:k=P.length+S1.length+1+i):(Kj P S1 x S2 R)[k]? =Af S2[i]:=by
 have e:Kj P S1 x S2 R=(P++S1++[x])++S2++R:=by simp[Kj]
 rw[e];exact Yt hi Hu
theorem Ad5 {P S1:List Sr} {x:Sr} {S2 R:List Sr} {i k:Nat} (hi:i<S1.length) (hk:k=P.length+i):(Kj P S1 x S2 R)[k]? =Af S1[i]:=by
 have e:Kj P S1 x S2 R=P++S1++(x::S2++R):=by simp[Kj]
 rw[e];exact Yt hi hk
theorem As5 {P S1:List Sr} {x:Sr} {S2 R:List Sr} {k:Nat} (hk:k=P.length+S1.length):(Kj P S1 x S2 R)[k]? =Af x:=by
 have e:Kj P S1 x S2 R=(P++S1)++[x]++(S2++R):=by simp[Kj]
 rw[e];exact Yt (B:=[x]) (i:=0) Gx Hu
theorem Ak6 (base g n cap cc:Nat) (P B S:List Sr) (x:Sr) (a m b:Nat) (w:Aj) (ha:a=P.length) (hm:m=P.length+1) (hb:b=P.length+1+B.length) (hn:n=P.length+1+B.length+S.length) (hl:n<=1000000000) (hB:Pr Sr.t B)
  (aa:w.ownsRow base 92 4 (Ad (Af ⟨g,0,Ae⟩) n cap) n (recs (Kj P [] x B S))):
  Al Do 229 #[Ad (Af ⟨g,0,Ae⟩) n cc,a,m,b,.func (.func 123) #[] #[]] w (Lo base g n cap (P++mrg Sr.t [x] B++S) w):=by
 obtain⟨D',sr⟩:=ez (P++mrg Sr.t [x] B++S);rw[<-sr];have HD:=Ah sr;have HA:=Ah ha;have HM:=Ah hm;have HB:=Ah hb;have HN:=Ah hn;have HO:=Ah aa;have gv:=Ah hB;have jk:a<m:=Gu;have VT:m<=b:=Gu;have LE:b<=n:=Gu;have e1:(m:Int)-(a:Int)=1:=Gu;have e1b:((m:Int)-(a:Int)==1)=true:=by simpa using e1
 clear ha hm hb hn aa hB e1 sr;go_enter Tryz.func229,Tryz.ntmps229;go_wp2
 go_loopw [10,11,12] (λTE tu _ wr=>∃i j:Nat,m<=i/\i<=j/\j<=b/\TE= Aa Ab i/\tu= Aa Ab j/\Hid (∀q y,q+m<i->B[q]? =Af y->y.t<x.t)/\Hid (∀q y,j<=q+m->B[q]? =Af y->x.t<=y.t)/\wr.ownsRow base 92 4 (Ad (Af ⟨g,0,Ae⟩) n cap) n (recs (Kj P [] x B S))/\w.grownBy wr (Af g)) (λTE tu _ _=>(intOf tu).toNat-(intOf TE).toNat)
 case atStart=>
  refine⟨m,b,Gu,Gu,Gu,rfl,rfl,Ah (λq y h=>Gu),Ah (λq y h hy=>?_),HO.out,Jr _ _⟩;have:=(Ax.1 hy).1;have:=HB.out;have:=HM.out;omega
 obtain⟨i,j,hmi,yj,hjb,rfl,rfl,H1,H2,aa,fj⟩:=hrel;have iu:n=(Kj P [] x B S).length:=by rw[Tb];have:=HN.out;simp;omega
 by_cases ad:i<j
 ·obtain⟨h,hh⟩:=ez ((i+j)/2);have B8:h-m<B.length:=by have:=HB.out;have:=HM.out;omega
  have gh:=As4 (P:=P) (S1:=[]) (x:=x) (R:=S) (k:=h) B8 (by have:=HM.out;simp;omega);have ga:=As5 (P:=P) (S1:=[]) (x:=x) (S2:=B) (R:=S) (k:=a) (by have:=HA.out;simp;omega);obtain⟨y,hy⟩:=ey (B[h-m]);rw[hy]at gh;obtain⟨⟨c0,c1,c2,c3⟩,_⟩:=Lp aa iu gh;obtain⟨⟨d0,d1,d2,d3⟩,_⟩:=Lp aa iu ga;have mj:=Ah aa;have HY:=Ah hy;have HH:=Ah hh;have XK:=Ah iu;have q1:(i:Int)<(j:Int):=Gu;have q2:((i:Int)+(j:Int))/2=(h:Int):=Gu;have q3:(h:Int)<(n:Int):=Gu;have q4:(a:Int)<(n:Int):=Gu;have q5:i<=h:=Gu;have q6:h<j:=Gu;clear aa hy hh gh ga iu;go_wp2
  go_still_tail 9,Gw
  change wpList _ _ _ _ _ wr.drew;go_wp2_with fail;refine(Wc y x _).mono ?_;rintro e w2 ⟨rfl,aj⟩;have ai:=Hx mj.out.drew (Am _) aj;have du:w.grownBy w2 (Af g):=Pt (Rh fj) aj;clear c0 c1 c2 c3 d0 d1 d2 d3 aj fj q2;by_cases ef:y.t<x.t
  ·rw[Tu ef];have ml:=Ah ef;have jg:=Ah ai;clear ef ai;go_wp2
   go_roundw
   case rel=>
    refine⟨h+1,j,Gu,Gu,Gu,by go_num,rfl,Ah (λq u hq hu=>?_),H2,jg.out,du⟩;obtain⟨SK,rfl⟩:=Ax.1 hu;have h3:=Rv gv.out (i:=q) (j:=h-m) SK B8 Gu;rw[HY.out]at h3;have:=ml.out;omega
   case measure=>simp[intOf];omega
  ·have hc:Ih y.t x.t=0∨Ih y.t x.t=1:=by unfold Ih;rw[Gz ef];split<;>simp
   have EY:decide (Ih y.t x.t<0)=false:=by rcases hc with hc|hc<;>rw[hc]<;>rfl
   have ml:=Ah ef;have jg:=Ah ai;clear ef hc ai;go_wp2
   go_roundw
   case rel=>
    refine⟨i,h,Gu,Gu,Gu,rfl,rfl,H1,Ah (λq u hq hu=>?_),jg.out,du⟩;obtain⟨SK,rfl⟩:=Ax.1 hu;have h3:=Rv gv.out (i:=h-m) (j:=q) B8 SK Gu;rw[HY.out]at h3;have:=ml.out;omega
   case measure=>simp[intOf];omega
 ·obtain rfl:i=j:=Gu
  have am:D'=Kj P (B.take (i-m)) x (B.drop (i-m)) S:=by
   have e:=Af9 (t:=Sr.t) (S1:=B.take (i-m)) (S2:=B.drop (i-m)) (x:=x) (λu hu=>by
    obtain⟨q,hq,rfl⟩:=Be.1 hu;rw[Bm]at hq;rw[Dc];exact H1.out q _ Gu (Aw Gu)) (λu hu=>by
    obtain⟨q,hq,rfl⟩:=Be.1 hu;rw[Dx]at hq;rw[List.getElem_drop];exact H2.out (i-m+q) _ Gu (Aw Gu))
   rw[Fc]at e;rw[HD.out,e];rfl
  have HF:=Ah am;have mj:=Ah aa;have hib:i-m<=B.length:=by have:=HB.out;have:=HM.out;omega
  clear am aa iu H1 H2;go_wp2_with fail;obtain⟨wo,rfl⟩:∃wo:Aj,wo=wr:=⟨_,rfl⟩
  go_loopw [13] (λNH wr=>∃k q:Nat,k=a+q/\q<=i-m/\NH= Aa Ab k/\wr.ownsRow base 92 4 (Ad (Af ⟨g,0,Ae⟩) n cap) n (recs (Kj P (B.take q) x (B.drop q) S))/\w.grownBy wr (Af g)) (λNH _=>i-(intOf NH).toNat)
  case atStart=>exact⟨a,0,Gu,Gu,rfl,by simpa using mj.out,fj⟩
  obtain⟨k,q,hk,hq,rfl,aa,tb⟩:=hrel;have HK:=Ah hk;by_cases gp:q<i-m
  ·obtain⟨r,hr⟩:=ez (k+1);have V2:q<B.length:=Gu;obtain⟨y,hy⟩:=ey (B[q]);rw[Gn V2,hy]at aa;have RU:(B.take q).length=q:=by rw[Bm];omega
   obtain⟨g1,g2,g3⟩:=As3 P (B.take q) y x (B.drop (q+1)) S (p:=k) (q:=r) (by rw[RU];have:=HA.out;omega) (by rw[RU];have:=HA.out;omega);have iu:n=(Kj P (B.take q) x (y::B.drop (q+1)) S).length:=by rw[Tb,RU];have:=HN.out;simp;omega
   obtain⟨⟨c0,c1,c2,c3⟩,z0,z1,z2,z3⟩:=Lp aa iu g1;obtain⟨⟨d0,d1,d2,d3⟩,y0,y1,y2,y3⟩:=Lp aa iu g2;have DZ:=Wt (a:=x) (b:=y) (i:=k) (j:=r) aa (by rw[<-iu];omega) (by rw[<-iu];omega);have et:B.take q++[y]=B.take (q+1):=by rw[Bc V2,hy]
   rw[g3,et]at DZ;have sm:=Ah DZ;have e2:Ab.wrap ((k:Int)+1)=(r:Int):=by rw[Ca _ Gu];omega
   have e3:(k:Int)<(n:Int):=Gu;have e4:(r:Int)<(n:Int):=Gu;have e5:(0:Int)<=(k:Int):=Gu;have e6:(0:Int)<=(r:Int):=Gu;have e7:(k:Int)<(i:Int)-1:=Gu;have D0:¬k=r:=Gu;have hrk:¬r=k:=Gu;have HR:=Ah hr;clear DZ aa g1 g2 g3 iu RU et hy hr hk;go_wp2
   go_region
   obtain⟨h1,h2⟩:=sm.out;clear sm c0 c1 c2 c3 d0 d1 d2 d3 z0 z1 z2 z3 y0 y1 y2 y3;generalize ((((((((wr.setCell _ _).setCell _ _).setCell _ _).setCell _ _).setCell _ _).setCell _ _).setCell _ _).setCell _ _).drew=W3 at h1 h2⊢;have H1:=Ah h1;have H2:=Ah (Kt tb h2);clear h1 h2 tb;go_wp2
   go_roundw
   case rel=>exact⟨r,q+1,by have:=HR.out;have:=HK.out;omega,Gu,rfl,H1.out,H2.out⟩
   case measure=>have:=HR.out;simp[intOf];omega
  ·obtain rfl:q=i-m:=Gu;have e7:¬(k:Int)<(i:Int)-1:=by have:=HA.out;have:=HM.out;omega
   have ak:=aa;rw[<-HF.out]at ak;have jg:=Ah ak;clear aa ak hk;go_wp2_with fail
   go_end0
   exact⟨rfl,jg.out,tb⟩
theorem Ba8 (base g n cap cc:Nat) (P B S:List Sr) (x:Sr) (a m b:Nat) (w:Aj) (ha:a=P.length) (hm:m=P.length+B.length) (hb:b=P.length+B.length+1) (hn:n=P.length+B.length+1+S.length) (dl:2<=B.length) (hl:n<=1000000000) (hB:Pr Sr.t B)
  (aa:w.ownsRow base 92 4 (Ad (Af ⟨g,0,Ae⟩) n cap) n (recs (Kj P B x [] S))):
  Al Do 229 #[Ad (Af ⟨g,0,Ae⟩) n cc,a,m,b,.func (.func 123) #[] #[]] w (Lo base g n cap (P++mrg Sr.t B [x]++S) w):=by
 obtain⟨D',sr⟩:=ez (P++mrg Sr.t B [x]++S);rw[<-sr];have HD:=Ah sr;have HA:=Ah ha;have HM:=Ah hm;have HB:=Ah hb;have HN:=Ah hn;have HO:=Ah aa;have gv:=Ah hB;have jk:a<m:=Gu;have VT:m<=b:=Gu;have LE:b<=n:=Gu;have e1b:((m:Int)-(a:Int)==1)=false:=Hu;have e2b:((b:Int)-(m:Int)==1)=true:=Hu;clear ha hm hb hn aa hB sr;go_enter Tryz.func229,Tryz.ntmps229;go_wp2
 go_loopw [14,15,16] (λTE tu _ wr=>∃i j:Nat,a<=i/\i<=j/\j<=m/\TE= Aa Ab i/\tu= Aa Ab j/\Hid (∀q y,q+a<i->B[q]? =Af y->y.t<=x.t)/\Hid (∀q y,j<=q+a->B[q]? =Af y->x.t<y.t)/\wr.ownsRow base 92 4 (Ad (Af ⟨g,0,Ae⟩) n cap) n (recs (Kj P B x [] S))/\w.grownBy wr (Af g)) (λTE tu _ _=>(intOf tu).toNat-(intOf TE).toNat)
 case atStart=>
  refine⟨a,m,Gu,Gu,Gu,rfl,rfl,Ah (λq y h=>Gu),Ah (λq y h hy=>?_),HO.out,Jr _ _⟩;have:=(Ax.1 hy).1;have:=HA.out;have:=HM.out;omega
 obtain⟨i,j,hmi,yj,hjb,rfl,rfl,H1,H2,aa,fj⟩:=hrel;have iu:n=(Kj P B x [] S).length:=by rw[Tb];have:=HN.out;simp;omega
 by_cases ad:i<j
 ·obtain⟨h,hh⟩:=ez ((i+j)/2);have B8:h-a<B.length:=by have:=HA.out;have:=HM.out;omega
  have gh:=Ad5 (P:=P) (x:=x) (S2:=[]) (R:=S) (k:=h) B8 (oHx HA.out);have ga:=As5 (P:=P) (S1:=B) (x:=x) (S2:=[]) (R:=S) (k:=m) (oHx HM.out);obtain⟨y,hy⟩:=ey (B[h-a]);rw[hy]at gh;obtain⟨⟨c0,c1,c2,c3⟩,_⟩:=Lp aa iu gh;obtain⟨⟨d0,d1,d2,d3⟩,_⟩:=Lp aa iu ga;have mj:=Ah aa;have HY:=Ah hy;have HH:=Ah hh;have XK:=Ah iu;have q1:(i:Int)<(j:Int):=Gu;have q2:((i:Int)+(j:Int))/2=(h:Int):=Gu;have q3:(h:Int)<(n:Int):=Gu;have q4:(m:Int)<(n:Int):=by have:=HM.out;have:=HN.out;omega
  have q5:i<=h:=Gu;have q6:h<j:=Gu;clear aa hy hh gh ga iu;go_wp2
  go_still_tail 9,Gw
  change wpList _ _ _ _ _ wr.drew;go_wp2_with fail;refine(Wc x y _).mono ?_;rintro e w2 ⟨rfl,aj⟩;have ai:=Hx mj.out.drew (Am _) aj;have du:w.grownBy w2 (Af g):=Pt (Rh fj) aj;clear c0 c1 c2 c3 d0 d1 d2 d3 aj fj q2;by_cases ef:x.t<y.t
  ·rw[Tu ef];have ml:=Ah ef;have jg:=Ah ai;clear ef ai;go_wp2
   go_roundw
   case rel=>
    refine⟨i,h,Gu,Gu,Gu,rfl,rfl,H1,Ah (λq u hq hu=>?_),jg.out,du⟩;obtain⟨SK,rfl⟩:=Ax.1 hu;have h3:=Rv gv.out (i:=h-a) (j:=q) B8 SK Gu;rw[HY.out]at h3;have:=ml.out;omega
   case measure=>simp[intOf];omega
  ·have hc:Ih x.t y.t=0∨Ih x.t y.t=1:=by unfold Ih;rw[Gz ef];split<;>simp
   have EY:decide (Ih x.t y.t<0)=false:=by rcases hc with hc|hc<;>rw[hc]<;>rfl
   have ml:=Ah ef;have jg:=Ah ai;clear ef hc ai;go_wp2
   go_roundw
   case rel=>
    refine⟨h+1,j,Gu,Gu,Gu,by go_num,rfl,Ah (λq u hq hu=>?_),H2,jg.out,du⟩;obtain⟨SK,rfl⟩:=Ax.1 hu;have h3:=Rv gv.out (i:=q) (j:=h-a) SK B8 Gu;rw[HY.out]at h3;have:=ml.out;omega
   case measure=>simp[intOf];omega
 ·obtain rfl:i=j:=Gu
  have am:D'=Kj P (B.take (i-a)) x (B.drop (i-a)) S:=by
   have e:=fE (t:=Sr.t) (S1:=B.take (i-a)) (S2:=B.drop (i-a)) (x:=x) (λu hu=>by
    obtain⟨q,hq,rfl⟩:=Be.1 hu;rw[Bm]at hq;rw[Dc];exact H1.out q _ Gu (Aw Gu)) (λu hu=>by
    obtain⟨q,hq,rfl⟩:=Be.1 hu;rw[Dx]at hq;rw[List.getElem_drop];exact H2.out (i-a+q) _ Gu (Aw Gu))
   rw[Fc]at e;rw[HD.out,e];rfl
  have HF:=Ah am;have mj:=Ah aa;have hib:i-a<=B.length:=by have:=HA.out;have:=HM.out;omega
  clear am aa iu H1 H2;go_wp2_with fail;obtain⟨wo,rfl⟩:∃wo:Aj,wo=wr:=⟨_,rfl⟩
  go_loopw [17] (λNH wr=>∃k q:Nat,k=a+q/\i-a<=q/\q<=B.length/\NH= Aa Ab k/\wr.ownsRow base 92 4 (Ad (Af ⟨g,0,Ae⟩) n cap) n (recs (Kj P (B.take q) x (B.drop q) S))/\w.grownBy wr (Af g)) (λNH _=>(intOf NH).toNat)
  case atStart=>exact⟨m,B.length,by have:=HA.out;have:=HM.out;omega,Gu,Gu,rfl,by simpa using mj.out,fj⟩
  obtain⟨k,q,hk,hq,V2,rfl,aa,tb⟩:=hrel;have HK:=Ah hk;by_cases gp:i-a<q
  ·obtain⟨r,hr⟩:=ez (k-1);have hqB':q-1<B.length:=Gu;obtain⟨y,hy⟩:=ey (B[q-1])
   have et:B.take q=B.take (q-1)++[y]:=by
    have:=Bc hqB';rw[hy,Nat.sub_add_cancel Gu]at this;exact this
   have ed:y::B.drop q=B.drop (q-1):=by
    have:=Gn hqB';rw[hy,Nat.sub_add_cancel Gu]at this;exact this.symm
   rw[et]at aa;have RU:(B.take (q-1)).length=q-1:=by rw[Bm];omega
   obtain⟨g1,g2,g3⟩:=yC P (B.take (q-1)) y x (B.drop q) S (p:=k) (q:=r) (by rw[RU];have:=HA.out;omega) (by rw[RU];have:=HA.out;omega);have iu:n=(Kj P (B.take (q-1)++[y]) x (B.drop q) S).length:=by rw[Tb,Bh,RU];have:=HN.out;simp;omega
   obtain⟨⟨c0,c1,c2,c3⟩,z0,z1,z2,z3⟩:=Lp aa iu g1;obtain⟨⟨d0,d1,d2,d3⟩,y0,y1,y2,y3⟩:=Lp aa iu g2;have sf:k<n:=by have:=HA.out;have:=HN.out;omega
   have DZ:=Wt (a:=x) (b:=y) (i:=k) (j:=r) aa (by rw[<-iu];omega) (by rw[<-iu];omega);rw[g3,ed]at DZ;have sm:=Ah DZ;have e2:Ab.wrap ((k:Int)-1)=(r:Int):=by rw[Ca _ Gu];omega
   have e3:(k:Int)<(n:Int):=Gu;have e4:(r:Int)<(n:Int):=Gu;have e5:(0:Int)<=(k:Int):=Gu;have e6:(0:Int)<=(r:Int):=Gu;have e7:(i:Int)<(k:Int):=Gu;have D0:¬k=r:=Gu;have hrk:¬r=k:=Gu;have HR:=Ah hr;clear DZ aa g1 g2 g3 iu RU et ed hy hr hk;go_wp2
   go_region
   obtain⟨h1,h2⟩:=sm.out;clear sm c0 c1 c2 c3 d0 d1 d2 d3 z0 z1 z2 z3 y0 y1 y2 y3;generalize ((((((((wr.setCell _ _).setCell _ _).setCell _ _).setCell _ _).setCell _ _).setCell _ _).setCell _ _).setCell _ _).drew=W3 at h1 h2⊢;have H1:=Ah h1;have H2:=Ah (Kt tb h2);clear h1 h2 tb;go_wp2
   go_roundw
   case rel=>exact⟨r,q-1,by have:=HR.out;have:=HK.out;omega,Gu,Gu,rfl,H1.out,H2.out⟩
   case measure=>have:=HR.out;simp[intOf];omega
  ·obtain rfl:q=i-a:=Gu;have e7:¬(i:Int)<(k:Int):=Gu;have ak:=aa;rw[<-HF.out]at ak;have jg:=Ah ak;clear aa ak hk;go_wp2_with fail
   go_end0
   exact⟨rfl,jg.out,tb⟩
def xB (base g n cap cc c:Nat):Prop:=
 ∀(P A B S:List Sr) (a m b:Nat) (w:Aj),A.length+B.length<=c->0<A.length->0<B.length->a=P.length->m=P.length+A.length->b=P.length+A.length+B.length->n=P.length+A.length+B.length+S.length->Pr Sr.t A->Pr Sr.t B->
  w.ownsRow base 92 4 (Ad (Af ⟨g,0,Ae⟩) n cap) n (recs (P++A++B++S))->
  Al Do 229 #[Ad (Af ⟨g,0,Ae⟩) n cc,a,m,b,.func (.func 123) #[] #[]] w (Lo base g n cap (P++mrg Sr.t A B++S) w)
def By4 (A B:List Sr) (a mid lo hi s r:Nat):Prop:=
 (s=lo∨∃x y,A[s-1-a]? =Af x/\B[mid-s]? =Af y/\x.t<=y.t)/\(r=hi∨∃x y,A[r-a]? =Af x/\B[mid-1-r]? =Af y/\y.t<x.t)
theorem Bn5 (base g n cap cc c:Nat) (hl:n<=1000000000) (IH:xB base g n cap cc c) (P A B S:List Sr) (a m b:Nat) (w:Aj) (hc:A.length+B.length<=c+1) (qf:2<=A.length) (dl:2<=B.length) (ha:a=P.length) (hm:m=P.length+A.length) (hb:b=P.length+A.length+B.length) (hn:n=P.length+A.length+B.length+S.length) (hA:Pr Sr.t A) (hB:Pr Sr.t B)
  (aa:w.ownsRow base 92 4 (Ad (Af ⟨g,0,Ae⟩) n cap) n (recs (P++A++B++S))):
  Al Do 229 #[Ad (Af ⟨g,0,Ae⟩) n cc,a,m,b,.func (.func 123) #[] #[]] w (Lo base g n cap (P++mrg Sr.t A B++S) w):=by
 obtain⟨D',sr⟩:=ez (P++mrg Sr.t A B++S);rw[<-sr];have HD:=Ah sr;have HA:=Ah ha;have HM:=Ah hm;have HB:=Ah hb;have HN:=Ah hn;have HO:=Ah aa;have HAA:=Ah hA;have gv:=Ah hB;have jk:a+2<=m:=Gu;have VT:m+2<=b:=Gu;have LE:b<=n:=Gu;obtain⟨mid,IA⟩:=ez ((a+b)/2);have e1b:((m:Int)-(a:Int)==1)=false:=Hu;have e2b:((b:Int)-(m:Int)==1)=false:=Hu;have e3b:((a:Int)+(b:Int))/2=(mid:Int):=Gu;have GC:=Ah IA;have mw:a+2<=mid:=Gu;have MA:mid+2<=b:=Gu;have hm3:2*mid<=a+b:=Gu;have hm4:a+b<=2*mid+1:=Gu;have HC:=Ah hc;clear ha hm hb hn aa hA hB sr IA hc;go_enter Tryz.func229,Tryz.ntmps229;go_upto_if 140 with fail;go_cut [20,21]from 138 to 146 (λIP TG wx=>∃lo hi:Nat,IP= Aa Ab lo/\TG= Aa Ab hi/\a<=lo/\lo<=hi/\hi<=m/\hi<=mid/\mid+m<=lo+b/\(lo=a∨lo+b=mid+m)/\(hi=m∨hi=mid)/\w=wx)
 case first=>
  by_cases zh:mid<m
  ·have y9:(mid:Int)<(m:Int):=Gu;go_wp2;go_meet;exact⟨mid+m-b,mid,by go_num,rfl,Gu,Gu,Gu,Gu,Gu,Gu,Gu,rfl⟩
  ·have y9:¬(mid:Int)<(m:Int):=Gu;go_wp2;go_meet;exact⟨a,m,rfl,rfl,Gu,Gu,Gu,Gu,Gu,Gu,Gu,rfl⟩
 obtain⟨lo,hi,rfl,rfl,l1,l2,l3,l4,l5,l6,l7,rfl⟩:=hcut;have L6:=Ah l6;have L7:=Ah l7;clear l6 l7;go_wp2
 go_loopw [20,21,23] (λIP TG _ wr=>∃s r:Nat,lo<=s/\s<=r/\r<=hi/\IP= Aa Ab s/\TG= Aa Ab r/\By4 A B a mid lo hi s r/\wr.ownsRow base 92 4 (Ad (Af ⟨g,0,Ae⟩) n cap) n (recs (P++A++B++S))/\w.grownBy wr (Af g)) (λIP TG _ _=>(intOf TG).toNat-(intOf IP).toNat)
 case atStart=>exact⟨lo,hi,Gu,Gu,Gu,rfl,rfl,⟨.inl rfl,.inl rfl⟩,HO.out,Jr _ _⟩
 obtain⟨s,r,r1,r2,r3,rfl,rfl,AB,aa,fj⟩:=hrel;have xb:=Ah AB;have mj:=Ah aa;clear AB aa;by_cases ad:s<r
 ·obtain⟨h,hh⟩:=ez ((s+r)/2);obtain⟨p,hp⟩:=ez (mid+m-1-h);have i1:h-a<A.length:=by have:=HM.out;have:=HA.out;omega
  have i2:mid-1-h<B.length:=by have:=HM.out;have:=HB.out;omega
  obtain⟨x,hx⟩:=ey (A[h-a]);obtain⟨y,hy⟩:=ey (B[mid-1-h])
  have gx:(P++A++B++S)[h]? =Af x:=by
   rw[Bj,<-hx];exact Yt i1 (oHx HA.out)
  have gy:(P++A++B++S)[p]? =Af y:=by
   rw[<-hy];exact Yt i2 (by have:=HM.out;simp;omega)
  have iu:n=(P++A++B++S).length:=by have:=HN.out;simp;omega
  obtain⟨⟨c0,c1,c2,c3⟩,_⟩:=Lp mj.out iu gx;obtain⟨⟨d0,d1,d2,d3⟩,_⟩:=Lp mj.out iu gy;have HX:=Ah hx;have HY:=Ah hy;have HH:=Ah hh;have q1:(s:Int)<(r:Int):=Gu;have q2:((s:Int)+(r:Int))/2=(h:Int):=Gu;have q3:(h:Int)<(n:Int):=Gu;have q4:(p:Int)<(n:Int):=Gu;have q7:Ab.wrap (p:Int)=(p:Int):=Ca _ Gu;have q8:(mid:Int)+(m:Int)-1-(h:Int)=(p:Int):=Gu;have q5:s<=h:=Gu;have q6:h<r:=Gu;clear hx hy hh hp gx gy iu;go_wp2
  go_still_tail 11,Gw
  change wpList _ _ _ _ _ wr.drew;go_wp2_with fail;refine(Wc y x _).mono ?_;rintro e w2 ⟨rfl,aj⟩;have ai:=Hx mj.out.drew (Am _) aj;have du:w.grownBy w2 (Af g):=Pt (Rh fj) aj;have jg:=Ah ai;clear c0 c1 c2 c3 d0 d1 d2 d3 aj fj q2 q7 q8 ai;by_cases ef:y.t<x.t
  ·rw[Tu ef];have ml:=Ah ef;clear ef
   as_aux_lemma=>
    go_wp2
    go_roundw
    case rel=>
     refine⟨s,h,Gu,Gu,Gu,rfl,rfl,⟨xb.out.1,.inr ⟨x,y,?_,?_,ml.out⟩⟩,jg.out,du⟩
     ·rw[Aw i1,HX.out]
     ·rw[Aw i2,HY.out]
    case measure=>simp[intOf];omega
  ·have hc:Ih y.t x.t=0∨Ih y.t x.t=1:=by unfold Ih;rw[Gz ef];split<;>simp
   have EY:decide (Ih y.t x.t<0)=false:=by rcases hc with hc|hc<;>rw[hc]<;>rfl
   have ml:=Ah ef;clear ef hc
   as_aux_lemma=>
    go_wp2
    go_roundw
    case rel=>
     refine⟨h+1,r,Gu,Gu,Gu,by go_num,rfl,⟨.inr ⟨x,y,?_,?_,by have:=ml.out;omega⟩,xb.out.2⟩,jg.out,du⟩
     ·rw[show h+1-1-a=h-a by omega,Aw i1,HX.out]
     ·rw[show mid-(h+1)=mid-1-h by omega,Aw i2,HY.out]
    case measure=>simp[intOf];omega
 ·obtain rfl:s=r:=Gu;obtain⟨en,qj⟩:=ez (mid+m-s);have VX:s-a<=A.length:=by have:=HM.out;have:=HA.out;omega
  have V2:mid-s<=B.length:=by have:=HM.out;have:=HB.out;omega
  have I5:=Bk6 (t:=Sr.t) (p:=s-a) (q:=mid-s) HAA.out gv.out VX V2 (by
   rcases xb.out.1 with h|⟨x,y,h1,h2,h3⟩
   ·rcases L6.out with h'|h'
    ·exact .inl Gu
    ·exact .inr (.inl (by have:=HM.out;have:=HB.out;omega))
   ·exact .inr (.inr ⟨x,y,by rw[show s-a-1=s-1-a by omega];exact h1,h2,h3⟩)) (by
   rcases xb.out.2 with h|⟨x,y,h1,h2,h3⟩
   ·rcases L7.out with h'|h'
    ·exact .inl (by have:=HM.out;have:=HA.out;omega)
    ·exact .inr (.inl Gu)
   ·exact .inr (.inr ⟨x,y,h1,by rw[show mid-s-1=mid-1-s by omega];exact h2,h3⟩))
  have QH:A.take (s-a)++A.drop (s-a)=A:=Fc _ _;have QK:B.take (mid-s)++B.drop (mid-s)=B:=Fc _ _;have YQ:(A.take (s-a)).length=s-a:=by rw[Bm];omega
  have YW:(B.take (mid-s)).length=mid-s:=by rw[Bm];omega
  have YS:(A.drop (s-a)).length=m-s:=by rw[Dx];have:=HM.out;have:=HA.out;omega
  have YY:(B.drop (mid-s)).length=b-en:=by rw[Dx];have:=HM.out;have:=HB.out;omega
  have YP:Pr Sr.t (A.take (s-a)):=HAA.out.sublist (List.take_sublist _ _);have YR:Pr Sr.t (A.drop (s-a)):=HAA.out.sublist (List.drop_sublist _ _);have YV:Pr Sr.t (B.take (mid-s)):=gv.out.sublist (List.take_sublist _ _);have YX:Pr Sr.t (B.drop (mid-s)):=gv.out.sublist (List.drop_sublist _ _);obtain⟨A1,YO⟩:=ez (A.take (s-a));obtain⟨A2,qf⟩:=ez (A.drop (s-a));obtain⟨B1,it⟩:=ez (B.take (mid-s));obtain⟨B2,dl⟩:=ez (B.drop (mid-s));rw[<-YO,<-qf,<-it,<-dl]at I5;rw[<-YO]at QH YQ YP;rw[<-qf]at QH YS YR;rw[<-it]at QK YW YV;rw[<-dl]at QK YY YX
  have au:wr.ownsRow base 92 4 (Ad (Af ⟨g,0,Ae⟩) n cap) n (recs (P++A1++A2++B1++B2++S)):=by
   have e:P++A1++A2++B1++B2++S=P++A++B++S:=by rw[<-QH,<-QK];simp
   rw[e];exact mj.out
  have E_:=Ah I5;have xd:=Ah YQ;have vq:=Ah YS;have xe:=Ah YW;have BB:=Ah YY;have SA1:=Ah YP;have SA2:=Ah YR;have SB1:=Ah YV;have SB2:=Ah YX;have CK:=Ah au;have wl:=Ah qj;have q1:¬(s:Int)<(s:Int):=Gu;have q2:(mid:Int)+(m:Int)-(s:Int)=(en:Int):=Gu;have q3:s<=mid:=Gu;have q4:mid<=en:=Gu;have q5:en<=b:=Gu;have q6:m<=en:=Gu;have q7:s<=m:=Gu;clear I5 YQ YS YW YY YP YR YV YX YO qf it dl QH QK au xb L6 L7 mj HO qj VX V2;obtain⟨cb,JM⟩:=ez (decide (s<m/\m<en));have M_:=Ah JM;clear JM;go_upto_region 39 with fail;go_cut [185]from 178 to 185 (λsb wx=>sb= .bool cb/\wr=wx)
  case first=>
   by_cases k1:s<m
   ·by_cases k2:m<en
    ·have WS:(s:Int)<(m:Int):=Gu;have k2':(m:Int)<(en:Int):=Gu;go_wp2;go_meet;exact⟨by rw[M_.out,Lb ⟨k1,k2⟩],rfl⟩
    ·have WS:(s:Int)<(m:Int):=Gu;have k2':¬(m:Int)<(en:Int):=Gu;go_wp2;go_meet;exact⟨by rw[M_.out,Ly (λh=>k2 h.2)],rfl⟩
   ·have WS:¬(s:Int)<(m:Int):=Gu;go_wp2;go_meet;exact⟨by rw[M_.out,Ly (λh=>k1 h.1)],rfl⟩
  obtain⟨rfl,rfl⟩:=hcut;go_upto_if 185 with fail;go_cut [191]from 186 to 191 (λ_ wx=>wx.ownsRow base 92 4 (Ad (Af ⟨g,0,Ae⟩) n cap) n (recs (P++A1++B1++A2++B2++S))/\w.grownBy wx (Af g))
  case first=>
   cases cb
   ·go_wp2;go_meet;refine⟨?_,fj⟩;have hk:=of_decide_eq_false M_.out.symm
    have e:P++A1++B1++A2++B2++S=P++A1++A2++B1++B2++S:=by
     by_cases k1:s<m
     ·have:B1=[]:=Es.1 (by rw[xe.out];have:=wl.out;omega);subst this;simp
     ·have:A2=[]:=Es.1 (by rw[vq.out];omega);subst this;simp
    rw[e];exact CK.out
   ·have hk:=Rl M_.out.symm;have tp:=vJ base g n cap cc (P++A1) A2 B1 (B2++S) s m en (.func (.func 123) #[] #[]) wr (by have:=HA.out;have:=xd.out;simp;omega) (by have:=HA.out;have:=xd.out;have:=vq.out;simp;omega) (by have:=HA.out;have:=xd.out;have:=vq.out;have:=xe.out;have:=wl.out;simp;omega) (by have:=HA.out;have:=HN.out;have:=HM.out;have:=HB.out;have:=xd.out;have:=vq.out;have:=xe.out;have:=BB.out;have:=wl.out;simp;omega) (by rw[vq.out];omega) (by rw[xe.out];have:=wl.out;omega) hl (by rw[<-Bj];exact CK.out);have e:P++A1++B1++A2++(B2++S)=P++A1++B1++A2++B2++S:=Gx;rw[e]at tp;have KI:=Ah tp;clear tp e hk;go_wp2_with fail;refine KI.out.mono ?_;rintro e w2 ⟨rfl,ai,du⟩;have jg:=Ah ai;clear ai;go_wp2;go_meet;exact⟨jg.out,Kt fj du⟩
  obtain⟨MP,VL⟩:=hcut;obtain⟨wd,rfl⟩:∃wd:Aj,wd=wc:=⟨_,rfl⟩;have v_:=Ah MP;clear MP;obtain⟨cd,ON⟩:=ez (decide (a<s/\s<mid));have N_:=Ah ON;clear ON;go_upto_region 41 with fail;go_cut [199]from 192 to 199 (λsb wx=>sb= .bool cd/\wd=wx)
  case first=>
   by_cases k1:a<s
   ·by_cases k2:s<mid
    ·have WS:(a:Int)<(s:Int):=Gu;have k2':(s:Int)<(mid:Int):=Gu;go_wp2;go_meet;exact⟨by rw[N_.out,Lb ⟨k1,k2⟩],rfl⟩
    ·have WS:(a:Int)<(s:Int):=Gu;have k2':¬(s:Int)<(mid:Int):=Gu;go_wp2;go_meet;exact⟨by rw[N_.out,Ly (λh=>k2 h.2)],rfl⟩
   ·have WS:¬(a:Int)<(s:Int):=Gu;go_wp2;go_meet;exact⟨by rw[N_.out,Ly (λh=>k1 h.1)],rfl⟩
  obtain⟨rfl,rfl⟩:=hcut;go_upto_if 199 with fail;go_cut [205]from 200 to 205 (λ_ wx=>wx.ownsRow base 92 4 (Ad (Af ⟨g,0,Ae⟩) n cap) n (recs (P++mrg Sr.t A1 B1++A2++B2++S))/\w.grownBy wx (Af g))
  case first=>
   cases cd
   ·go_wp2;go_meet;refine⟨?_,VL⟩;have hk:=of_decide_eq_false N_.out.symm
    have e:P++mrg Sr.t A1 B1++A2++B2++S=P++A1++B1++A2++B2++S:=by
     by_cases k1:a<s
     ·have:B1=[]:=Es.1 (by rw[xe.out];omega);subst this;simp[Pq]
     ·have:A1=[]:=Es.1 (by rw[xd.out];omega);subst this;simp[Nh]
    rw[e];exact v_.out
   ·have hk:=Rl N_.out.symm;have tp:=IH P A1 B1 (A2++B2++S) a s mid wd (by have:=HA.out;have:=HN.out;have:=HM.out;have:=HB.out;have:=HC.out;have:=xd.out;have:=vq.out;have:=xe.out;have:=BB.out;have:=wl.out;omega) (by have:=HA.out;have:=HN.out;have:=HM.out;have:=HB.out;have:=HC.out;have:=xd.out;have:=vq.out;have:=xe.out;have:=BB.out;have:=wl.out;omega) (by have:=HA.out;have:=HN.out;have:=HM.out;have:=HB.out;have:=HC.out;have:=xd.out;have:=vq.out;have:=xe.out;have:=BB.out;have:=wl.out;omega) HA.out (by have:=HA.out;have:=HN.out;have:=HM.out;have:=HB.out;have:=HC.out;have:=xd.out;have:=vq.out;have:=xe.out;have:=BB.out;have:=wl.out;omega) (by have:=HA.out;have:=HN.out;have:=HM.out;have:=HB.out;have:=HC.out;have:=xd.out;have:=vq.out;have:=xe.out;have:=BB.out;have:=wl.out;omega) (by have:=HA.out;have:=HN.out;have:=HM.out;have:=HB.out;have:=HC.out;have:=xd.out;have:=vq.out;have:=xe.out;have:=BB.out;have:=wl.out;simp;omega) SA1.out SB1.out (by simpa using v_.out);have e:P++mrg Sr.t A1 B1++(A2++B2++S)=P++mrg Sr.t A1 B1++A2++B2++S:=Gx;rw[e]at tp;clear e;have KI:=Ah tp;clear tp hk;go_wp2_with fail;refine KI.out.mono ?_;rintro e w2 ⟨rfl,ai,du⟩;have jg:=Ah ai;clear ai;go_wp2;go_meet;exact⟨jg.out,Kt VL du⟩
  obtain⟨MQ,VM⟩:=hcut;obtain⟨we,rfl⟩:∃we:Aj,we=wc:=⟨_,rfl⟩;have w_:=Ah MQ;clear MQ;obtain⟨ce,hce⟩:=ez (decide (mid<en/\en<b));have O_:=Ah hce;clear hce;go_upto_region 43 with fail;go_cut [213]from 206 to 213 (λsb wx=>sb= .bool ce/\we=wx)
  case first=>
   by_cases k1:mid<en
   ·by_cases k2:en<b
    ·have WS:(mid:Int)<(en:Int):=Gu;have k2':(en:Int)<(b:Int):=Gu;go_wp2;go_meet;exact⟨by rw[O_.out,Lb ⟨k1,k2⟩],rfl⟩
    ·have WS:(mid:Int)<(en:Int):=Gu;have k2':¬(en:Int)<(b:Int):=Gu;go_wp2;go_meet;exact⟨by rw[O_.out,Ly (λh=>k2 h.2)],rfl⟩
   ·have WS:¬(mid:Int)<(en:Int):=Gu;go_wp2;go_meet;exact⟨by rw[O_.out,Ly (λh=>k1 h.1)],rfl⟩
  obtain⟨rfl,rfl⟩:=hcut;go_upto_if 213 with fail
  cases ce
  ·have hk:=of_decide_eq_false O_.out.symm
   have e:D'=P++mrg Sr.t A1 B1++A2++B2++S:=by
    rw[HD.out,E_.out];by_cases k1:mid<en
    ·have:B2=[]:=Es.1 (by rw[BB.out];omega);subst this;simp[Pq]
    ·have:A2=[]:=Es.1 (by rw[vq.out];have:=wl.out;omega);subst this;simp[Nh]
   have MO:=w_.out;rw[<-e]at MO;have EM:=Ah MO;clear MO e hk;go_wp2_with fail
   go_end0
   exact⟨rfl,EM.out,VM⟩
  ·have hk:=Rl O_.out.symm;have hML:(mrg Sr.t A1 B1).length=mid-a:=by rw[yN];have:=HA.out;have:=HN.out;have:=HM.out;have:=HB.out;have:=HC.out;have:=xd.out;have:=vq.out;have:=xe.out;have:=BB.out;have:=wl.out;omega
   have tp:=IH (P++mrg Sr.t A1 B1) A2 B2 S mid en b we (by have:=HA.out;have:=HN.out;have:=HM.out;have:=HB.out;have:=HC.out;have:=xd.out;have:=vq.out;have:=xe.out;have:=BB.out;have:=wl.out;omega) (by have:=HA.out;have:=HN.out;have:=HM.out;have:=HB.out;have:=HC.out;have:=xd.out;have:=vq.out;have:=xe.out;have:=BB.out;have:=wl.out;omega) (by have:=HA.out;have:=HN.out;have:=HM.out;have:=HB.out;have:=HC.out;have:=xd.out;have:=vq.out;have:=xe.out;have:=BB.out;have:=wl.out;omega) (by have:=HA.out;have:=HN.out;have:=HM.out;have:=HB.out;have:=HC.out;have:=xd.out;have:=vq.out;have:=xe.out;have:=BB.out;have:=wl.out;rw[Bh];omega) (by have:=HA.out;have:=HN.out;have:=HM.out;have:=HB.out;have:=HC.out;have:=xd.out;have:=vq.out;have:=xe.out;have:=BB.out;have:=wl.out;rw[Bh];omega) (by have:=HA.out;have:=HN.out;have:=HM.out;have:=HB.out;have:=HC.out;have:=xd.out;have:=vq.out;have:=xe.out;have:=BB.out;have:=wl.out;rw[Bh];omega) (by have:=HA.out;have:=HN.out;have:=HM.out;have:=HB.out;have:=HC.out;have:=xd.out;have:=vq.out;have:=xe.out;have:=BB.out;have:=wl.out;rw[Bh];omega) SA2.out SB2.out w_.out
   have e:P++mrg Sr.t A1 B1++mrg Sr.t A2 B2++S=D':=by
    rw[HD.out,E_.out];simp
   rw[e]at tp;have KI:=Ah tp;clear tp hk e hML;go_wp2_with fail;refine KI.out.mono ?_;rintro e w2 ⟨rfl,ai,du⟩;have jg:=Ah ai;clear ai;go_wp2_with fail
   go_end0
   exact⟨rfl,jg.out,Kt VM du⟩
theorem zN (base g n cap cc:Nat) (hl:n<=1000000000) (c:Nat):xB base g n cap cc c:=by
 induction c with
 |zero=>
  intro P A B S a m b w hc hA;omega
 |succ c ih=>
  intro P A B S a m b w hc UQ EP ha hm hb hn hA hB aa
  match A,UQ with
  |[x],_=>
   exact Ak6 base g n cap cc P B S x a m b w ha (by simpa using hm) (by simpa using hb) (by simpa using hn) hl hB (by
    have e:Kj P [] x B S=P++[x]++B++S:=by simp[Kj]
    rw[e];exact aa)
  |x1::x2::A',_=>
   match B,EP with
   |[y],_=>
    exact Ba8 base g n cap cc P (x1::x2::A') S y a m b w ha hm (by simpa using hb) (by simpa using hn) Gx hl hA (by
     have e:Kj P (x1::x2::A') y [] S=P++(x1::x2::A')++[y]++S:=by simp[Kj]
     rw[e];exact aa)
   |y1::y2::B',_=>exact Bn5 base g n cap cc c hl ih P (x1::x2::A') (y1::y2::B') S a m b w hc Gx Gx ha hm hb hn hA hB aa
section
variable {α:Type} (t:α->Int)
def blks (bs:Nat):Nat->List α->List α
 |0,_=>[]
 |k+1,E=>srt t (E.take bs)++blks bs k (E.drop bs)
def St1 (a:Nat) (D D':List α):Prop:=∃k,a=20*k/\a<=D.length/\D'=blks t 20 k D++D.drop a
def St2 (bs:Nat) (D D':List α):Prop:=∃K,D.length<=bs*K/\D'=blks t bs K D
def St3 (bs a:Nat) (D D':List α):Prop:=∃k K,a=2*bs*k/\a<=D.length/\D.length<=a+bs*K/\D'=blks t (2*bs) k D++blks t bs K (D.drop a)
end
section
variable {α:Type} {t:α->Int}
theorem dL (bs k:Nat):blks t bs k []=[]:=by
 induction k with
 |zero=>rfl
 |succ k ih=>simp[blks,srt,ih]
theorem Sv (bs k:Nat) (D:List α):blks t bs (k+1) D=blks t bs k D++srt t ((D.drop (bs*k)).take bs):=by
 induction k generalizing D with
 |zero=>simp[blks]
 |succ k ih=>
  rw[blks,ih (D.drop bs)]
  conv=>rhs;rw[blks]
  rw[List.drop_drop,Bj,show bs+bs*k=bs*(k+1)by rw[Nat.mul_succ];omega]
theorem Yo (bs k:Nat) (D:List α) (h:bs*k<=D.length):(blks t bs k D).length=bs*k:=by
 induction k generalizing D with
 |zero=>rfl
 |succ k ih=>
  rw[Nat.mul_succ]at h⊢;rw[blks,Bh,Qv,Bm,ih _ (by rw[Dx];omega)];omega
theorem Ak0 (D:List α):St1 t 0 D D:=⟨0,rfl,Gk _,by simp[blks]⟩
theorem Ba2 {a:Nat} {D D':List α} (h:St1 t a D D') (hn:a+20<=D.length):∃P X S,D'=P++X++S/\P.length=a/\X.length=20/\D.length=a+20+S.length/\St1 t (a+20) D (P++srt t X++S):=by
 obtain⟨k,rfl,ha,rfl⟩:=h;refine⟨blks t 20 k D,(D.drop (20*k)).take 20,D.drop (20*k+20),?_,Yo 20 k D ha,?_,?_,k+1,Gu,hn,?_⟩
 ·rw[Bj,<-List.drop_drop,Fc]
 ·rw[Bm,Dx];omega
 ·rw[Dx];omega
 ·rw[Sv]
theorem Bn0 {a:Nat} {D D':List α} (h:St1 t a D D') (hn:D.length<a+20):∃P X,D'=P++X++[]/\P.length=a/\a+X.length=D.length/\St2 t 20 D (P++srt t X++[]):=by
 obtain⟨k,rfl,ha,rfl⟩:=h;refine⟨blks t 20 k D,D.drop (20*k),Gx,Yo 20 k D ha,by rw[Dx];omega,k+1,Gu,?_⟩;rw[Sv,Bg (by rw[Dx];omega),Fe]
theorem Ak1 {bs:Nat} {D D':List α} (h:St2 t bs D D'):St3 t bs 0 D D':=by
 obtain⟨K,hK,rfl⟩:=h;exact⟨0,K,Gx,Gx,Gu,by simp[blks]⟩
theorem qV (bs:Nat) (E:List α):srt t (E.take (2*bs))=mrg t (srt t (E.take bs)) (srt t ((E.drop bs).take bs)):=by
 rw[<-zJ,Nat.two_mul,List.take_add]
theorem Ba4 {bs a:Nat} {D D':List α} (hb:0<bs) (h:St3 t bs a D D') (hn:a+2*bs<=D.length):
  ∃P A B S,D'=P++A++B++S/\P.length=a/\A.length=bs/\B.length=bs/\D.length=a+bs+bs+S.length/\Pr t A/\Pr t B/\St3 t bs (a+2*bs) D (P++mrg t A B++S):=by
 obtain⟨k,K,ha,haD,hK,rfl⟩:=h
 match K,hK with
 |0,hK=>simp at hK;omega
 |1,hK=>simp at hK;omega
 |K+2,hK=>
  have e:bs*(K+2)=bs+bs+bs*K:=by rw[Nat.mul_add];omega
  have dw:(blks t (2*bs) k D).length=a:=by rw[Yo _ _ _ Gu,<-ha]
  have hSl:(blks t bs K (D.drop (a+2*bs))).length+(a+2*bs)=D.length:=by
   have fe:∀(K:Nat) (E:List α),E.length<=bs*K->(blks t bs K E).length=E.length:=by
    intro K
    induction K with
    |zero=>intro E hE;simp at hE;subst hE;rfl
    |succ K ih=>
     intro E hE;rw[Nat.mul_succ]at hE;rw[blks,Bh,Qv,ih _ (by rw[Dx];omega),Bm,Dx];omega
   rw[fe K _ (by rw[Dx];omega),Dx];omega
  refine⟨blks t (2*bs) k D,srt t ((D.drop a).take bs),srt t (((D.drop a).drop bs).take bs),blks t bs K (D.drop (a+2*bs)),?_,dw,?_,?_,Gu,Zt _,Zt _,k+1,K,?_,hn,?_,?_⟩
  ·rw[blks,blks,List.drop_drop,List.drop_drop];simp only[Bj];rw[show a+bs+bs=a+2*bs by omega]
  ·rw[Qv,Bm,Dx];omega
  ·rw[Qv,Bm,Dx,Dx];omega
  ·rw[Nat.mul_succ];omega
  ·omega
  ·rw[Sv,<-ha,qV]
theorem Ba3 {bs a:Nat} {D D':List α} (_hb:0<bs) (h:St3 t bs a D D') (hn:D.length<a+2*bs) (hm:a+bs<D.length):
  ∃P A B,D'=P++A++B++[]/\P.length=a/\A.length=bs/\a+bs+B.length=D.length/\Pr t A/\Pr t B/\St2 t (2*bs) D (P++mrg t A B++[]):=by
 obtain⟨k,K,ha,haD,hK,rfl⟩:=h
 match K,hK with
 |0,hK=>simp at hK;omega
 |1,hK=>simp at hK;omega
 |K+2,hK=>
  have dw:(blks t (2*bs) k D).length=a:=by rw[Yo _ _ _ Gu,<-ha]
  refine⟨blks t (2*bs) k D,srt t ((D.drop a).take bs),srt t (((D.drop a).drop bs).take bs),?_,dw,?_,?_,Zt _,Zt _,k+1,?_,?_⟩
  ·rw[blks,blks,List.drop_drop,List.drop_drop,Ct (show D.length<=a+bs+bs by omega),dL];simp only[Bj,Fe]
  ·rw[Qv,Bm,Dx];omega
  ·rw[Qv,Bm,Dx,Dx];omega
  ·rw[Nat.mul_succ];omega
  ·rw[Sv,<-ha,qV,Fe]
theorem Bn2 {bs a:Nat} {D D':List α} (h:St3 t bs a D D') (hn:D.length<=a+bs):St2 t (2*bs) D D':=by
 obtain⟨k,K,ha,haD,hK,rfl⟩:=h;refine⟨k+1,by rw[Nat.mul_succ];omega,?_⟩;have hdl:(D.drop a).length<=bs:=by rw[Dx];omega
 rw[Sv,<-ha,Bg (show(D.drop a).length<=2*bs by omega)]
 match K,hK with
 |0,hK=>
  have:D.drop a=[]:=Es.1 (by rw[Dx];simp at hK;omega);rw[this];rfl
 |K+1,hK=>rw[blks,Bg hdl,Ct hdl,dL,Fe]
theorem Bn1 {bs:Nat} {D D':List α} (h:St2 t bs D D') (hn:D.length<=bs):D'=srt t D:=by
 obtain⟨K,hK,rfl⟩:=h
 match K,hK with
 |0,hK=>
  have:D=[]:=Es.1 (by simp at hK;rw[hK];rfl);rw[this];rfl
 |K+1,hK=>rw[blks,Bg hn,Ct hn,dL,Fe]
end
theorem gS (base g n cap cc:Nat) (D:List Sr) (w:Aj) (hn:n=D.length) (hl:n<=100000000)
  (aa:w.ownsRow base 92 4 (Ad (Af ⟨g,0,Ae⟩) n cap) n (recs D)):
  Al Do 174 #[Ad (Af ⟨g,0,Ae⟩) n cc,n,.func (.func 123) #[] #[]] w (Lo base g n cap (srt Sr.t D) w):=by
 have HN:=Ah hn;have HO:=Ah aa;clear hn aa;go_enter Tryz.func174,Tryz.ntmps174;go_wp2
 go_loopw [7,8] (λs7 s8 wr=>∃(a b:Nat) (D':List Sr),b=a+20/\a<=n/\s7= Aa Ab a/\s8= Aa Ab b/\St1 Sr.t a D D'/\wr.ownsRow base 92 4 (Ad (Af ⟨g,0,Ae⟩) n cap) n (recs D')/\w.grownBy wr (Af g)) (λ_ s8 _=>n+20-(intOf s8).toNat)
 case atStart=>exact⟨0,20,D,Gu,Gu,rfl,rfl,Ak0 D,HO.out,Jr _ _⟩
 obtain⟨a,b,D',hb,han,rfl,rfl,br,aa,fj⟩:=hrel;have gw:=Ah br;have mj:=Ah aa;have HB:=Ah hb;clear br aa;by_cases ad:b<=n
 ·obtain⟨P,X,S,sr,hP,hX,hS,oc⟩:=Ba2 gw.out (by rw[<-HN.out];omega);have aa:=mj.out;rw[sr]at aa;have LU:=Xb base g n cap cc P X S a b wr hP.symm Gu (by rw[HN.out];omega) Gu aa;have XP:=Ah LU;have xa:=Ah oc;have D7:(b:Int)<=(n:Int):=Gu;clear LU oc aa sr hP hX hS hb mj;go_wp2_with fail;refine XP.out.mono ?_;rintro e w2 ⟨rfl,ai,du⟩;have jg:=Ah ai;have yr:=Ah (Kt fj du);clear ai fj du;go_wp2
  go_roundw
  case rel=>
   refine⟨b,b+20,P++srt Sr.t X++S,rfl,Gu,rfl,by go_num,?_,jg.out,yr.out⟩;rw[HB.out];exact xa.out
  case measure=>simp[intOf];omega
 ·obtain⟨P,X,sr,hP,hX,oc⟩:=Bn0 gw.out (by rw[<-HN.out];omega);have aa:=mj.out;rw[sr]at aa;have LU:=Xb base g n cap cc P X [] a n wr hP.symm (by rw[HN.out];omega) (by rw[HN.out];simp;omega) Gu aa;have XP:=Ah LU;have xa:=Ah oc;have D7:¬(b:Int)<=(n:Int):=Gu;clear LU oc aa sr hP hX hb mj;go_wp2_with fail;refine XP.out.mono ?_;rintro e w2 ⟨rfl,ai,du⟩;have jg:=Ah ai;have yr:=Ah (Kt fj du);clear ai fj du HB;go_wp2_with fail;obtain⟨wo,rfl⟩:∃wo:Aj,wo=wr:=⟨_,rfl⟩
  go_loopw [6,7,8,9] (λs6 _ _ _ wr=>∃(bs:Nat) (D':List Sr),0<bs/\(bs<=20∨bs<2*n)/\s6= Aa Ab bs/\St2 Sr.t bs D D'/\wr.ownsRow base 92 4 (Ad (Af ⟨g,0,Ae⟩) n cap) n (recs D')/\w.grownBy wr (Af g)) (λs6 _ _ _ _=>2*n+20-(intOf s6).toNat)
  case atStart=>exact⟨20,_,Gu,Gu,rfl,xa.out,jg.out,yr.out⟩
  obtain⟨bs,D1,hbs,LE,rfl,hst2,jy,hgr3⟩:=hrel;have F_:=Ah hst2;have TX:=Ah jy;clear hst2 jy;by_cases gp:bs<n
  ·have hlt2':(bs:Int)<(n:Int):=Gu;go_wp2_with fail;obtain⟨wp,rfl⟩:∃wp:Aj,wp=wr:=⟨_,rfl⟩
   go_loopw [7,8] (λs7 s8 wr=>∃(a b:Nat) (D':List Sr),b=a+2*bs/\a<=n/\s7= Aa Ab a/\s8= Aa Ab b/\St3 Sr.t bs a D D'/\wr.ownsRow base 92 4 (Ad (Af ⟨g,0,Ae⟩) n cap) n (recs D')/\w.grownBy wr (Af g)) (λ_ s8 _=>2*n+n-(intOf s8).toNat)
   case atStart=>exact⟨0,2*bs,D1,Gu,Gu,rfl,by go_num,Ak1 F_.out,TX.out,hgr3⟩
   obtain⟨a,b,D2,hb,han,rfl,rfl,hst3,wa,LQ⟩:=hrel;have YD:=Ah hst3;have TY:=Ah wa;have HB:=Ah hb;clear hst3 wa;by_cases LZ:b<=n
   ·obtain⟨P,A,B,S,sr,hP,hA,hB,hS,i',u',oc⟩:=Ba4 hbs YD.out (by rw[<-HN.out];omega);have aa:=TY.out;rw[sr]at aa;obtain⟨m,hm⟩:=ez (a+bs);have AB:=zN base g n cap cc Gu (A.length+B.length) P A B S a m b wr (Am _) Gu Gu hP.symm Gu Gu (by rw[HN.out];omega) i' u' aa;have xb:=Ah AB;have xa:=Ah oc;have hlt3':(b:Int)<=(n:Int):=Gu;have e1:(a:Int)+(bs:Int)=(m:Int):=Gu;clear AB oc aa sr hP hA hB hS i' u' hb hm TY;go_wp2_with fail;refine xb.out.mono ?_;rintro e w2 ⟨rfl,ai,du⟩;have AQ:=Ah ai;have HG5:=Ah (Kt LQ du);clear ai LQ du e1
    as_aux_lemma=>
     go_wp2
     go_roundw
     case rel=>
      refine⟨b,b+2*bs,_,rfl,Gu,rfl,by go_num,?_,AQ.out,HG5.out⟩;rw[HB.out];exact xa.out
     case measure=>simp[intOf];omega
   ·have hlt3':¬(b:Int)<=(n:Int):=Gu;obtain⟨m,hm⟩:=ez (a+bs);have e1:(a:Int)+(bs:Int)=(m:Int):=Gu;by_cases hmn:m<n
    ·obtain⟨P,A,B,sr,hP,hA,hB,i',u',oc⟩:=Ba3 hbs YD.out (by rw[<-HN.out];omega) (by rw[<-HN.out];omega);have aa:=TY.out;rw[sr]at aa;have AB:=zN base g n cap cc Gu (A.length+B.length) P A B [] a m n wr (Am _) Gu (oHx HN.out) hP.symm Gu (by rw[HN.out];omega) (by rw[HN.out];simp;omega) i' u' aa;have xb:=Ah AB;have xa:=Ah oc;have hmn':(m:Int)<(n:Int):=Gu;clear AB oc aa sr hP hA hB i' u' hb hm TY;go_wp2_with fail;refine xb.out.mono ?_;rintro e w2 ⟨rfl,ai,du⟩;have AQ:=Ah ai;have HG5:=Ah (Kt LQ du);clear ai LQ du e1
     as_aux_lemma=>
      go_wp2
      go_roundw
      case rel=>exact⟨2*bs,_,Gu,Gu,by go_num,xa.out,AQ.out,HG5.out⟩
      case measure=>simp[intOf];omega
    ·have oc:=Bn2 YD.out (by rw[<-HN.out];omega);have xa:=Ah oc;have hmn':¬(m:Int)<(n:Int):=Gu;clear oc hm hb
     as_aux_lemma=>
      go_wp2
      go_roundw
      case rel=>exact⟨2*bs,_,Gu,Gu,by go_num,xa.out,TY.out,LQ⟩
      case measure=>simp[intOf];omega
  ·have hlt2':¬(bs:Int)<(n:Int):=Gu;have am:=Bn1 F_.out (by rw[<-HN.out];omega);have aa:=TX.out;rw[am]at aa;have AQ:=Ah aa;clear aa am;go_wp2_with fail
   go_end0
   exact⟨rfl,AQ.out,hgr3⟩
theorem stable_any (base g n cap cc:Nat) (D:List Sr) (w:Aj) (hn:n=D.length) (hl:n<=100000000) (aa:w.ownsRow base 92 4 (Ad (Af ⟨g,0,Ae⟩) n cap) n (recs D)):
  Al Do 122 #[Ad (Af ⟨g,0,Ae⟩) n cc,.func (.func 123) #[] #[]] w (Lo base g n cap (srt Sr.t D) w):=by
 have H:=Ah (gS base g n cap cc D w hn hl aa);clear hn aa;go_enter Tryz.func122,Tryz.ntmps122;go_wp2_with fail;refine H.out.mono ?_;rintro e w2 ⟨rfl,ho,hg⟩;have HO:=Ah ho;clear ho;go_wp2_with fail
 go_end0
 exact⟨rfl,HO.out,hg⟩
theorem Ap9 (a b:Sr):Kc ⟨a.x,a.y,a.q⟩ ⟨b.x,b.y,b.q⟩<=0↔a.t<=b.t:=by
 rw[Ap8];unfold Ih
 split
 ·simp;omega
 ·split
  ·simp;omega
  ·simp;omega
theorem Bh7 (f:Sr->Stk) (hf:∀r,(f r).c=⟨r.x,r.y,r.q⟩) (x:Sr) (l:List Sr):oN (f x) (l.map f)=(mrg Sr.t [x] l).map f:=by
 induction l with
 |nil=>rw[Pq];rfl
 |cons y r ih=>
  unfold oN;rw[Er];dsimp only;rw[hf,hf];by_cases h:x.t<=y.t
  ·rw[Hd ((Ap9 x y).2 h),Nt h,Nh];rfl
  ·rw[Gz (λhh=>h ((Ap9 x y).1 hh)),Ms Gu,Er,ih]
theorem sortC_srt (f:Sr->Stk) (hf:∀r,(f r).c=⟨r.x,r.y,r.q⟩) (l:List Sr):Nq (l.map f)=(srt Sr.t l).map f:=by
 induction l with
 |nil=>rfl
 |cons x r ih=>
  unfold srt;rw[Er,<-Bh7 f hf,<-ih];rfl
end Go.Proofs.YtlgkpdfieaadaaaGreatDoor.Rs
namespace Go.Proofs.YtlgkpdfieaadaaaGreatDoor
open Go.RowKit
theorem rZ (x y:Int) (q:Nat) (A:Option Ci) (n c:Nat) (w:Aj):
  Al Do 119 #[.agg #[x,y,Aa Ac q,Ad A n c]] w (Gy (.bool (!okC x y q)) w):=by
 have H:=(Bx.start w).new #[x,y,Aa Ac q,Ad A n c] 92 rfl;go_enter Tryz.func119,Tryz.ntmps119;go_upto_region 1 with fail;generalize w.alloc _=W at H⊢;generalize w.heap.size=N at H⊢;obtain⟨⟨a0,a1,a2,a3⟩,_⟩:=Jm (H.b 0);go_wp2_with fail;refine(Jf x y q _).mono ?_;rintro e w2 ⟨rfl,hb⟩;have H2:=H.call hb
 cases hk:okC x y q
 ·rw[Qq];have HK:=Ah hk;clear hk;go_wp2;go_ret;exact⟨by rw[HK.out];rfl,H2.below⟩
 ·rw[Ls];have HK:=Ah hk;clear hk;go_wp2;go_ret;exact⟨by rw[HK.out];rfl,H2.below⟩
theorem Aa0 (A:Option Ci) (l:List Stk) (n c:Nat) (w:Aj) (hn:n=l.length) (h:Hz w A l) (hl:n<=1000000):
  Al Do 24 #[Ad A n c,.func (.func 119) #[] #[]] w λe w'=>(∃r:Int,e= .returned (Aa Ab r)/\((l.any λx=> !x.c.ok)=decide (0<=r)))/\Below w.heap.size w w':=by
 have dr:=Ah h;have HN:=Ah hn;clear h hn;go_enter Tryz.func24,Tryz.ntmps24;go_wp2
 go_loopw [5,8] (λ_ i wr=>∃k:Nat,k<=n/\i= Aa Ab k/\Below w.heap.size w wr/\Hid (∀j (hj:j<l.length),j<k->l[j].c.ok=true)) (λ_ i _=>n-(intOf i).toNat)
 case atStart=>exact⟨0,Gu,rfl,Ag _ _,Ah λj _ hj=>absurd hj Gu⟩
 obtain⟨k,hk,rfl,hb,HK⟩:=hrel;by_cases ad:k<n
 ·have bc:k<l.length:=oHx HN.out;obtain⟨bb,o,A',c',rfl,cj,⟨d0,d1,d2,d3⟩,_⟩:=(dr.out.below hb).get k bc;have q1:(k:Int)<(n:Int):=Gu;obtain⟨r,hr⟩:=ey (l[k]);have jq:=Ah hr;rw[hr]at d0 d1 d2 d3;obtain⟨⟨x,y,q⟩,ids⟩:=r;dsimp only at d0 d1 d2 d3;have HC:=Ah λw'=>rZ x y q A' ids.length c' w';have mi:Hid (l[k].c.ok=okC x y q):=Ah (by rw[jq.out];rfl);clear hr;go_wp2_with fail;refine(HC.out _).mono ?_;rintro e w2 ⟨rfl,aj⟩;have bm:=hb.trans (aj.mono hb.size)
  cases he:okC x y q
  ·have HA:Hid ((l.any λx=> !x.c.ok)=true):=Ah (by rw[Ev];exact⟨l[k],Ay _,by rw[mi.out,he];rfl⟩);clear he;go_wp2;go_ret;exact⟨⟨k,rfl,by rw[HA.out];simp⟩,bm⟩
  ·have jf:=Ah (λj (hj:j<l.length) (h:j<k+1)=>show l[j].c.ok=true by
    by_cases kj:j=k
    ·subst kj;rw[mi.out];exact he
    ·exact HK.out j hj Gu)
   clear he;go_wp2;exact⟨⟨k+1,Gu,by go_num,bm,jf⟩,by simp[intOf];omega⟩
 ·have q1:¬(k:Int)<(n:Int):=Gu
  have HA:Hid ((l.any λx=> !x.c.ok)=false):=Ah (by
   rw[Dt];intro x hx;obtain⟨j,hj,rfl⟩:=Be.1 hx;simp[HK.out j hj (oHx HN.out)])
  go_wp2;go_ret;exact⟨⟨-1,rfl,by rw[HA.out];rfl⟩,hb⟩
theorem zZ (A:Option Ci) (l:List Stk) (n c:Nat) (w:Aj) (hn:n=l.length) (h:Hz w A l) (hl:n<=1000000):
  Al Do 118 #[Ad A n c,.func (.func 119) #[] #[]] w (Gy (.bool (l.any λx=> !x.c.ok)) w):=by
 have HC:=Ah (Aa0 A l n c w hn h hl);generalize (l.any λx=> !x.c.ok)=R at HC⊢;clear hn h hl;go_enter Tryz.func118,Tryz.ntmps118;go_wp2_with fail;refine HC.out.mono ?_;rintro e w2 ⟨⟨r,rfl,hr⟩,hb⟩;go_wp2;go_ret;exact⟨by rw[hr];rfl,hb⟩
def rN (o:Option (List Stk)) (w:Aj) (e:Ending) (w':Aj):Prop:=
 Below w.heap.size w w'/\((o=Ae/\e= .returned (.tuple #[Ad Ae 0 0,Aa Ab 3]))∨
  ∃l A c zl,o=Af l/\e= .returned (.tuple #[Ad A l.length c,Aa Ab 0])/\Hy w.heap.size w' (Ad A l.length c) zl/\zl.map (·.1)=l)
def mvK (m:Mv) (x:Stk):Stk:=⟨(Li m x.c).1,x.ls⟩
theorem Av3 (m:Mv) (l:List Stk) (k:Nat) (h:k<l.length):(l.take (k+1)).map (mvK m)=(l.take k).map (mvK m)++[mvK m l[k]]:=by
 rw[Bc h,Ey];rfl
theorem pJ {m:Mv} {c:Cl} (h:(Li m c).2=0):(Li m c).1.ok=true:=by
 unfold Li at h⊢
 split
 ·assumption
 ·rename_i g;rw[Gz g]at h
  cases h
def Cc4 (x:SkR) (h:x.1.c.ok=true):Rs.Sr:=by
 have h1:=Jt.1 h;exact⟨x.1.c.x,x.1.c.y,x.1.c.q,x.2.1,x.1.ls.length,x.2.2,x.1.ls,⟨h1.1,h1.2.1⟩,⟨h1.2.2.1,h1.2.2.2.1⟩,Gu⟩
def cZ (r:Rs.Sr):SkR:=(⟨⟨r.x,r.y,r.q⟩,r.ls⟩,(r.A,r.c))
theorem Aj3 (x:SkR) (h:x.1.c.ok=true):cZ (Cc4 x h)=x:=rfl
theorem zI:∀(zl:List SkR),(∀x∈zl,x.1.c.ok=true)->∃D:List Rs.Sr,D.map cZ=zl/\Rs.recs D=zl.flatMap Jb/\∀r∈D,r.n=r.ls.length
 |[],_=>⟨[],rfl,rfl,Gx⟩
 |x::r,h=>by
  obtain⟨D,h1,h2,h3⟩:=zI r λy hy=>h y (by simp[hy]);refine⟨Cc4 x (h x Gx)::D,by rw[Er,h1,Aj3],?_,?_⟩
  ·unfold Rs.recs at h2⊢;rw[Bf,Bf,h2];rfl
  ·intro y hy;rcases Bk.1 hy with rfl|hy
   ·rfl
   ·exact h3 y hy
theorem Ai6 {D:List Rs.Sr} (h:∀r∈D,r.n=r.ls.length):Rs.recs D=(D.map cZ).flatMap Jb:=by
 induction D with
 |nil=>rfl
 |cons x r ih=>
  have e:Rs.Sr.cells x=Jb (cZ x):=by
   unfold Rs.Sr.cells Jb cZ;dsimp only;rw[h x Gx]
  unfold Rs.recs at ih⊢;rw[Bf,Er,Bf,ih λy hy=>h y (by simp[hy]),e]
theorem Ba1 (D:List Rs.Sr):(Rs.srt Rs.Sr.t D).Perm D:=by
 induction D with
 |nil=>exact .refl _
 |cons x r ih=>
  show(Rs.mrg Rs.Sr.t [x] (Rs.srt Rs.Sr.t r)).Perm (x::r);unfold Rs.mrg;exact(List.merge_perm_append _).trans (ih.cons x)
theorem Hy.base {O O':Nat} {w:Aj} {v:Ak} {l:List SkR} (h:Hy O w v l) (hO:O'<=O):Hy O' w v l:=⟨Np h.1 hO,λx hx=>(h.2.1 x hx).base hO,h.2.2⟩
theorem uD {m:Mv} {l:List Stk} (h:∀x∈l,(Li m x.c).2=0):Rx m l=Af (Nq (l.map (mvK m))):=by
 unfold Rx;rw[Hd (by rw[Ec];intro x hx;simp[h x hx])];rfl
theorem uC {m:Mv} {l:List Stk} {x:Stk} (hx:x∈l) (h:(Li m x.c).2≠0):Rx m l=Ae:=by
 unfold Rx;rw[Gz];intro hh;rw[Ec]at hh;have:=hh x hx;simp at this;exact h this
theorem uE (A:Option Ci) (l:List Stk) (n cc:Nat) (m:Mv) (w:Aj) (hn:n=l.length) (h:Hz w A l) (hl:n<=100000) (ij:∀x∈l,x.ls.length<=100000) (hm:m.ok=true) (hc:∀x∈l,x.c.ok=true) (ht:m.t<=255) (hQ:Qf w) (hT:Tn w):
  Al Do 69 #[Ad A n cc,.agg #[Aa Ac m.t,Aa Ab m.x,Aa Ab m.y]] w (rN (Rx m l) w):=by
 have UC:=Ah (λ(w':Aj) (hb:Below w.heap.size w w')=>h.below hb);have gv:=Ah (λ(w':Aj) (hb:Below w.heap.size w w')=>zZ A l n cc w' hn (h.below hb) Gu)
 have nt:(l.any λx=> !x.c.ok)=false:=by
  rw[Dt];intro x hx;simp[hc x hx]
 rw[nt]at gv;have HN:=Ah hn;have uq:=Ah ij;have HMV:=Ah (λ(c:Cl) (fy:c.ok=true) (w':Aj) (hb:Below w.heap.size w w')=>Ux lE m c w' hm fy (hQ.below hb) (hT.below hb));have KD:=Ah hc;have HS:=Ah (λ(h:∀x∈l,(Li m x.c).2=0)=>uD h);have IY:=Ah (λ(x:Stk) (hx:x∈l) (h:(Li m x.c).2≠0)=>uC hx h);have MD:=λw'=>Jo m.t m.x m.y w' ⟨Gu,Gu⟩;have mw:okM m.t m.x m.y=true:=hm;simp only[mw,Ls]at MD;have O3:=Ah MD;generalize Rx m l=o at HS IY⊢;have ur:=Ah (λk hk=>Av3 m l k hk);obtain⟨MK,hMK⟩:=ey (mvK m);have PP:=Ah (λx:Stk=>show MK x=⟨(Li m x.c).1,x.ls⟩by rw[<-hMK];rfl);rw[hMK]at HS ur;obtain⟨MC,hMC⟩:=ey (Li m);have CH:=Ah (λ(c:Cl) (hh:(MC c).2=0)=>show(MC c).1.ok=true by subst hMC;exact pJ hh);rw[hMC]at HMV HS IY PP;obtain⟨mt,mx,my⟩:=m;dsimp only at HMV O3⊢;have H:=(Bx.start w).new #[Aa Ac mt,mx,my] 30 rfl;clear hn h ij hm hc ht hQ hT nt MD mw hMK hMC;go_enter Tryz.func69,Tryz.ntmps69;go_upto_region 1 with fail;obtain⟨N,hN⟩:=ez w.heap.size;rw[<-hN]at H⊢;have db:=Ah hN;clear hN;generalize w.alloc _=W0 at H⊢;obtain⟨⟨a0,a1,a2⟩,-⟩:=He (H.b 0);go_wp2_with fail;refine(O3.out _).mono ?_;rintro ee w1 ⟨rfl,hb⟩;have H1:=H.call hb;clear a0 a1 a2 hb H O3;go_wp2_with fail;refine(gv.out _ H1.below).mono ?_;rintro ee w2 ⟨rfl,hb⟩;have H2:=H1.call hb;clear hb H1 gv;obtain⟨GO,pj⟩:=ey w2.heap.size;have uf:=aT n hl w2;have BI:=Hy.made w2 n hl;have H3:=H2.other (.cells ((Ba n skZ).flatMap Jb).toArray 92);have P':w.heap.size<=GO:=oHx H2.below.size;have hNG:N<GO:=oHx (H2.lt 0 rfl);rw[pj]at uf BI;go_upto_region 4 with fail
 try rw[pj]
 generalize w2.alloc _=W4 at H3 BI⊢;have OG:=H3.b 0;have fw:Hid (∃zl:List SkR,zl.map (·.1)=(l.take 0).map MK/\(∀j (hj:j<l.length),j<0->(MC l[j].c).2=0)/\Hy GO W4 (Ad (Af ⟨GO,0,Ae⟩) n n) (zl++Ba (n-0) skZ)):=Ah ⟨[],rfl,λj _ hj=>absurd hj Gu,BI⟩;have IW:Hid (Below w.heap.size w W4/\W4.heap[N]? =Af (Cn #[Aa Ac mt,mx,my] 30 (0,0))/\GO<=W4.heap.size):=Ah ⟨H3.below,OG,by have:=(BI.1.lt GO rfl).2;omega⟩;have XN:=Ah P';have HNG:=Ah hNG;clear uf pj BI H2 H3 OG P' hNG;go_wp2
 go_loopw [23] (λL9 wr=>∃k:Nat,k<=n/\L9= Aa Ab k/\Hid (∃zl:List SkR,zl.map (·.1)=(l.take k).map MK/\(∀j (hj:j<l.length),j<k->(MC l[j].c).2=0)/\Hy GO wr (Ad (Af ⟨GO,0,Ae⟩) n n) (zl++Ba (n-k) skZ))/\Hid (Below w.heap.size w wr/\wr.heap[N]? =Af (Cn #[Aa Ac mt,mx,my] 30 (0,0))/\GO<=wr.heap.size)) (λL9 _=>n-(intOf L9).toNat)
 case atStart=>exact⟨0,Gu,rfl,fw,IW⟩
 obtain⟨k,hk,rfl,HZ,HJ⟩:=hrel;clear fw IW;by_cases ad:k<n
 ·have bc:k<l.length:=oHx HN.out;have q0:(k:Int)<(n:Int):=Gu;obtain⟨bb,o',A',c',QI,cj,⟨d0,d1,d2,d3⟩,dq,hle,ia,be⟩:=(UC.out _ HJ.out.1).get k bc;have bp:=Ay bc;have dy:=uq.out l[k] bp;have ld:=ur.out k bc;have ME:=PP.out l[k];have oz:=IY.out l[k] bp;have pr:=HMV.out l[k].c (KD.out l[k] bp)
  have fg:=λ(h0:(MC l[k].c).2=0) (j:Nat) (hj:j<l.length) (kj:j<k+1)=>show(MC l[j].c).2=0 by
   by_cases hjj:j=k
   ·subst hjj;exact h0
   ·obtain⟨zl,-,hz,-⟩:=HZ.out;exact hz j hj Gu
  obtain⟨⟨⟨x0,x1,x2⟩,ids⟩,hx⟩:∃z,l[k]=z:=⟨_,rfl⟩;simp only[hx]at d0 d1 d2 d3 dy be dq hle ld ME oz pr fg;obtain⟨⟨⟨y0,y1,y2⟩,e9⟩,MD⟩:∃z,MC (⟨x0,x1,x2⟩:Cl)=z:=⟨_,rfl⟩;rw[MD]at ME oz pr fg;unfold clR at pr;dsimp only at ME oz pr fg;obtain⟨m,hm⟩:=ey ids.length;rw[hm]at d3 dy be dq hle;have fi:=Ah hm;have HSN2:=Ah (show(l.take (k+1)).map MK=(l.take k).map MK++[⟨⟨y0,y1,y2⟩,ids⟩]by rw[ld,ME]);have PT:=Ah oz;have j_:=Ah pr;have oh:=Ah fg;have AH:=Ah (λ(w':Aj) (hb:Below wr.heap.size wr w')=>Re ⟨y0,y1,y2⟩ A' ids m c' w' hm.symm dq (be.below hb) Gu);have H:=(Bx.start wr).new #[x0,x1,Aa Ac x2,Ad A' m c'] 92 rfl;have GJ:=(Au.1 HJ.out.2.1).1;subst QI;clear ld ME oz pr fg be dq hle hx hm MD bp;obtain⟨C,hC⟩:=ey wr.heap.size;go_upto_region 7 with fail;rw[hC]at H
  try rw[hC]
  generalize wr.alloc _=W5 at H⊢;clear d0 d1 d2 d3;obtain⟨⟨e0,e1,e2,e3⟩,-⟩:=Jm (H.b 0);obtain⟨⟨a0,a1,a2⟩,-⟩:=He ((H.below.block N GJ).trans HJ.out.2.1);have hwr:=HJ.out.1.size;go_wp2_with fail;refine(j_.out _ (HJ.out.1.trans (H.below.mono hwr))).mono ?_;rintro ee w6 ⟨rfl,hb⟩;have H6:=H.call hb;clear e0 e1 e2 e3 a0 a1 a2 hb H j_;obtain⟨D,hD⟩:=ey w6.heap.size;have H7:=H6.new #[y0,y1,Aa Ac y2] 90 hD;by_cases he:e9=0
  ·subst he;have HNX2:=Ah (oh.out rfl);clear oh PT;go_upto_region 10 with fail
   try rw[hD]
   generalize w6.alloc _=W7 at H7⊢;clear hD H6;obtain⟨⟨e0,e1,e2,e3⟩,-⟩:=Jm (H7.b 0);obtain⟨⟨a0,a1,a2⟩,-⟩:=He (H7.b 1);have hC7:=H7.lt 0 rfl;go_wp2_with fail;refine(AH.out _ H7.below).mono ?_;rintro ee w8 ⟨A9,rfl,qg,bo,bh⟩;dsimp only;obtain⟨zl,ap,-,ca⟩:=HZ.out
   have kc:zl.length=k:=by
    have:=congrArg List.length ap;simp at this;omega
   have xk:=H7.below.trans (bh.mono H7.below.size);have kq:=H7.below.size;have jj:Nl wr.heap.size w8 (⟨⟨y0,y1,y2⟩,ids⟩,(A9,ids.length)):=⟨qg,Am _,by show ids.length<=maxLen;have:=fi.out;unfold maxLen;omega,bo.base kq⟩;obtain⟨df,dg,dj⟩:=Zl ca (i:=k) (by simp[kc];omega) xk jj HJ.out.2.2
   have qh:(zl++Ba (n-k) skZ).set k (⟨⟨y0,y1,y2⟩,ids⟩,(A9,ids.length))=(zl++[(⟨⟨y0,y1,y2⟩,ids⟩,(A9,ids.length))])++Ba (n-(k+1)) skZ:=by
    rw[Gg _ _ Gu,kc,Fk];rw[show n-k=(n-(k+1))+1 by omega,List.replicate_succ,Cf];simp
   rw[qh]at dj;rw[fi.out]at dj⊢;dsimp only at dj;obtain⟨v0,g0⟩:=df 0 Gu;obtain⟨v1,g1⟩:=df 1 Gu;obtain⟨v2,g2⟩:=df 2 Gu;obtain⟨v3,g3⟩:=df 3 Gu;rw[De]at g0;have z0:=dg (k*4);have z1:=dg (k*4+1);have z2:=dg (k*4+2);have z3:=dg (k*4+3);have hne:N≠GO:=oHx HNG.out;have NA:∀(X:Aj) (f:Nat) (u:Ak),(X.setCell ⟨GO,f,Ae⟩ u).heap[N]? =X.heap[N]? :=λX f u=>Dp X ⟨GO,f,Ae⟩ u N (by show N≠GO;exact hne)
   have GH:Hid (Below w.heap.size w ((((w8.setCell ⟨GO,k*4,Ae⟩ (Aa Ab y0)).setCell ⟨GO,k*4+1,Ae⟩ (Aa Ab y1)).setCell ⟨GO,k*4+2,Ae⟩ (Aa Ac y2)).setCell ⟨GO,k*4+3,Ae⟩ (Ad A9 m m))/\((((w8.setCell ⟨GO,k*4,Ae⟩ (Aa Ab y0)).setCell ⟨GO,k*4+1,Ae⟩ (Aa Ab y1)).setCell ⟨GO,k*4+2,Ae⟩ (Aa Ac y2)).setCell ⟨GO,k*4+3,Ae⟩ (Ad A9 m m)).heap[N]? =Af (Cn #[Aa Ac mt,mx,my] 30 (0,0))/\GO<=((((w8.setCell ⟨GO,k*4,Ae⟩ (Aa Ab y0)).setCell ⟨GO,k*4+1,Ae⟩ (Aa Ab y1)).setCell ⟨GO,k*4+2,Ae⟩ (Aa Ac y2)).setCell ⟨GO,k*4+3,Ae⟩ (Ad A9 m m)).heap.size):=Ah (by
    have ba:=HJ.out.1.trans (xk.mono hwr);have ki:=XN.out;refine⟨(((ba.setCell (p:=⟨GO,k*4,Ae⟩) ki _).setCell (p:=⟨GO,k*4+1,Ae⟩) ki _).setCell (p:=⟨GO,k*4+2,Ae⟩) ki _).setCell (p:=⟨GO,k*4+3,Ae⟩) ki _,?_,?_⟩
    ·rw[NA,NA,NA,NA];exact(xk.block N GJ).trans HJ.out.2.1
    ·have:=HJ.out.2.2;have:=xk.size;simp;omega)
   have hZ2:Hid (∃zl:List SkR,zl.map (·.1)=(l.take (k+1)).map MK/\(∀j (hj:j<l.length),j<k+1->(MC l[j].c).2=0)/\Hy GO ((((w8.setCell ⟨GO,k*4,Ae⟩ (Aa Ab y0)).setCell ⟨GO,k*4+1,Ae⟩ (Aa Ab y1)).setCell ⟨GO,k*4+2,Ae⟩ (Aa Ac y2)).setCell ⟨GO,k*4+3,Ae⟩ (Ad A9 m m)) (Ad (Af ⟨GO,0,Ae⟩) n n) (zl++Ba (n-(k+1)) skZ)):=Ah ⟨_,by rw[Ey,ap,HSN2.out];rfl,HNX2.out,dj⟩;clear df dg qh jj ap ca kc xk kq bh bo qg e0 e1 e2 e3 a0 a1 a2 HZ HJ AH dj NA H7;go_wp2;exact⟨⟨k+1,Gu,by go_num,hZ2,GH⟩,by simp[intOf];omega⟩
  ·have q1:(e9 != 0)=true:=by simpa using he
   have hoo:=PT.out he;have aw:Hid (∀w',Below w.heap.size w w'->rN o w (.returned (.tuple #[Ad Ae 0 0,Aa Ab 3])) w'):=Ah λw' hb=>⟨hb,.inl ⟨hoo,rfl⟩⟩;have qp:=Ah (HJ.out.1.trans (H7.below.mono hwr));clear hoo;go_wp2_with fail;refine Ai (v:= .tuple #[Ad Ae 0 0,Aa Ab 3]) (by simp[results,Tryz.results69,go_sem]) rfl ?_;exact aw.out _ qp.out
 ·obtain rfl:k=n:=Gu;have q0:¬(k:Int)<(k:Int):=Gu;obtain⟨zl,ap,ca,od⟩:=HZ.out;have ht:l.take k=l:=Bg (oHx HN.out);rw[ht]at ap;rw[Fk,List.replicate_zero,Fe]at od
  have fe:∀x∈l,(MC x.c).2=0:=λx hx=>by
   obtain⟨j,hj,rfl⟩:=Be.1 hx;exact ca j hj (oHx HN.out)
  have hzk:∀x∈zl,x.1.c.ok=true:=λx hx=>by
   have:x.1∈l.map MK:=ap▸Dq.2 ⟨x,hx,rfl⟩;obtain⟨y,hy,hyx⟩:=Dq.1 this;rw[<-hyx,PP.out];exact CH.out _ (fe y hy)
  obtain⟨D,hD1,hD2,hD3⟩:=zI zl hzk;have hso:=HS.out fe
  have kc:zl.length=k:=by
   have:=congrArg List.length ap;simp at this;have:=HN.out;omega
  have iu:D.length=k:=by rw[<-kc,<-hD1,Bo]
  have aa:=od.1;rw[kc,<-hD2]at aa;have gw:=Ah (Rs.stable_any GO GO k k k D wr iu.symm Gu aa)
  have aw:Hid (∀w9,w9.ownsRow GO 92 4 (Ad (Af ⟨GO,0,Ae⟩) k k) k (Rs.recs (Rs.srt Rs.Sr.t D))->wr.grownBy w9 (Af GO)->rN o w (.returned (.tuple #[Ad (Af ⟨GO,0,Ae⟩) k k,Aa Ab 0])) w9):=Ah (by
   intro w9 pw zg;have hpe:=Ba1 D;have SD:((Rs.srt Rs.Sr.t D).map cZ).Perm zl:=hD1▸hpe.map cZ;have qw:((Rs.srt Rs.Sr.t D).map cZ).length=k:=by rw[SD.length_eq,kc]
   have hsl:((Rs.srt Rs.Sr.t D).map cZ).map (·.1)=Nq (l.map MK):=by
    have e:=Rs.sortC_srt (λr=>(cZ r).1) (λr=>rfl) D;have e2:D.map (λr=>(cZ r).1)=l.map MK:=by rw[<-ap,<-hD1,Fs];rfl
    rw[e2]at e;rw[e,Fs];rfl
   have na:(Nq (l.map MK)).length=k:=by rw[<-hsl,Bo,qw]
   have ya:=(od.perm (w':=w9) SD (by rw[qw,<-Ai6 (λr hr=>hD3 r (hpe.mem_iff.1 hr))];exact pw) zg).base XN.out;exact⟨HJ.out.1.grown zg HJ.out.1.size (λx hx=>by injection hx with hx;have:=XN.out;omega),.inr ⟨Nq (l.map MK),Af ⟨GO,0,Ae⟩,k,(Rs.srt Rs.Sr.t D).map cZ,hso,by rw[na],by rw[na];exact ya,hsl⟩⟩)
  clear ap ca od ht fe hzk hD1 hD2 hD3 hso kc iu aa HZ HJ;go_wp2_with fail;refine gw.out.mono ?_;rintro ee w9 ⟨rfl,pw,zg⟩;have FU:=Ah (aw.out w9 pw zg);clear pw zg aw gw;go_wp2_with fail;refine Ai (v:= .tuple #[Ad (Af ⟨GO,0,Ae⟩) k k,Aa Ab 0]) (by simp[results,Tryz.results69,go_sem]) rfl ?_;exact FU.out
theorem Ae0 (F:FuncId) (qj:∀(args:Array Ak) (w:Aj),(callFunc F args).run Do w= .ok (.enter F args) w) (dd:Array Ak) (p:Nat->Bool) (A:Option Ci) (l:List Nat) (n c:Nat) (w:Aj) (hn:n=l.length) (h:Rd w A 1 n (If l)) (hl:n<=1000000)
  (hf:∀(i:Nat) (w':Aj),i∈l->Below w.heap.size w w'->Al Do F (#[Aa Ab (i:Int)]++dd) w' (Gy (.bool (p i)) w')):
  Al Do 292 #[Ad A n c,.func (.func F) #[] dd] w λe w'=>(∃r:Int,e= .returned (Aa Ab r)/\((l.any p)=decide (0<=r)))/\Below w.heap.size w w':=by
 have dr:=Ah h;have HN:=Ah hn;have CE:=Ah hf;clear h hn hf;go_enter Tryz.func292,Tryz.ntmps292;go_wp2
 go_loopw [5,8] (λ_ i wr=>∃k:Nat,k<=n/\i= Aa Ab k/\Below w.heap.size w wr/\Hid (∀j (hj:j<l.length),j<k->p l[j]=false)) (λ_ i _=>n-(intOf i).toNat)
 case atStart=>exact⟨0,Gu,rfl,Ag _ _,Ah λj _ hj=>absurd hj Gu⟩
 obtain⟨k,hk,rfl,hb,HK⟩:=hrel;by_cases ad:k<n
 ·have bc:k<l.length:=oHx HN.out;obtain⟨bb,o,rfl,cj,c0⟩:=Rp (dr.out.below hb) k bc;have q1:(k:Int)<(n:Int):=Gu;have bp:=Ay bc;obtain⟨r,hr⟩:=ey (l[k]);have jq:=Ah hr;rw[hr]at c0 bp;have hC:=CE.out r wr bp hb;obtain⟨ar,zc⟩:=ey (#[Value.int .i64 (r:Int)]++dd);rw[zc]at hC;have HC:=Ah hC;clear hr bp hC;go_wp2_with fail;refine HC.out.mono ?_;rintro e w2 ⟨rfl,aj⟩;have bm:=hb.trans (aj.mono hb.size)
  cases he:p r
  ·have jf:=Ah (λj (hj:j<l.length) (h:j<k+1)=>show p l[j]=false by
    by_cases kj:j=k
    ·subst kj;rw[jq.out];exact he
    ·exact HK.out j hj Gu)
   go_wp2;exact⟨⟨k+1,Gu,by go_num,bm,jf⟩,by simp[intOf];omega⟩
  ·have HA:Hid ((l.any p)=true):=Ah (by rw[Ev];exact⟨l[k],Ay _,by rw[jq.out];exact he⟩);go_wp2;go_ret;exact⟨⟨k,rfl,by rw[HA.out];simp⟩,bm⟩
 ·have q1:¬(k:Int)<(n:Int):=Gu
  have HA:Hid ((l.any p)=false):=Ah (by
   rw[Dt];intro x hx;obtain⟨j,hj,rfl⟩:=Be.1 hx;simpa using HK.out j hj (oHx HN.out))
  go_wp2;go_ret;exact⟨⟨-1,rfl,by rw[HA.out];rfl⟩,hb⟩
theorem Aa8 (F:FuncId) (qj:∀(args:Array Ak) (w:Aj),(callFunc F args).run Do w= .ok (.enter F args) w) (dd:Array Ak) (p:Nat->Bool) (A:Option Ci) (l:List Nat) (n c:Nat) (w:Aj) (hn:n=l.length) (h:Rd w A 1 n (If l)) (hl:n<=1000000)
  (hf:∀(i:Nat) (w':Aj),i∈l->Below w.heap.size w w'->Al Do F (#[Aa Ab (i:Int)]++dd) w' (Gy (.bool (p i)) w')):
  Al Do 245 #[Ad A n c,.func (.func F) #[] dd] w (Gy (.bool (l.any p)) w):=by
 have HC:=Ah (Ae0 F qj dd p A l n c w hn h hl hf);generalize l.any p=R at HC⊢;clear hn h hl hf qj;go_enter Tryz.func245,Tryz.ntmps245;go_wp2_with fail;refine HC.out.mono ?_;rintro e w2 ⟨⟨r,rfl,hr⟩,hb⟩;go_wp2;go_ret;exact⟨by rw[hr];rfl,hb⟩
theorem Aa7 {w:Aj} {g o:Nat} {cw:Array Ak} {t:Cj} {v:Ak} (h:w.heap[g]? =Af (Cn cw t (0,0))) (hc:w.cell? ⟨g,o,Ae⟩=Af v):cw[o]? =Af v:=by
 rw[By w g o cw t (0,0) h]at hc;exact hc
def qG (a b:Int) (A:Option Ci) (n cc k M N N4 N5 go gk:Nat) (s:RS):List (Nat×Array Ak×Cj):=
 [(N,#[a,b,Ad A n cc],28),(N4,#[.map (Af M)],340),(go,(No s.out).toArray,30),(N5,#[Ad (Af ⟨go,0,Ae⟩) k k],133),(gk,(Ib s.known).toArray,4)]
structure Qn (w:Aj) (a b:Int) (l:List Cr) (A:Option Ci) (n cc k M N N4 N5 go gk:Nat) (v:Ak) (wr:Aj) (s:RS):Prop where
 bx:Bx w (qG a b A n cc k M N N4 N5 go gk s) wr
 mp:Km unK wr M (crM l)
 q:QAt wr w.heap.size [N,N4,N5,go,gk] v s.wait
 ok:By2 k s
theorem QAt.len {w:Aj} {base:Nat} {av:List Nat} {v:Ak} {l:List Nat} (h:QAt w base av v l):Bv0 v=l.length:=by
 obtain⟨g,o,c,cw,rfl,_⟩:=h;rfl
theorem Qn.mm {w wr:Aj} {a b:Int} {l:List Cr} {A:Option Ci} {n cc k M N N4 N5 go gk:Nat} {v:Ak} {s:RS} (h:Qn w a b l A n cc k M N N4 N5 go gk v wr s):kK wr gk+Bv0 v=s.mm:=by
 rw[Ab4 (h.bx.b 4),h.q.len];rfl
theorem Ay2 {a b:Int} {l:List Cr} {id e:Nat} {s:RS} (h:(nbI a b id e).2≠0):Ox a b l id e s=Af s:=by
 unfold Ox;rw[Hd h]
theorem vG {a b:Int} {l:List Cr} {id e y:Nat} {s:RS} (h:nbI a b id e=((y:Int),0)) (hk:s.known.getD y false=true):Ox a b l id e s=if s.out.getD y mv0=Kh a b l s.out id e then Af s else Ae:=by
 unfold Ox;rw[Gz (by rw[h];simp),h];simp only[Eu,hk,if_true]
theorem Ay3 {a b:Int} {l:List Cr} {id e y:Nat} {s:RS} (h:nbI a b id e=((y:Int),0)) (hk:s.known.getD y false=false) (hy:y<s.out.length):Ox a b l id e s=Af ⟨s.out.set y (Kh a b l s.out id e),s.known.set y true,s.wait++[y]⟩:=by
 unfold Ox;rw[Gz (by rw[h];simp),h];simp only[Eu,hk,Bool.false_eq_true,if_false];rw[Hd (by simp[List.getD,hy])]
theorem Qn.call {w wr w2:Aj} {a b:Int} {l:List Cr} {A:Option Ci} {n cc k M N N4 N5 go gk:Nat} {v:Ak} {s:RS} (h:Qn w a b l A n cc k M N N4 N5 go gk v wr s) (hb:Below wr.heap.size wr w2):Qn w a b l A n cc k M N N4 N5 go gk v w2 s:=
 ⟨h.bx.call hb,h.mp.below hb h.mp.lt,h.q.below hb,h.ok⟩
theorem QAt.avoid {w:Aj} {base:Nat} {av:List Nat} {v:Ak} {l:List Nat} (h:QAt w base av v l) {P:Nat} (hP:w.heap.size<=P):QAt w base (av++[P]) v l:=by
 obtain⟨g,o,c,cw,h1,h2,h3,h4,h5⟩:=h;refine⟨g,o,c,cw,h1,h2,λx hx=>?_,h4,h5⟩;have:=(Au.1 h4).1;rcases Bl.1 hx with h6|h6
 ·exact h3 x h6
 ·have:x=P:=by simpa using h6
  omega
theorem QAt.sub {w:Aj} {base:Nat} {av av':List Nat} {v:Ak} {l:List Nat} (h:QAt w base av v l) (hs:∀x∈av',x∈av):QAt w base av' v l:=by
 obtain⟨g,o,c,cw,h1,h2,h3,h4,h5⟩:=h;exact⟨g,o,c,cw,h1,h2,λx hx=>h3 x (hs x hx),h4,h5⟩
theorem Qn.put {w wr:Aj} {a b:Int} {l:List Cr} {A:Option Ci} {n cc k M N N4 N5 go gk:Nat} {v:Ak} {s:RS} (h:Qn w a b l A n cc k M N N4 N5 go gk v wr s) (y:Nat) (m:Mv) (hm:m.t<=255):
  Qn w a b l A n cc k M N N4 N5 go gk v ((((wr.setCell ⟨go,y*3,Ae⟩ (Aa Ac m.t)).setCell ⟨go,y*3+1,Ae⟩ (Aa Ab m.x)).setCell ⟨go,y*3+2,Ae⟩ (Aa Ab m.y)).setCell ⟨gk,y,Ae⟩ (.bool true)) ⟨s.out.set y m,s.known.set y true,s.wait⟩:=by
 have b1:=(((h.bx.set 2 (y*3) rfl (Aa Ac m.t)).set 2 (y*3+1) rfl (Aa Ab m.x)).set 2 (y*3+2) rfl (Aa Ab m.y)).set 4 y rfl (.bool true);rw[yO,aJ]at b1;refine⟨b1,(((h.mp.setCell _ _).setCell _ _).setCell _ _).setCell _ _,(((h.q.set Gx _ _).set Gx _ _).set Gx _ _).set Gx _ _,⟨by simp[h.ok.out],by simp[h.ok.known],h.ok.wait,λx hx=>?_⟩⟩;rcases List.mem_or_eq_of_mem_set hx with h1|rfl
 ·exact h.ok.t x h1
 ·exact hm
theorem Qn.push {w wr w':Aj} {a b:Int} {l:List Cr} {A:Option Ci} {n cc k M N N4 N5 go gk:Nat} {v v':Ak} {s:RS} (h:Qn w a b l A n cc k M N N4 N5 go gk v wr s) (y:Nat) (hy:y<k)
  (hq:QAt w' w.heap.size [N,N4,N5,go,gk] v' (s.wait++[y])) (hw:(∃g j,w.heap.size<=g/\(∀x∈[N,N4,N5,go,gk],x≠g)/\w'=wr.setCell ⟨g,j,Ae⟩ (Aa Ab (y:Nat)))∨∃o,w'=wr.drew.alloc o):
  Qn w a b l A n cc k M N N4 N5 go gk v' w' ⟨s.out,s.known,s.wait++[y]⟩:=by
 have el:By2 k ⟨s.out,s.known,s.wait++[y]⟩:=⟨h.ok.out,h.ok.known,λi hi=>by
  rcases Bl.1 hi with h1|h1
  ·exact h.ok.wait i h1
  ·have:i=y:=by simpa using h1
   subst this;exact hy,h.ok.t⟩
 rcases hw with⟨g,j,hg,hne,rfl⟩|⟨o,rfl⟩
 ·refine⟨h.bx.setOther hg (λi x hx=>hne _ ?_) j _,h.mp.setCell _ _,hq,el⟩
  match i with
  |0=>simp[qG]at hx;subst hx;simp
  |1=>simp[qG]at hx;subst hx;simp
  |2=>simp[qG]at hx;subst hx;simp
  |3=>simp[qG]at hx;subst hx;simp
  |4=>simp[qG]at hx;subst hx;simp
  |i+5=>simp[qG]at hx
 ·exact⟨h.bx.drew.other o,h.mp.drew.below ((Ag wr.drew.heap.size wr.drew).alloc (Am _) o) h.mp.lt,hq,el⟩
theorem qJ (a b:Int) (A:Option Ci) (l:List Cr) (n cc:Nat) (w:Aj) (hp:Lq a b l) (hn:n=l.length) (h:Rd w A 3 n (crs l)) (hl:n<=1000000) (hQ:Qf w) (hT:Tn w):
  Al Do 163 #[.agg #[a,b,Ad A n cc]] w (Br1 (Uh a b l) w):=by
 obtain⟨F,hF⟩:=ey (Uh a b l);rw[hF];unfold Uh at hF;obtain⟨k1,k2,k3⟩:=Lf hp.sheet;have gg:=λw=>Wa a b w hp.sheet;have pm:=λ(w':Aj) (hb:Below w.heap.size w w')=>sM a b A l n cc w' hn (h.below hb) hl;have fd:=λid e w h=>Ji a b id e w hp.sheet h;generalize Hg a b=k at hF k1 k2 k3 gg;have NP:=Ah pm;have JY:=Ah gg;have GD:=Ah fd;have HF:=Ah hF;have HP:=Ah hp;have HQ:=Ah hQ;have HT:=Ah hT;have FX:=Ah k1;have mk1:=λW=>Au4 k k3 W;have mk2:=λW=>Xv k k3 W;have H:=(Bx.start w).new #[a,b,Ad A n cc] 28 rfl;clear hp hn h hl hQ hT hF gg pm fd k1;go_enter Tryz.func163,Tryz.ntmps163;go_upto_region 1 with fail;generalize w.alloc _=W at H⊢;obtain⟨N,hN⟩:=ez w.heap.size;rw[<-hN]at H⊢;have db:=Ah hN;clear hN;obtain⟨⟨a0,a1,a2⟩,_⟩:=He (H.b 0);go_wp2_with fail;refine(NP.out _ H.below).mono ?_;rintro e w2 ⟨M,rfl,GI,yi,hb⟩;have H2:=H.call hb;clear a0 a1 a2 hb H;obtain⟨N4,hN4⟩:=ey w2.heap.size;have H3:=H2.new #[.map (Af M)] 340 hN4;have kg:=yi.below ((Ag w2.heap.size w2).alloc (Am _) (.cells #[.map (Af M)] 340)) yi.lt;go_upto_region 2 with fail;generalize w2.alloc _=W3 at H3 kg⊢;clear hN4 H2 yi;obtain⟨⟨a0,a1,a2⟩,_⟩:=He (H3.b 0);go_wp2_with fail;refine(JY.out _).mono ?_;rintro e w4 ⟨rfl,hb⟩;have H4:=H3.call hb;have rp:=kg.below hb kg.lt;clear a0 a1 a2 hb H3 kg;have j3:(k:Int).toNat=k:=Eu k;go_upto_region 3 with fail;obtain⟨go,ki⟩:=ey w4.heap.size;obtain⟨N5,JF⟩:=ey (go+1);have H5:=H4.new (No (Ba k mv0)).toArray 30 ki;have qi:=rp.below ((Ag w4.heap.size w4).alloc (Am _) (.cells (No (Ba k mv0)).toArray 30)) rp.lt;have WQ:(w4.alloc (.cells (No (Ba k mv0)).toArray 30)).heap.size=N5:=by rw[<-JF,<-ki];simp
 rw[ki,JF];generalize w4.alloc _=W5 at H5 qi WQ⊢;have H6:=H5.new #[Ad (Af ⟨go,0,Ae⟩) k k] 133 WQ;have ru:=qi.below ((Ag W5.heap.size W5).alloc (Am _) (.cells #[Ad (Af ⟨go,0,Ae⟩) k k] 133)) qi.lt;generalize W5.alloc _=W6 at H6 ru⊢;have c5:=By W6 N5 0 _ _ (0,0) (H6.b 3);simp only[Fu,Dj]at c5;clear WQ ki JF H4 H5 rp qi mk1;obtain⟨gk,DK⟩:=ey W6.heap.size;have H7:=H6.new (Ib (Ba k false)).toArray 4 DK;have BG:=ru.below ((Ag W6.heap.size W6).alloc (Am _) (.cells (Ib (Ba k false)).toArray 4)) ru.lt;go_upto_region 4 with fail;generalize W6.alloc _=W7 at H7 BG⊢;have dc:=H7.b 4
 have c7:W7.cell? ⟨gk,0,Ae⟩=Af (.bool false):=by
  rw[By W7 gk 0 _ _ (0,0) dc];obtain⟨j,rfl⟩:∃j,k=j+1:=⟨k-1,Gu⟩;rfl
 have z7:W7.frozen? ⟨gk,0,Ae⟩=false:=by simp[World.frozen?,dc]
 have q7:(0:Int)<k:=Gu;have H8:=H7.set 4 0 rfl (.bool true);have ES:=BG.setCell ⟨gk,0,Ae⟩ (.bool true);rw[aJ]at H8
 have ek:(Ba k false).set 0 true=true::Ba (k-1) false:=by
  obtain⟨j,rfl⟩:∃j,k=j+1:=⟨k-1,Gu⟩;rfl
 rw[ek]at H8;have H9:Bx w (qG a b A n cc k M N N4 N5 go gk ⟨Ba k mv0,true::Ba (k-1) false,[0]⟩) (W7.setCell ⟨gk,0,Ae⟩ (.bool true)):=H8;clear H8;clear H6 ru c5 ek dc BG mk2 DK;go_upto_region 6 with fail;generalize W7.setCell _ _=W8 at H9 ES⊢;have AE:=H9.other (.cells #[Aa Ab 0] 3);have Z':=ES.below ((Ag W8.heap.size W8).alloc (Am _) (.cells #[Aa Ab 0] 3)) ES.lt
 have hq10:QAt (W8.alloc (.cells #[Aa Ab 0] 3)) w.heap.size [N,N4,N5,go,gk] (Ad (Af ⟨W8.heap.size,0,Ae⟩) 1 1) [0]:=
  ⟨W8.heap.size,0,1,#[Aa Ab 0],rfl,H9.below.size,λx hx=>by
   simp at hx;rcases hx with rfl|rfl|rfl|rfl|rfl
   ·exact Nat.ne_of_lt (H9.lt 0 rfl)
   ·exact Nat.ne_of_lt (H9.lt 1 rfl)
   ·exact Nat.ne_of_lt (H9.lt 3 rfl)
   ·exact Nat.ne_of_lt (H9.lt 2 rfl)
   ·exact Nat.ne_of_lt (H9.lt 4 rfl),Bz W8 _,Gx,Gx,λi hi=>by
   have:i=0:=by simpa using hi
   subst this;rfl⟩
 have br:Qn w a b l A n cc k M N N4 N5 go gk (Ad (Af ⟨W8.heap.size,0,Ae⟩) 1 1) (W8.alloc (.cells #[Aa Ab 0] 3)) ⟨Ba k mv0,true::Ba (k-1) false,[0]⟩:=
  ⟨AE,Z',hq10,⟨Gx,Hu,λi hi=>by simp at hi;omega,λm hm=>by rw[List.eq_of_mem_replicate hm];exact(by decide:0<=255)⟩⟩
 have qz:(⟨Ba k mv0,true::Ba (k-1) false,[0]⟩:RS).mm<=k+1:=by simp[RS.mm,unk]
 clear H9 ES AE Z' hq10;obtain⟨g8,FB⟩:=ey W8.heap.size;rw[FB]at br;go_upto_region 7 with fail;clear NP JY c7 z7 q7 FB j3;have HOM:=Ah qz;have gw:=Ah br;clear qz br H7
 go_loopw [8] (λv wr=>∃(fuel:Nat) (s:RS),Qn w a b l A n cc k M N N4 N5 go gk v wr s/\s.mm<=fuel/\fuel<=k+1/\Hid (Sa a b l fuel s=F)) (λv wr=>kK wr gk+Bv0 v)
 case atStart=>exact⟨k+1,_,gw.out,HOM.out,Am _,HF⟩
 obtain⟨fuel,s,hs,qz,hfu,HG⟩:=hrel;obtain⟨out,kn,wt⟩:=s;have SE:=hs.mm
 cases wt with
 |nil=>
  obtain⟨g,o,c,cw,rfl,_⟩:=hs.q
  have hG:Af out=F:=by
   have:=HG.out
   cases fuel with
   |zero=>exact this
   |succ f=>exact this
  have e5:=By wr N5 0 _ _ (0,0) (hs.bx.b 3);simp only[Fu,Dj]at e5;have HE:=Ah hs;have hG':=Ah hG;clear hs hG SE qz HG;go_wp2_with fail
  go_ret2
  rw[<-hG'.out];have hk:out.length=k:=HE.out.ok.out;exact⟨HE.out.bx.below,go,by rw[hk];rfl,HE.out.bx.lo 2 _ _ _ rfl,HE.out.bx.b 2⟩
 |cons x r=>
  obtain⟨g,o,c,rfl,hc,bt,V1⟩:=hs.q.head;have hx:x<k:=hs.ok.wait x Gx;obtain⟨f,rfl⟩:∃f,fuel=f+1:=⟨fuel-1,by have:(⟨out,kn,x::r⟩:RS).mm=unk kn+(r.length+1):=rfl;omega⟩;obtain⟨B,hB⟩:=ey (unk kn+r.length);have it:(⟨out,kn,x::r⟩:RS).mm=B+1:=by rw[<-hB];rfl
  have dl:(⟨out,kn,r⟩:RS).mm=B:=hB;have PM:Hid ((Ui a b l x (3-0) ⟨out,kn,r⟩).bind (Sa a b l f)=F):=Ah (by rw[Nat.sub_zero,<-qI];exact HG.out);have pa:=Ah (λsv (hv:QAt wr w.heap.size [N,N4,N5,go,gk] sv r)=>(⟨hs.bx,hs.mp,hv,⟨hs.ok.out,hs.ok.known,λi hi=>hs.ok.wait i (List.mem_cons_of_mem _ hi),hs.ok.t⟩⟩:Qn w a b l A n cc k M N N4 N5 go gk sv wr ⟨out,kn,r⟩));have HB:=Ah (⟨it,dl,qz,SE⟩:_/\_/\_/\_);have p1:(0:Int)<(r.length:Int)+1:=Gu;have p2:(1:Int)<=(r.length:Int)+1:=Gu
  have hqA:c=1->QAt wr w.heap.size [N,N4,N5,go,gk] (Ad (Af ⟨g,o,Ae⟩) r.length 0) r:=λkh=>by
   have SM:r=[]:=Es.1 Gu;subst SM;obtain⟨g',o',c',cw,he,h2,h3,h4,h5,h6,h7⟩:=V1;injection he with he1 vu T9;injection he1 with he1;injection he1 with he1 _ _;subst he1
   exact⟨g,o,0,cw,rfl,h2,h3,h4,Am _,by
    have:=(Au.1 (Aa7 h4 bt)).1;omega,λi hi=>absurd hi Gx⟩
  have HQA:=Ah hqA;have HQB:=Ah V1;clear hs HG V1 it dl qz SE hqA;go_upto_region 9 with fail;go_cut [8]from 27 to 34 (λs8 wx=>wr=wx/\QAt wr w.heap.size [N,N4,N5,go,gk] s8 r)
  case first=>
   go_wp2_with fail
   all_goals go_meet
   all_goals refine⟨rfl,?_⟩
   ·exact HQA.out (by assumption)
   ·exact HQB.out
  case rest=>
  obtain⟨rfl,hv⟩:=hcut;have B_:=Ah (pa.out _ hv);clear pa hv HQA HQB bt p1 p2;go_wp2
  go_loopw [35,8] (λi v wr=>∃(e:Nat) (s:RS),e<=3/\i= Aa Ac e/\Qn w a b l A n cc k M N N4 N5 go gk v wr s/\s.mm<=B/\Hid ((Ui a b l x (3-e) s).bind (Sa a b l f)=F)) (λi _ _=>3-(intOf i).toNat)
  case atStart=>exact⟨0,_,Gu,rfl,B_.out,Nat.le_of_eq HB.out.2.1,PM⟩
  obtain⟨e,s,he,rfl,hs,hsB,HG⟩:=hrel;by_cases h3:e<3
  ·have hrem:Ui a b l x (3-e) s=(Ox a b l x e s).bind (Ui a b l x (3-(e+1))):=by
    have:e=0∨e=1∨e=2:=Gu;rcases this with rfl|rfl|rfl
    ·rfl
    ·rfl
    ·rfl
   have hG:=HG.out;rw[hrem]at hG;clear hrem HG;obtain⟨⟨a0,a1,a2⟩,_⟩:=He (hs.bx.b 0);have HS:=Ah hs;have ly:=Ah hsB;have q1:(e:Int)<3:=Gu;have q2:(e:Int)<=255:=Gu;have fd:=GD.out x e;have MG:=fF (i:=(x:Int)) (e:=(e:Int)) HP.out.sheet;have nt:=Ay2 (a:=a) (b:=b) (l:=l) (id:=x) (e:=e) (s:=s);have sf:=λy=>vG (a:=a) (b:=b) (l:=l) (id:=x) (e:=e) (y:=y) (s:=s);have jo:=λy=>Ay3 (a:=a) (b:=b) (l:=l) (id:=x) (e:=e) (y:=y) (s:=s);obtain⟨⟨nn,er⟩,VV⟩:=ey (nbI a b x e);rw[VV]at fd MG nt sf jo;have KG:=Ah (⟨nt,sf,jo⟩:_/\_/\_);have oh:=Ah fd;have HG:=Ah hG;clear hs hsB hG fd VV nt sf jo;go_wp2_with fail;refine(oh.out _ Gu (HQ.out.below HS.out.bx.below).qt).mono ?_;rintro en w2 ⟨rfl,aj⟩;have pa:=Ah (HS.out.call aj);clear oh HS aj;by_cases her:er=0
   ·subst her;obtain⟨y,rfl⟩:∃y:Nat,(y:Int)=nn:=⟨nn.toNat,Int.toNat_of_nonneg (MG rfl).1⟩;have IM:y<k:=by have h1:=(MG rfl).2;have h2:=FX.out;omega
    have sf:=KG.out.2.1 y rfl;have jo:=KG.out.2.2 y rfl;have Y3:=Ah λ(w':Aj) (h:Qn w a b l A n cc k M N N4 N5 go gk u8 w' s)=>rV a b l s.out x e N N4 N5 M go k w' HP.out (HQ.out.below h.bx.below) (HT.out.below h.bx.below) h.ok.out.symm hx Gu h.ok.t (He (h.bx.b 0)).1.1 (He (h.bx.b 0)).1.2.1 (By w' N4 0 _ _ (0,0) (h.bx.b 1)) h.mp (By w' N5 0 _ _ (0,0) (h.bx.b 3)) (h.bx.range 2 rfl);have tg:=mD a b l s.out x e pa.out.ok.t;obtain⟨⟨mt,mx,my⟩,hm⟩:=ey (Kh a b l s.out x e);rw[hm]at sf jo Y3 tg;have fa:=Ah (⟨sf,jo⟩:_/\_);clear hm MG sf jo KG;unfold eQ;dsimp only;clear a0 a1 a2;go_wp2_with fail;refine(Y3.out _ pa.out).mono ?_;rintro en3 w3 ⟨rfl,bm⟩;have BU:=(pa.out.call bm).call ((Ag w3.heap.size w3).alloc (Am _) (.cells #[Aa Ac mt,mx,my] 30));have hP:=Bz w3 (.cells #[Aa Ac mt,mx,my] 30);have hqP:=((pa.out.call bm).q.avoid (Am w3.heap.size)).below ((Ag w3.heap.size w3).alloc (Am _) (.cells #[Aa Ac mt,mx,my] 30));have R6:go≠w3.heap.size:=Nat.ne_of_lt ((pa.out.call bm).bx.lt 2 rfl);have hPk:gk≠w3.heap.size:=Nat.ne_of_lt ((pa.out.call bm).bx.lt 4 rfl);clear Y3 pa bm;unfold Mv.v;go_upto_region 16 with fail;obtain⟨P,hPP⟩:=ey w3.heap.size;obtain⟨W4,OI⟩:=ez (w3.alloc (.cells #[Aa Ac mt,mx,my] 30));rw[hPP]at hP hqP R6 hPk⊢;rw[<-OI]at BU hP hqP⊢;clear hPP OI;have hyo:y<s.out.length:=by rw[BU.ok.out];exact IM
    obtain⟨o0,o1,o2⟩:=Xx (BU.bx.range 2 rfl) y hyo;obtain⟨⟨d0,d1,d2⟩,dz⟩:=He hP
    have DK:W4.cell? ⟨gk,y,Ae⟩=Af (.bool (s.known.getD y false)):=by
     have JV:y<s.known.length:=by rw[BU.ok.known];exact IM
     rw[By W4 gk y _ _ (0,0) (BU.bx.b 4)];simp[Ib,List.getD,JV]
    have e5:=By W4 N5 0 _ _ (0,0) (BU.bx.b 3);simp only[Fu,Dj]at e5;obtain⟨kb,xv⟩:=ey (s.known.getD y false);rw[xv]at DK;have y1:(y:Int)<(k:Int):=Gu
    cases kb with
    |true=>
     have hR:=fa.out.1 xv;have OQ:s.out.getD y mv0=s.out[y]:=by simp[List.getD,hyo]
     rw[OQ]at hR;obtain⟨⟨ot,ox,oy⟩,ho⟩:=ey (s.out[y]);rw[ho]at hR o0 o1 o2;have CP:=Ah BU;clear BU hP dz fa xv ho OQ tg hqP R6 hPk;go_upto_region 19 with fail;by_cases hq:(⟨ot,ox,oy⟩:Mv)=⟨mt,mx,my⟩
     ·injection hq with VZ uh hq3;subst VZ uh hq3;rw[Hd rfl]at hR
      have yr:Hid ((Ui a b l x (3-(e+1)) s).bind (Sa a b l f)=F):=Ah (by
       have h:=HG.out;rw[hR]at h;exact h)
      clear hR HG
      go_quiet (fail)
      have IJ:=CP.out.call (Ij (Ag W4.heap.size W4) nq);generalize W4.drewN nq=W9 at IJ⊢;have O8:=Ah IJ;clear d0 d1 d2 o0 o1 o2 DK e5 CP IJ;go_wp2;exact⟨⟨e+1,s,Gu,by go_num,O8.out,ly.out,yr⟩,by simp[intOf];omega⟩
     ·have RD:∀(p q:Result Next),(if((ot:Nat):Int)=(mt:Int)then if ox=mx then if oy=my then p else q else q else q)=q:=λp q=>by
       split
       ·rename_i h1
        split
        ·rename_i h2
         split
         ·rename_i h3;exact absurd (by rw[Int.ofNat.inj h1,h2,h3]) hq
         ·rfl
        ·rfl
       ·rfl
      rw[Gz hq]at hR
      have hF:Ae=F:=by
       have h:=HG.out;rw[hR]at h;exact h
      clear hq hR HG
      go_quiet (fail)
      have IJ:=CP.out.call (Ij (Ag W4.heap.size W4) nq);generalize W4.drewN nq=W9 at IJ⊢;have O8:=Ah IJ;clear d0 d1 d2 o0 o1 o2 DK e5 CP IJ RD;go_wp2_with fail
      go_ret2
      rw[<-hF];exact⟨O8.out.bx.below,rfl⟩
    |false=>
     have hR:=fa.out.2 xv hyo
     have yr:Hid ((Ui a b l x (3-(e+1)) ⟨s.out.set y ⟨mt,mx,my⟩,s.known.set y true,s.wait++[y]⟩).bind (Sa a b l f)=F):=Ah (by
      have h:=HG.out;rw[hR]at h;exact h)
     clear hR fa HG;have NF:y*3+3<=(No s.out).length:=by rw[Vg];omega
     have th:=BU.bx.there 2 rfl;simp only[Fp]at th;have z0:=(th (y*3) Gu).2;have z1:=(th (y*3+1) Gu).2;have z2:=(th (y*3+2) Gu).2;have zk:=(BU.bx.there 4 rfl y (by simp[Ib];rw[BU.ok.known];exact IM)).2;simp only[Bt]at z0 z1 z2 zk;have CP:=Ah BU;have e_:=Ah xv;have ngk:go≠gk:=BU.bx.ne 2 4 Ha rfl rfl;have hmt':(mt:Int)<=255:=Gu;clear BU dz xv th NF;have HQP:=Ah (⟨hqP,hP⟩:_/\_);clear hqP hP;go_upto_region 18 with fail;have IJ:=CP.out.put y ⟨mt,mx,my⟩ tg;dsimp only at IJ;have hq5:=(((HQP.out.1.set (b:=go) Gx (y*3) (Aa Ac mt)).set (b:=go) Gx (y*3+1) (Aa Ab mx)).set (b:=go) Gx (y*3+2) (Aa Ab my)).set (b:=gk) Gx y (.bool true);have FM:=(Dp _ ⟨gk,y,Ae⟩ (.bool true) P (Ne.symm hPk)).trans ((Dp _ ⟨go,y*3+2,Ae⟩ (Aa Ab my) P (Ne.symm R6)).trans ((Dp _ ⟨go,y*3+1,Ae⟩ (Aa Ab mx) P (Ne.symm R6)).trans ((Dp W4 ⟨go,y*3,Ae⟩ (Aa Ac mt) P (Ne.symm R6)).trans HQP.out.2)));generalize (((W4.setCell _ _).setCell _ _).setCell _ _).setCell _ _=W5 at IJ hq5 FM⊢;clear HQP R6 hPk d0 d1 d2 o0 o1 o2 DK e5 z0 z1 z2 zk;have WD:=IJ.call ((Ag W5.heap.size W5).alloc (Am _) (.cells #[y] 3))
     have hy6:(W5.alloc (.cells #[y] 3)).cell? ⟨W5.heap.size,0,Ae⟩=Af (Aa Ab (y:Nat)):=by
      rw[By _ _ 0 _ _ (0,0) (Bz W5 _)];rfl
     have hun:=zS s.known y (by rw[CP.out.ok.known];exact IM) e_.out;have BX:=ly.out;have SE:s.mm=unk s.known+s.wait.length:=rfl;have it:=HB.out
     obtain⟨v',w',ah,V1,hw'⟩:=(hq5.below ((Ag W5.heap.size W5).alloc (Am _) (.cells #[y] 3))).push Gu WD.bx.below.size (λx hx=>by
      simp at hx;rcases hx with rfl|rfl|rfl|rfl|rfl|rfl
      ·exact WD.bx.lt 0 rfl
      ·exact WD.bx.lt 1 rfl
      ·exact WD.bx.lt 3 rfl
      ·exact WD.bx.lt 2 rfl
      ·exact WD.bx.lt 4 rfl
      ·exact Bq (Au.1 FM).1 Gx) y W5.heap.size 1 hy6
     have hs7:=WD.push y IM (V1.sub Gx) (hw'.imp (λ⟨g,j,h1,h2,h3⟩=>⟨g,j,h1,λx hx=>h2 x (List.mem_append_left _ hx),h3⟩) id);have F5:=kept ((Ag W5.heap.size W5).alloc (Am _) (.cells #[y] 3)) FM (Au.1 FM).1
     have hp7:w'.heap[P]? =Af (.cells #[Aa Ac mt,mx,my] 30 (0,0)):=by
      rcases hw' with⟨g,j,_,h2,rfl⟩|⟨o,rfl⟩
      ·exact(Dp _ ⟨g,j,Ae⟩ (Aa Ab (y:Nat)) P (h2 P Gx)).trans F5
      ·exact kept ((Ag _ (W5.alloc (.cells #[y] 3)).drew).alloc (Am _) o) F5 (Au.1 F5).1
     obtain⟨⟨d0,d1,d2⟩,dz⟩:=He hp7;have hyo':y<(s.out.set y ⟨mt,mx,my⟩).length:=by simpa using hyo
     obtain⟨o0,o1,o2⟩:=Xx (hs7.bx.range 2 rfl) y hyo';simp only[Cp]at o0 o1 o2;have e5:=By w' N5 0 _ _ (0,0) (hs7.bx.b 3);simp only[Fu,Dj]at e5;have QC:=Ah hs7;have bg:=Ah ah
     have NT:Hid ((⟨s.out.set y ⟨mt,mx,my⟩,s.known.set y true,s.wait++[y]⟩:RS).mm<=B):=Ah (by
      have e1:(⟨s.out.set y ⟨mt,mx,my⟩,s.known.set y true,s.wait++[y]⟩:RS).mm=unk (s.known.set y true)+(s.wait++[y]).length:=rfl;rw[e1,Bh,List.length_singleton];omega)
     clear IJ WD hy6 V1 hw' ah hun SE it BX CP hs7 F5 hp7 FM hq5 dz hyo';go_wp2_with (at_builtin;refine Lib.wpList_append_run _ rfl _ _ _ _ rfl _ _ rfl rfl _ _ bg.out ?_)
     go_quiet (fail)
     have BV:=QC.out.call (Ij (Ag w'.heap.size w') nq);generalize w'.drewN nq=W9 at BV⊢;have nj:=Ah BV;clear d0 d1 d2 o0 o1 o2 e5 QC BV;go_wp2;exact⟨⟨e+1,_,Gu,by go_num,nj.out,NT.out,yr⟩,by simp[intOf];omega⟩
   ·have yr:Hid ((Ui a b l x (3-(e+1)) s).bind (Sa a b l f)=F):=Ah (by
     have h:=HG.out;rw[KG.out.1 her]at h;exact h)
    unfold eQ;dsimp only;clear HG KG MG a0 a1 a2;go_wp2;exact⟨⟨e+1,s,Gu,by go_num,pa.out,ly.out,yr⟩,by simp[intOf];omega⟩
  ·have:e=3:=Gu;subst this;have HE:=Ah hs;have ly:=Ah hsB;clear hs hsB;go_wp2_with fail;have h1:=HE.out.mm;have h2:=ly.out;have h3:=HB.out;exact⟨⟨f,s,HE.out,Gu,Gu,HG⟩,Gu⟩
def Nx (l:List Cl):List Ak:=l.flatMap Cl.cells
theorem Ps (c:Cl):c.cells.length=3:=rfl
theorem Om (l:List Cl):(Nx l).length=l.length*3:=by
 unfold Nx;induction l with|nil=>rfl|cons x l ih=>simp[Bf,ih,Ps];omega
theorem Bf4 (l:List Cl) (n:Nat) (c:Cl):(((Nx l).toArray.setIfInBounds (n*3) (Aa Ab c.x)).setIfInBounds (n*3+1) (Aa Ab c.y)).setIfInBounds (n*3+2) (Aa Ac c.q)=(Nx (l.set n c)).toArray:=by
 have bi:∀(l:List Cl) (i f:Nat),i<l.length->f<3->(Nx l)[i*3+f]? =(match l[i]? with|some m=>m.cells[f]? |none=>Ae):=λl i f hi hf=>by
  rw[Aw hi];exact Iv Cl.cells 3 Ps _ i f hi hf
 apply Array.ext';simp only[Array.toList_setIfInBounds];apply List.ext_getElem?;intro j;by_cases hj:j<l.length*3
 ·obtain⟨i,f,hf,rfl⟩:∃i f,f<3/\j=i*3+f:=⟨j/3,j%3,Gu,Gu⟩;have hi:i<l.length:=Gu;rw[bi (l.set n c) i f (by simpa using hi) hf];simp only[List.getElem?_set,List.length_set,Om];by_cases e:n=i
  ·subst e;rw[Hd rfl,Hd hi];have h3:f=0∨f=1∨f=2:=Gu;rcases h3 with rfl|rfl|rfl
   ·simp[Cl.cells];omega
   ·simp[Cl.cells];omega
   ·simp[Cl.cells];omega
  ·rw[Gz e,Gz Gu,Gz Gu,Gz Gu,bi l i f hi hf]
 ·rw[Ei (by simp[Om];omega),Ei (by simp[Om];omega)]
theorem Bj5 (k:Nat):madeCells #[Aa Ab 0,Aa Ab 0,Aa Ac 0] (k*3)=(Nx (Ba k cl0)).toArray:=by
 apply Array.ext';apply List.ext_getElem?;intro j;by_cases hj:j<k*3
 ·obtain⟨i,f,hf,rfl⟩:∃i f,f<3/\j=i*3+f:=⟨j/3,j%3,Gu,Gu⟩;have hi:i<k:=Gu;have h1:(Nx (Ba k cl0))[i*3+f]? =(((Ba k cl0)[i]'(by simpa using hi)).cells)[f]? :=Iv Cl.cells 3 Ps _ i f (by simpa using hi) hf;rw[h1];have h3:f=0∨f=1∨f=2:=Gu;have hm:(i*3+f)%3=f:=Gu;simp[madeCells,hj,hm];rcases h3 with rfl|rfl|rfl
  ·rfl
  ·rfl
  ·rfl
 ·rw[Ei (by simp[madeCells];omega),Ei (by simp[Om];omega)]
theorem Au3 (k:Nat) (hk:k<=1024) (W:Aj):(Instr.makeSlice 146 (Aa Ab k) (Aa Ab k)).run Do W= .ok (Ad (Af ⟨W.heap.size,0,Ae⟩) k k) (W.alloc (.cells (Nx (Ba k cl0)).toArray 90)):=by
 have zj:(Tryz.prog.info? 90).map (λi=>(i.zero,i.size,i.bytes))=Af (Af (.agg #[Aa Ab 0,Aa Ab 0,Aa Ac 0]),3,24):=Gw;obtain⟨i,hi,hz,hs,hb⟩:=info_parts zj;have h:=run_make (P:=Do) W 146 90 i _ Tryz.underlying146 hi hz .i64 .i64 k k Gu Gu (by rw[hb];omega) Gu;rw[h];simp only[Eu,hs];have e:(Value.agg #[Aa Ab 0,Aa Ab 0,Aa Ac 0]).cells= #[Aa Ab 0,Aa Ab 0,Aa Ac 0]:=by rfl
 rw[e,Bj5]
def Ad1 (a:Int) (root:Mv) (m:List Mv) (i:Nat):Cl:=(Pv (La (m.getD i mv0) root).1 (Hf a i)).1
def Mb (root:Mv) (m:List Mv) (i:Nat):List Mv:=(m.take i).map (λx=>(La x root).1)++m.drop i
def Ob (a:Int) (root:Mv) (m:List Mv) (i:Nat):List Cl:=(Dr i).map (Ad1 a root m)++Ba (m.length-i) cl0
theorem Wn (root:Mv) (m:List Mv) (i:Nat):(Mb root m i).length=m.length:=by simp[Mb];omega
theorem iT (a:Int) (root:Mv) (m:List Mv) (i:Nat) (hi:i<=m.length):(Ob a root m i).length=m.length:=by simp[Ob];omega
theorem Aw4 (root:Mv) (m:List Mv) (i:Nat) (hi:i<m.length) (h:i<(Mb root m i).length):(Mb root m i)[i]=m[i]:=by
 simp only[Mb];rw[List.getElem_append_right Hu];simp[Nat.min_eq_left (Bu hi)]
theorem Ah4 (root:Mv) (m:List Mv) (i:Nat) (hi:i<m.length):(Mb root m i).set i (La m[i] root).1=Mb root m (i+1):=by
 apply Gj
 ·simp[Mb];omega
 ·intro j h1 h2;have hj:j<m.length:=by simp[Wn]at h1;exact h1
  simp only[Mb,List.getElem_set,List.getElem_append,Bo,Bm,Gd,Dc,List.getElem_drop];by_cases e:i=j
  ·subst e;rw[Hd rfl,dif_pos Gu]
  ·rw[Gz e];by_cases ad:j<i
   ·rw[dif_pos Gu,dif_pos Gu]
   ·rw[dif_neg Gu,dif_neg Gu]
    congr 1;omega
theorem iU (a:Int) (root:Mv) (m:List Mv) (i:Nat) (hi:i<m.length):(Ob a root m i).set i (Ad1 a root m i)=Ob a root m (i+1):=by
 apply Gj
 ·simp[Ob];omega
 ·intro j h1 h2;have hj:j<m.length:=by simp[Ob]at h1;omega
  simp only[Ob,List.getElem_set,List.getElem_append,Bo,List.length_range,Gd,List.getElem_range,List.getElem_replicate];by_cases e:i=j
  ·subst e;rw[Hd rfl,dif_pos Gu]
  ·rw[Gz e];by_cases ad:j<i
   ·rw[dif_pos ad,dif_pos Gu]
   ·rw[dif_neg ad,dif_neg Gu]
theorem gX (a b:Int) (l:List Cr) (root:Mv) (m:List Mv) (hr:root.ok=true) (hm:Uh a b l=Af m) (h:∀j,j<m.length->Lr a root m j=0):Ia a b l root=((Mb root m m.length,Ob a root m m.length),0):=by
 unfold Ia;rw[hr,hm]
 have hf:(Dr m.length).find? (λi=>decide (Lr a root m i≠0))=Ae:=by
  rw[List.find?_eq_none];intro j hj;simp[h j (by simpa using hj)]
 simp only[Bool.true_eq_false,if_false,hf];simp[Mb,Ob];intro i _;simp[Ad1]
theorem mO (a b:Int) (l:List Cr) (root:Mv) (m:List Mv) (i:Nat) (hr:root.ok=true) (hm:Uh a b l=Af m) (hi:i<m.length) (h:∀j,j<i->Lr a root m j=0) (hb:Lr a root m i≠0):Ia a b l root=(([],[]),Lr a root m i):=by
 unfold Ia;rw[hr,hm]
 have hf:(Dr m.length).find? (λi=>decide (Lr a root m i≠0))=Af i:=by
  rw[List.find?_eq_some_iff_getElem];refine⟨by simp[hb],i,by simpa using hi,Gx,λj hj=>?_⟩;simp[h j hj]
 simp only[Bool.true_eq_false,if_false,hf]
theorem Xp (a b:Int) (l:List Cr) (root:Mv) (hr:root.ok=false):Ia a b l root=(([],[]),1):=by
 unfold Ia;rw[Hd hr]
theorem dM (a b:Int) (l:List Cr) (root:Mv) (hr:root.ok=true) (hm:Uh a b l=Ae):Ia a b l root=(([],[]),11):=by
 unfold Ia;rw[hr,hm];rfl
theorem qW (x y:Mv) (h:(La x y).2=0):(La x y).1.ok=true:=by
 unfold La at h⊢
 split
 ·rename_i hc;rw[Hd hc]at h;unfold Vt gJ at h⊢
  split
  ·rename_i ho;exact ho
  ·rename_i ho;rw[Gz ho]at h;cases h
 ·rename_i hc;rw[Gz hc]at h;cases h
theorem fP {a b:Int} {l:List Cr} {id e k:Nat} {s s':RS} (h:Ox a b l id e s=Af s') (hl:s.out.length=k) (ht:∀m∈s.out,m.t<=255):s'.out.length=k/\∀m∈s'.out,m.t<=255:=by
 unfold Ox at h
 split at h
 ·injection h with h;subst h;exact⟨hl,ht⟩
 ·dsimp only at h
  split at h
  ·split at h
   ·injection h with h;subst h;exact⟨hl,ht⟩
   ·cases h
  ·split at h
   ·injection h with h;subst h;refine⟨by simpa using hl,λm hm=>?_⟩;rcases List.mem_or_eq_of_mem_set hm with h1|rfl
    ·exact ht m h1
    ·exact mD a b l s.out id e ht
   ·cases h
theorem qH {a b:Int} {l:List Cr} {id k:Nat} {s s':RS} (h:Qr a b l id s=Af s') (hl:s.out.length=k) (ht:∀m∈s.out,m.t<=255):s'.out.length=k/\∀m∈s'.out,m.t<=255:=by
 unfold Qr at h
 cases h0:Ox a b l id 0 s with
 |none=>rw[h0]at h;cases h
 |some s1=>
  rw[h0]at h;simp only[Option.bind_some]at h;obtain⟨q1,q2⟩:=fP h0 hl ht
  cases h1:Ox a b l id 1 s1 with
  |none=>rw[h1]at h;cases h
  |some s2=>
   rw[h1]at h;simp only[Option.bind_some]at h;obtain⟨q3,q4⟩:=fP h1 q1 q2;exact fP h q3 q4
theorem iZ {a b:Int} {l:List Cr} {k:Nat}:∀(f:Nat) {s:RS} {m:List Mv},Sa a b l f s=Af m->s.out.length=k->(∀m∈s.out,m.t<=255)->m.length=k/\∀x∈m,x.t<=255
 |0,s,m,h,hl,ht=>by
  injection h with h;subst h;exact⟨hl,ht⟩
 |f+1,s,m,h,hl,ht=>by
  obtain⟨out,kn,wt⟩:=s
  cases wt with
  |nil=>injection h with h;subst h;exact⟨hl,ht⟩
  |cons x r=>
   have h:(Qr a b l x ⟨out,kn,r⟩).bind (Sa a b l f)=Af m:=h
   cases h0:Qr a b l x ⟨out,kn,r⟩with
   |none=>rw[h0]at h;cases h
   |some s1=>
    rw[h0]at h;simp only[Option.bind_some]at h;obtain⟨q1,q2⟩:=qH h0 hl ht;exact iZ f h q1 q2
theorem fQ {a b:Int} {l:List Cr} {m:List Mv} (h:Uh a b l=Af m):m.length=Hg a b/\∀x∈m,x.t<=255:=by
 unfold Uh at h;exact iZ _ h Gx (λx hx=>by rw[List.eq_of_mem_replicate hx];exact(by decide:0<=255))
def Bd1 (r:(List Mv×List Cl)×Int) (w:Aj) (e:Ending) (w':Aj):Prop:=Below w.heap.size w w'/\
 ((r.2≠0/\e= .returned (.tuple #[Ad Ae 0 0,Ad Ae 0 0,Aa Ab r.2]))∨
  (r.2=0/\∃g h,e= .returned (.tuple #[Ad (Af ⟨g,0,Ae⟩) r.1.1.length r.1.1.length,Ad (Af ⟨h,0,Ae⟩) r.1.2.length r.1.2.length,Aa Ab 0])/\w.heap.size<=g/\w.heap.size<=h/\g≠h/\w'.heap[g]? =Af (Cn (No r.1.1).toArray 30 (0,0))/\w'.heap[h]? =Af (Cn (Nx r.1.2).toArray 90 (0,0))))
def mP (a b:Int) (A:Option Ci) (n cc:Nat) (root:Mv) (N R go gi:Nat) (ms:List Mv) (is:List Cl):List (Nat×Array Ak×Cj):=
 [(N,#[a,b,Ad A n cc],28),(R,#[Aa Ac root.t,Aa Ab root.x,Aa Ab root.y],30),(go,(No ms).toArray,30),(gi,(Nx is).toArray,90)]
theorem Bx.add {w w3 w4:Aj} {l:List (Nat×Array Ak×Cj)} {g:Nat} {cs:Array Ak} {t:Cj} (h:Bx w l w3) (hb:Below w3.heap.size w3 w4) (hg:w3.heap.size<=g) (hblk:w4.heap[g]? =Af (Cn cs t (0,0))):Bx w (l++[(g,cs,t)]) w4:=by
 have h4:=h.call hb
 have hk:∀(i g':Nat) (ds:Array Ak) (u:Cj),(l++[(g,cs,t)])[i]? =Af (g',ds,u)->(i<l.length/\l[i]? =Af (g',ds,u))∨(i=l.length/\g'=g/\ds=cs/\u=t):=by
  intro i g' ds u hi;by_cases hl:i<l.length
  ·rw[Fj hl]at hi;exact .inl ⟨hl,hi⟩
  ·have se:i<(l++[(g,cs,t)]).length:=(Ax.1 hi).1;simp at se;have:i=l.length:=Gu;subst this;rw[Ee (Am _),Fk]at hi;simp at hi;exact .inr ⟨rfl,hi.1.symm,hi.2.1.symm,hi.2.2.symm⟩
 refine⟨h4.below,λi g' ds u hi=>?_,λi g' ds u hi=>?_,λi j g' ds u es v hi hj=>?_⟩
 ·rcases hk i g' ds u hi with⟨_,h1⟩|⟨_,rfl,rfl,rfl⟩
  ·exact h4.blk i g' ds u h1
  ·exact hblk
 ·rcases hk i g' ds u hi with⟨_,h1⟩|⟨_,rfl,rfl,rfl⟩
  ·exact h.lo i g' ds u h1
  ·exact Br h.below.size hg
 ·rcases hk i g' ds u hi with⟨_,h1⟩|⟨h1,rfl,_,_⟩
  ·rcases hk j g' es v hj with⟨_,h2⟩|⟨_,rfl,_,_⟩
   ·exact h.inj i j g' ds u es v h1 h2
   ·exact absurd (h.lt i h1) Gu
  ·rcases hk j _ es v hj with⟨_,h2⟩|⟨h2,_,_,_⟩
   ·exact absurd (h.lt j h2) Gu
   ·omega
theorem Ap5 {w:Aj} {g:Nat} {l:List Cl} (h:w.rangeAt g 0 (Nx l)) (i:Nat) (hi:i<l.length):
  w.cell? ⟨g,i*3,Ae⟩=Af (Aa Ab l[i].x)/\w.cell? ⟨g,i*3+1,Ae⟩=Af (Aa Ab l[i].y)/\w.cell? ⟨g,i*3+2,Ae⟩=Af (Aa Ac l[i].q):=by
 have bi:∀f,f<3->(Nx l)[i*3+f]? =(l[i].cells)[f]? :=λf hf=>Iv Cl.cells 3 Ps _ i f hi hf;have h0:=h (i*3+0) _ ((bi 0 Gu).trans rfl);have h1:=h (i*3+1) _ ((bi 1 Gu).trans rfl);have h2:=h (i*3+2) _ ((bi 2 Gu).trans rfl);simp only[Bt,De]at h0 h1 h2;exact⟨h0,h1,h2⟩
theorem Ap7 {w wr:Aj} {a b:Int} {A:Option Ci} {n cc N R go gi P C:Nat} {root:Mv} {ms:List Mv} {is:List Cl} {x y:Array Ak} {tx ty:Cj} (h:Bx w (mP a b A n cc root N R go gi ms is++[(P,x,tx),(C,y,ty)]) wr) (j:Nat) (hj:j<is.length):
  wr.frozen? ⟨gi,j*3,Ae⟩=false/\wr.frozen? ⟨gi,j*3+1,Ae⟩=false/\wr.frozen? ⟨gi,j*3+2,Ae⟩=false:=by
 have th:=h.there 3 rfl;have NF:j*3+3<=(Nx is).length:=by rw[Om];omega
 simp only[Fp]at th;have z0:=(th (j*3) Gu).2;have z1:=(th (j*3+1) Gu).2;have z2:=(th (j*3+2) Gu).2;simp only[Bt]at z0 z1 z2;exact⟨z0,z1,z2⟩
theorem jW (a b:Int) (A:Option Ci) (l:List Cr) (n cc:Nat) (root:Mv) (w:Aj) (hp:Lq a b l) (hn:n=l.length) (h:Rd w A 3 n (crs l)) (hl:n<=1000000) (ht:root.t<=255) (hQ:Qf w) (hT:Tn w):
  Al Do 102 #[.agg #[a,b,Ad A n cc],.agg #[Aa Ac root.t,Aa Ab root.x,Aa Ab root.y]] w (Bd1 (Ia a b l root) w):=by
 obtain⟨F,hF⟩:=ey (Ia a b l root);rw[hF];have HFr:=Ah λ(hr:root.ok=false)=>hF.symm.trans (Xp a b l root hr);have HFn:=Ah λ(hr:root.ok=true) (hm:Uh a b l=Ae)=>hF.symm.trans (dM a b l root hr hm);have HFa:=Ah λ(m:List Mv) (hr:root.ok=true) (hm:Uh a b l=Af m) (h:∀j,j<m.length->Lr a root m j=0)=>hF.symm.trans (gX a b l root m hr hm h);have HFe:=Ah λ(m:List Mv) (i:Nat) (hr:root.ok=true) (hm:Uh a b l=Af m) (hi:i<m.length) (h:∀j,j<i->Lr a root m j=0) (hb:Lr a root m i≠0)=>hF.symm.trans (mO a b l root m i hr hm hi h hb);obtain⟨k1,k2,k3⟩:=Lf hp.sheet;have TZ:=Ah λ(w':Aj) (hb:Below w.heap.size w w')=>aY a b A l n cc w' hn (h.below hb) hp (hQ.below hb).qt;have CO:=Ah λ(w':Aj) (hb:Below w.heap.size w w')=>qJ a b A l n cc w' hp hn (h.below hb) hl (hQ.below hb) (hT.below hb);obtain⟨rt,rx,ry⟩:=root;dsimp only at ht;have O3:=Ah λ(w':Aj)=>Jo rt rx ry w' ⟨Int.natCast_nonneg rt,Int.ofNat_le.2 ht⟩;have FX:=Ah k1;have HT:=Ah hT;have HQ:=Ah hQ;have HP:=Ah hp;have YB:=Ah ht;have H:=((Bx.start w).new #[a,b,Ad A n cc] 28 rfl).new #[Aa Ac rt,rx,ry] 30 (N:=w.heap.size+1) Gx;clear hp hn h hl hQ hT hF k1 ht;go_enter Tryz.func102,Tryz.ntmps102;go_upto_region 1 with fail;generalize (w.alloc _).alloc _=W at H⊢;obtain⟨N,hN⟩:=ez w.heap.size;rw[<-hN]at H⊢;obtain⟨R,hR⟩:=ez (N+1);rw[<-hR]at H⊢;have db:=Ah hN;have jq:=Ah hR;clear hN hR;obtain⟨⟨a0,a1,a2⟩,_⟩:=He (H.b 0);go_wp2_with fail;refine(TZ.out _ H.below).mono ?_;rintro e w2 ⟨rfl,hb⟩;have H2:=H.call hb;clear a0 a1 a2 hb H;obtain⟨⟨r0,r1,r2⟩,_⟩:=He (H2.b 1);go_wp2_with fail;refine(O3.out _).mono ?_;rintro e w3 ⟨rfl,hb⟩;have H3:=H2.call hb;clear r0 r1 r2 hb H2;by_cases II:(⟨rt,rx,ry⟩:Mv).ok=true
 ·have LM:ec (okM rt rx ry) 1=0:=by
   have:okM rt rx ry=true:=II;rw[this];rfl
  rw[LM];clear LM;obtain⟨⟨a0,a1,a2⟩,_⟩:=He (H3.b 0);go_wp2_with fail;refine(CO.out _ H3.below).mono ?_;rintro e w4 ⟨hb,gr⟩;have H4:=H3.call hb;clear a0 a1 a2
  cases hrel:Uh a b l with
  |none=>
   rw[hrel]at gr;dsimp only at gr;subst gr;have hF:=HFn.out II hrel;clear hrel;go_wp2_with fail;refine Ai (v:= .tuple #[Ad Ae 0 0,Ad Ae 0 0,Aa Ab 11]) (by simp[results,Tryz.results102,go_sem]) rfl ?_;rw[hF];exact⟨H4.below,.inl ⟨Ha,rfl⟩⟩
  |some ms=>
   rw[hrel]at gr;dsimp only at gr;obtain⟨go,rfl,ki,hblk⟩:=gr;obtain⟨ig,tg⟩:=fQ hrel;obtain⟨k,hk⟩:=ey ms.length;rw[hk]at ig;rw[<-ig]at k2 k3;have mk1:=λW=>Au3 k k3 W;have vo:=Ah (ig▸FX.out:(k:Int)=4*a*b);have AK:=Ah hk;have O4:=Ah tg;have KH:=Ah hrel;have H5:Bx w [(N,#[a,b,Ad A n cc],28),(R,#[Aa Ac rt,rx,ry],30),(go,(No ms).toArray,30)] w4:=H3.add hb ki hblk;rw[hk];clear H3 H4 hb hblk ig hk tg hrel CO TZ O3 HFn HFr ki FX;go_upto_region 10 with fail;obtain⟨gi,RJ⟩:=ey w4.heap.size;have H6:=H5.new (Nx (Ba k cl0)).toArray 90 RJ;generalize w4.alloc _=W6 at H6⊢;rw[RJ]
   have H7:Bx w (mP a b A n cc ⟨rt,rx,ry⟩ N R go gi (Mb ⟨rt,rx,ry⟩ ms 0) (Ob a ⟨rt,rx,ry⟩ ms 0)) W6:=by
    have e1:Mb ⟨rt,rx,ry⟩ ms 0=ms:=by simp[Mb]
    have e2:Ob a ⟨rt,rx,ry⟩ ms 0=Ba k cl0:=by simp[Ob,AK.out]
    rw[e1,e2];exact H6
   have HS:=Ah H7;clear RJ H5 H6 H7 mk1;go_wp2
   go_loopw [36] (λi wr=>∃j:Nat,j<=k/\i= Aa Ab j/\Bx w (mP a b A n cc ⟨rt,rx,ry⟩ N R go gi (Mb ⟨rt,rx,ry⟩ ms j) (Ob a ⟨rt,rx,ry⟩ ms j)) wr/\Hid (∀q,q<j->Lr a ⟨rt,rx,ry⟩ ms q=0)) (λi _=>k-(intOf i).toNat)
   case atStart=>exact⟨0,Gk _,rfl,HS.out,Ah λq hq=>absurd hq Gu⟩
   obtain⟨j,hj,rfl,Hr,HE⟩:=hrel;by_cases ad:j<k
   ·have zo:j<ms.length:=oHx AK.out;have hjp:j<(Mb ⟨rt,rx,ry⟩ ms j).length:=by rw[Wn];exact zo
    obtain⟨o0,o1,o2⟩:=Xx (Hr.range 2 rfl) j hjp;rw[Aw4 _ _ _ zo]at o0 o1 o2
    have hEj:Lr a ⟨rt,rx,ry⟩ ms j=if(La ms[j] ⟨rt,rx,ry⟩).2≠0 then (La ms[j] ⟨rt,rx,ry⟩).2 else (Pv (La ms[j] ⟨rt,rx,ry⟩).1 (Hf a j)).2:=by
     unfold Lr;have:ms.getD j mv0=ms[j]:=by simp[List.getD,zo]
     rw[this]
    have dw:=Ah4 ⟨rt,rx,ry⟩ ms j zo;have hpc:=iU a ⟨rt,rx,ry⟩ ms j zo;have tg:=O4.out ms[j] (Ay _)
    have DN:Ad1 a ⟨rt,rx,ry⟩ ms j=(Pv (La ms[j] ⟨rt,rx,ry⟩).1 (Hf a j)).1:=by
     unfold Ad1;have:ms.getD j mv0=ms[j]:=by simp[List.getD,zo]
     rw[this]
    generalize ms[j]=m at o0 o1 o2 hEj dw tg DN;obtain⟨mt,mx,my⟩:=m;dsimp only at o0 o1 o2 tg;have XL:=Ah hEj;have lm:=Ah dw;have TZ:=Ah hpc;have ni:=Ah DN;have HR:=Ah Hr;have q1:(j:Int)<(k:Int):=Gu;have q2:(mt:Int)<=255:=Gu;clear hEj dw hpc DN Hr;go_upto_region 13 with fail;obtain⟨P,hP⟩:=ey wr.heap.size;have H1:=HR.out.new #[Aa Ac mt,mx,my] 30 hP;generalize wr.alloc _=W1 at H1⊢;rw[hP];clear hP HR o0 o1 o2;obtain⟨⟨a0,a1,a2⟩,_⟩:=He (H1.b 0);have hjs:Sz a b j=true:=Ot.2 ⟨Gu,by have:=vo.out;omega⟩;have bt:=λ(w':Aj)=>Sj a b j w' HP.out.sheet
    have ta:Nj (Uq a b j)= .tuple #[(Hf a j).v,Aa Ab 0]:=by
     unfold Uq;rw[Hd hjs];rfl
    rw[ta]at bt;have lq:=mT HP.out.sheet hjs;generalize Hf a j=c at bt lq XL ni;obtain⟨cx,cy,cq⟩:=c;unfold Cl.v at bt;dsimp only at bt;have yp:=Ah bt;clear bt ta hjs;go_wp2_with fail;refine(yp.out _).mono ?_;rintro e w2 ⟨rfl,aj⟩;have H2:=H1.call aj;clear H1 aj a0 a1 a2 yp;go_upto_region 14 with fail;obtain⟨C,hC⟩:=ey w2.heap.size;have H3:=H2.new #[cx,cy,Aa Ac cq] 90 hC;generalize w2.alloc _=W3 at H3⊢;rw[hC];clear hC H2;obtain⟨⟨a0,a1,a2⟩,_⟩:=He (H3.b 1);obtain⟨⟨b0,b1,b2⟩,_⟩:=He (H3.b 4);have WG:=λ(w':Aj) (hb:Below w.heap.size w w')=>bK ⟨mt,mx,my⟩ ⟨rt,rx,ry⟩ w' tg YB.out (HT.out.below hb);have J3:=qW ⟨mt,mx,my⟩ ⟨rt,rx,ry⟩;have htt:=zP ⟨mt,mx,my⟩ ⟨rt,rx,ry⟩;obtain⟨⟨⟨pt,px,py⟩,te⟩,IL⟩:∃z,La ⟨mt,mx,my⟩ ⟨rt,rx,ry⟩=z:=⟨_,rfl⟩;rw[IL]at WG J3 htt XL lm ni;unfold mvR Mv.v at WG;dsimp only at WG;have YF:=Ah WG;have KK:=Ah J3;clear WG IL J3;go_wp2_with fail;refine(YF.out _ H3.below).mono ?_;rintro e w4 ⟨rfl,ct⟩;have H4:=H3.call ct;clear a0 a1 a2 b0 b1 b2 H3 ct YF;have th:=H4.there 2 rfl;have NF:j*3+3<=(No (Mb ⟨rt,rx,ry⟩ ms j)).length:=by rw[Vg];omega
    simp only[Fp]at th;have z0:=(th (j*3) Gu).2;have z1:=(th (j*3+1) Gu).2;have z2:=(th (j*3+2) Gu).2;simp only[Bt]at z0 z1 z2;obtain⟨o0,o1,o2⟩:=Xx (H4.range 2 rfl) j hjp;clear th NF;have EI:=Ah H4;clear H4;go_upto_region 15 with fail;have H5:=((EI.out.set 2 (j*3) rfl (Aa Ac pt)).set 2 (j*3+1) rfl (Aa Ab px)).set 2 (j*3+2) rfl (Aa Ab py);have e3:=yO (Mb ⟨rt,rx,ry⟩ ms j) j ⟨pt,px,py⟩;rw[lm.out]at e3;dsimp only at e3;rw[e3]at H5;have H6:Bx w (mP a b A n cc ⟨rt,rx,ry⟩ N R go gi (Mb ⟨rt,rx,ry⟩ ms (j+1)) (Ob a ⟨rt,rx,ry⟩ ms j)++[(P,#[Aa Ac mt,mx,my],30),(C,#[cx,cy,Aa Ac cq],90)]) (((w4.setCell ⟨go,j*3,Ae⟩ (Aa Ac pt)).setCell ⟨go,j*3+1,Ae⟩ (Aa Ab px)).setCell ⟨go,j*3+2,Ae⟩ (Aa Ab py)):=H5;generalize ((w4.setCell _ _).setCell _ _).setCell _ _=W5 at H6⊢;clear e3 H5 z0 z1 z2 o0 o1 o2 EI;by_cases IL:te=0
    ·subst IL;have F6:=KK.out rfl;have E':=XL.out;rw[Gz Gx]at E'
     have hmg:Pv ⟨pt,px,py⟩ ⟨cx,cy,cq⟩=Li ⟨pt,px,py⟩ ⟨cx,cy,cq⟩:=by
      unfold Pv;rw[F6,lq];rfl
     have QO:=ni.out;rw[hmg]at E' QO;have ia:=λ(w':Aj) (hb:Below w.heap.size w w')=>Ux lE ⟨pt,px,py⟩ ⟨cx,cy,cq⟩ w' F6 lq (HQ.out.below hb) (HT.out.below hb);obtain⟨⟨⟨ix,iy,iq⟩,ie⟩,U3⟩:∃z,Li ⟨pt,px,py⟩ ⟨cx,cy,cq⟩=z:=⟨_,rfl⟩;rw[U3]at E' QO ia;have LJ:∀(w':Aj),Below w.heap.size w w'->Al Do 121 #[.agg #[Aa Ac pt,px,py],.agg #[cx,cy,Aa Ac cq]] w' (Gy (.tuple #[.agg #[ix,iy,Aa Ac iq],ie]) w'):=ia;have HCM:=Ah LJ;have PK:Hid (Lr a ⟨rt,rx,ry⟩ ms j=ie):=Ah E';have XO:Hid (Ad1 a ⟨rt,rx,ry⟩ ms j=⟨ix,iy,iq⟩):=Ah QO;clear LJ;have hjp1:j<(Mb ⟨rt,rx,ry⟩ ms (j+1)).length:=by rw[Wn];exact zo
     have bi:(Mb ⟨rt,rx,ry⟩ ms (j+1))[j]=⟨pt,px,py⟩:=by
      have h1:(Mb ⟨rt,rx,ry⟩ ms (j+1))[j]? =Af ⟨pt,px,py⟩:=by
       rw[<-lm.out];simp[hjp]
      rw[Aw hjp1]at h1;injection h1
     obtain⟨o0,o1,o2⟩:=Xx (H6.range 2 rfl) j hjp1;rw[bi]at o0 o1 o2;dsimp only at o0 o1 o2;obtain⟨⟨b0,b1,b2⟩,_⟩:=He (H6.b 5);have og:=Ah H6;clear ia U3 hmg E' QO XL ni F6 bi H6 KK;go_upto_region 17 with fail;have hjc:j<(Ob a ⟨rt,rx,ry⟩ ms j).length:=by rw[iT _ _ _ _ (Bu zo)];exact zo
     have HJC:=Ah hjc;have DJ:go≠gi:=og.out.ne 2 3 Ha rfl rfl;have hcg:C≠gi:=og.out.ne 5 3 Ha rfl rfl;obtain⟨S,an⟩:∃S:Aj->Prop,S=λw'=>w'.cell? ⟨go,j*3,Ae⟩=Af (Aa Ac pt)/\w'.cell? ⟨go,j*3+1,Ae⟩=Af (Aa Ab px)/\w'.cell? ⟨go,j*3+2,Ae⟩=Af (Aa Ab py)/\w'.cell? ⟨C,0,Ae⟩=Af (Aa Ab cx)/\w'.cell? ⟨C,1,Ae⟩=Af (Aa Ab cy)/\w'.cell? ⟨C,2,Ae⟩=Af (Aa Ac cq):=⟨_,rfl⟩;have ae:Hid (∀W',Below W5.heap.size W5 W'->S W'):=Ah λW' h=>by subst an;exact⟨Gv h o0,Gv h o1,Gv h o2,Gv h b0,Gv h b1,Gv h b2⟩
     have QE:Hid (∀(W':Aj) (x y z:Ak),S W'->S (((W'.setCell ⟨gi,j*3,Ae⟩ x).setCell ⟨gi,j*3+1,Ae⟩ y).setCell ⟨gi,j*3+2,Ae⟩ z)):=Ah λW' x y z h=>by
      subst an;obtain⟨h0,h1,h2,h3,h4,h5⟩:=h;exact⟨Jd DJ h0,Jd DJ h1,Jd DJ h2,Jd hcg h3,Jd hcg h4,Jd hcg h5⟩
     have HSO:Hid (∀W',S W'->W'.cell? ⟨go,j*3,Ae⟩=Af (Aa Ac pt)/\W'.cell? ⟨go,j*3+1,Ae⟩=Af (Aa Ab px)/\W'.cell? ⟨go,j*3+2,Ae⟩=Af (Aa Ab py)/\W'.cell? ⟨C,0,Ae⟩=Af (Aa Ab cx)/\W'.cell? ⟨C,1,Ae⟩=Af (Aa Ab cy)/\W'.cell? ⟨C,2,Ae⟩=Af (Aa Ac cq)):=Ah λW' h=>by subst an;exact h
     clear an o0 o1 o2 b0 b1 b2;refine wp_region_held_drew (S:=S) Gw (ae.out _ (Ag _ _).drew) (λhS=>?_);have hb:Below W5.heap.size W5 W5.drew:=(Ag _ _).drew;have H:=og.out.drew;generalize W5.drew=X0 at H hb hS⊢;clear og;refine Hh 0 1 2 3 ?_;refine Oe 4 5 6 ?_;refine rdy 7 (λK hK=>?_);go_simp;refine(HCM.out _ H.below).mono ?_;rintro e X1 ⟨rfl,ac⟩;have hb:=hb.trans (ac.mono hb.size);have H:=H.call ac;have hS:=ae.out _ hb;refine hK.o hS (λhS=>?_);clear hK K ac;refine Hh 8 9 10 11 ?_;refine rdy 12 (λK hK=>?_);have RJ:=H.lt 3 rfl;obtain⟨i0,i1,i2⟩:=Ap5 (H.range 3 rfl) j HJC.out;obtain⟨z0,z1,z2⟩:=Ap7 H j HJC.out;have H5:=((H.set 3 (j*3) rfl (Aa Ab ix)).set 3 (j*3+1) rfl (Aa Ab iy)).set 3 (j*3+2) rfl (Aa Ac iq);have e3:=Bf4 (Ob a ⟨rt,rx,ry⟩ ms j) j ⟨ix,iy,iq⟩;rw[<-XO.out,iU a ⟨rt,rx,ry⟩ ms j zo,XO.out]at e3;dsimp only at e3;rw[e3]at H5;have H6:Hid (Bx w (mP a b A n cc ⟨rt,rx,ry⟩ N R go gi (Mb ⟨rt,rx,ry⟩ ms (j+1)) (Ob a ⟨rt,rx,ry⟩ ms (j+1))) (((X1.setCell ⟨gi,j*3,Ae⟩ (Aa Ab ix)).setCell ⟨gi,j*3+1,Ae⟩ (Aa Ab iy)).setCell ⟨gi,j*3+2,Ae⟩ (Aa Ac iq))):=Ah (H5.upto 4);clear e3 H5 H hb;go_simp;refine hK.o (QE.out _ _ _ _ hS) (λhS=>?_);clear hK K i0 i1 i2 z0 z1 z2;generalize ((X1.setCell _ _).setCell _ _).setCell _ _=X2 at H6 hS⊢;refine Kg 13 ?_;refine wpAnyH_done Gw ?_ _;clear hS HSO ae QE;by_cases U3:ie=0
     ·subst U3
      have IU:Hid (∀q,q<j+1->Lr a ⟨rt,rx,ry⟩ ms q=0):=Ah λq hq=>by
       by_cases hqj:q=j
       ·subst hqj;exact PK.out
       ·exact HE.out q Gu
      go_wp2;exact⟨⟨j+1,Gu,by go_num,H6.out,IU⟩,by simp[intOf];omega⟩
     ·have hb:Lr a ⟨rt,rx,ry⟩ ms j≠0:=by rw[PK.out];exact U3
      have hF:=HFe.out ms j II KH.out zo HE.out hb;rw[PK.out]at hF;clear hb PK XO lm TZ;go_wp2_with fail;refine Ai (v:= .tuple #[Ad Ae 0 0,Ad Ae 0 0,ie]) (by simp[results,Tryz.results102,go_sem]) rfl ?_;rw[hF];exact⟨H6.out.below,.inl ⟨U3,rfl⟩⟩
    ·have hb:Lr a ⟨rt,rx,ry⟩ ms j≠0:=by
      rw[XL.out,Hd IL];exact IL
     have hF:=HFe.out ms j II KH.out zo HE.out hb;rw[XL.out,Hd IL]at hF;clear hb XL ni lm TZ;go_wp2_with fail;refine Ai (v:= .tuple #[Ad Ae 0 0,Ad Ae 0 0,te]) (by simp[results,Tryz.results102,go_sem]) rfl ?_;rw[hF];exact⟨H6.below,.inl ⟨IL,rfl⟩⟩
   ·obtain rfl:j=k:=Gu;have q1:¬(j:Int)<(j:Int):=Gu;have HR:=Ah Hr;have hF:=HFa.out ms II KH.out (λq hq=>HE.out q (oHx AK.out));clear Hr;go_wp2_with fail;refine Ai (v:= .tuple #[Ad (Af ⟨go,0,Ae⟩) j j,Ad (Af ⟨gi,0,Ae⟩) j j,Aa Ab 0]) (by simp[results,Tryz.results102,go_sem]) rfl ?_;rw[AK.out];have e1:=Wn ⟨rt,rx,ry⟩ ms j;have e2:=iT a ⟨rt,rx,ry⟩ ms j (oHx AK.out);rw[AK.out]at e1 e2;exact⟨HR.out.below,.inr ⟨rfl,go,gi,by dsimp only;rw[e1,e2],HR.out.lo 2 _ _ _ rfl,HR.out.lo 3 _ _ _ rfl,HR.out.ne 2 3 Ha rfl rfl,HR.out.b 2,HR.out.b 3⟩⟩
 ·have uj:(⟨rt,rx,ry⟩:Mv).ok=false:=by simpa using II
  have LM:ec (okM rt rx ry) 1=1:=by
   have:okM rt rx ry=false:=uj;rw[this];rfl
  rw[LM];clear LM;have hF:=HFr.out uj;go_wp2_with fail;refine Ai (v:= .tuple #[Ad Ae 0 0,Ad Ae 0 0,Aa Ab 1]) (by simp[results,Tryz.results102,go_sem]) rfl ?_;rw[hF];exact⟨H3.below,.inl ⟨Ha,rfl⟩⟩
def rS (cs:List Ak) (n:Nat) (t:Cj) (er:Int) (w:Aj) (e:Ending) (w':Aj):Prop:=Below w.heap.size w w'/\
 ((er≠0/\e= .returned (.tuple #[Ad Ae 0 0,er]))∨
  (er=0/\∃g,e= .returned (.tuple #[Ad (Af ⟨g,0,Ae⟩) n n,Aa Ab 0])/\w.heap.size<=g/\w'.heap[g]? =Af (Cn cs.toArray t (0,0))))
theorem iV (a b:Int) (A:Option Ci) (l:List Cr) (n cc:Nat) (root:Mv) (w:Aj) (hp:Lq a b l) (hn:n=l.length) (h:Rd w A 3 n (crs l)) (hl:n<=1000000) (ht:root.t<=255) (hQ:Qf w) (hT:Tn w):
  Al Do 54 #[.agg #[a,b,Ad A n cc],.agg #[Aa Ac root.t,Aa Ab root.x,Aa Ab root.y]] w (rS (No (Ia a b l root).1.1) (Ia a b l root).1.1.length 30 (Ia a b l root).2 w):=by
 have hB:=λ(w':Aj) (hb:Below w.heap.size w w')=>jW a b A l n cc root w' hp hn (h.below hb) hl ht (hQ.below hb) (hT.below hb);obtain⟨⟨⟨ms,is⟩,er⟩,hF⟩:∃F,Ia a b l root=F:=⟨_,rfl⟩;rw[hF]at hB⊢;dsimp only;obtain⟨rt,rx,ry⟩:=root;dsimp only at hB⊢;have HB:=Ah hB;have H:=((Bx.start w).new #[a,b,Ad A n cc] 28 rfl).new #[Aa Ac rt,rx,ry] 30 (N:=w.heap.size+1) Gx;clear hp hn h hl hQ hT hF ht hB;go_enter Tryz.func54,Tryz.ntmps54;go_upto_region 1 with fail;generalize (w.alloc _).alloc _=W at H⊢;obtain⟨N,hN⟩:=ez w.heap.size;rw[<-hN]at H⊢;have db:=Ah hN;clear hN;obtain⟨⟨a0,a1,a2⟩,_⟩:=He (H.b 0);obtain⟨⟨b0,b1,b2⟩,_⟩:=He (H.b 1);go_wp2_with fail;refine(HB.out _ H.below).mono ?_;rintro e w2 ⟨hb,gr⟩;have H2:=H.call hb;have gz:=H.below.size;clear a0 a1 a2 b0 b1 b2 hb HB H;dsimp only at gr;rcases gr with⟨h0,rfl⟩|⟨rfl,g,hh,rfl,hg,hgh,hne,ci,aj⟩
 ·go_wp2_with fail;refine Ai (v:= .tuple #[Ad Ae 0 0,er]) (by simp[results,Tryz.results54,go_sem]) rfl ?_;exact⟨H2.below,.inl ⟨h0,rfl⟩⟩
 ·go_wp2_with fail;refine Ai (v:= .tuple #[Ad (Af ⟨g,0,Ae⟩) ms.length ms.length,Aa Ab 0]) (by simp[results,Tryz.results54,go_sem]) rfl ?_;exact⟨H2.below,.inr ⟨rfl,g,rfl,Gu,ci⟩⟩
theorem We (a b:Int) (A:Option Ci) (l:List Cr) (n cc:Nat) (root:Mv) (w:Aj) (hp:Lq a b l) (hn:n=l.length) (h:Rd w A 3 n (crs l)) (hl:n<=1000000) (ht:root.t<=255) (hQ:Qf w) (hT:Tn w):
  Al Do 62 #[.agg #[a,b,Ad A n cc],.agg #[Aa Ac root.t,Aa Ab root.x,Aa Ab root.y]] w (rS (Nx (Ia a b l root).1.2) (Ia a b l root).1.2.length 90 (Ia a b l root).2 w):=by
 have hB:=λ(w':Aj) (hb:Below w.heap.size w w')=>jW a b A l n cc root w' hp hn (h.below hb) hl ht (hQ.below hb) (hT.below hb);obtain⟨⟨⟨ms,is⟩,er⟩,hF⟩:∃F,Ia a b l root=F:=⟨_,rfl⟩;rw[hF]at hB⊢;dsimp only;obtain⟨rt,rx,ry⟩:=root;dsimp only at hB⊢;have HB:=Ah hB;have H:=((Bx.start w).new #[a,b,Ad A n cc] 28 rfl).new #[Aa Ac rt,rx,ry] 30 (N:=w.heap.size+1) Gx;clear hp hn h hl hQ hT hF ht hB;go_enter Tryz.func62,Tryz.ntmps62;go_upto_region 1 with fail;generalize (w.alloc _).alloc _=W at H⊢;obtain⟨N,hN⟩:=ez w.heap.size;rw[<-hN]at H⊢;have db:=Ah hN;clear hN;obtain⟨⟨a0,a1,a2⟩,_⟩:=He (H.b 0);obtain⟨⟨b0,b1,b2⟩,_⟩:=He (H.b 1);go_wp2_with fail;refine(HB.out _ H.below).mono ?_;rintro e w2 ⟨hb,gr⟩;have H2:=H.call hb;have gz:=H.below.size;clear a0 a1 a2 b0 b1 b2 hb HB H;dsimp only at gr;rcases gr with⟨h0,rfl⟩|⟨rfl,g,hh,rfl,hg,hgh,hne,ci,aj⟩
 ·go_wp2_with fail;refine Ai (v:= .tuple #[Ad Ae 0 0,er]) (by simp[results,Tryz.results62,go_sem]) rfl ?_;exact⟨H2.below,.inl ⟨h0,rfl⟩⟩
 ·go_wp2_with fail;refine Ai (v:= .tuple #[Ad (Af ⟨hh,0,Ae⟩) is.length is.length,Aa Ab 0]) (by simp[results,Tryz.results62,go_sem]) rfl ?_;exact⟨H2.below,.inr ⟨rfl,hh,rfl,Gu,aj⟩⟩
theorem Au9 (m:Mv) (c:Cl) (h:(Pv m c).2=0):(Pv m c).1.ok=true:=by
 unfold Pv at h⊢
 split
 ·rename_i hc;rw[Hd hc]at h;unfold Li at h⊢
  split
  ·rename_i ho;exact ho
  ·rename_i ho;rw[Gz ho]at h;cases h
 ·rename_i hc;rw[Gz hc]at h;cases h
theorem Ny {a b:Int} {l:List Cr} {root:Mv} (h:(Ia a b l root).2=0):
  (Ia a b l root).1.1.length=Hg a b/\(Ia a b l root).1.2.length=Hg a b/\(∀m∈(Ia a b l root).1.1,m.ok=true)/\∀c∈(Ia a b l root).1.2,c.ok=true:=by
 cases hr:root.ok with
 |false=>rw[Xp a b l root hr]at h;cases h
 |true=>
  cases hm:Uh a b l with
  |none=>rw[dM a b l root hr hm]at h;cases h
  |some m=>
   by_cases fe:∀j,j<m.length->Lr a root m j=0
   ·obtain⟨h1,_⟩:=fQ hm;have e:Ia a b l root=((Mb root m m.length,Ob a root m m.length),0):=gX a b l root m hr hm fe
    have hE:∀j,j<m.length->(La (m.getD j mv0) root).2=0/\(Pv (La (m.getD j mv0) root).1 (Hf a j)).2=0:=by
     intro j hj;have h2:=fe j hj;unfold Lr at h2;by_cases h3:(La (m.getD j mv0) root).2=0
     ·rw[Gz (by simpa using h3)]at h2;exact⟨h3,h2⟩
     ·rw[Hd h3]at h2;exact absurd h2 h3
    rw[e];refine⟨by simp[Mb,h1],by simp[Ob,h1],λx hx=>?_,λc hc=>?_⟩
    ·simp only[Mb,List.take_length,List.drop_length,Fe,Dq]at hx;obtain⟨y,hy,rfl⟩:=hx;obtain⟨j,hj,rfl⟩:=Be.1 hy;have:=(hE j hj).1;rw[List.getD_eq_getElem?_getD,Aw hj]at this;exact qW _ _ this
    ·simp only[Ob,Fk,List.replicate_zero,Fe,Dq,List.mem_range]at hc;obtain⟨j,hj,rfl⟩:=hc;exact Au9 _ _ (hE j hj).2
   ·have:∃i,i<m.length/\(∀j,j<i->Lr a root m j=0)/\Lr a root m i≠0:=by
     have hex:∃i,i<m.length/\Lr a root m i≠0:=by
      apply Ew;intro hn;exact fe λj hj=>Ew λh3=>hn ⟨j,hj,h3⟩
     obtain⟨n,ff,kr⟩:=hex
     induction n using Nat.strongRecOn with
     |_ n ih=>
      by_cases hq:∀j,j<n->Lr a root m j=0
      ·exact⟨n,ff,hq,kr⟩
      ·have:∃j,j<n/\Lr a root m j≠0:=by
        apply Ew;intro hn;exact hq λj hj=>Ew λh3=>hn ⟨j,hj,h3⟩
       obtain⟨j,U4,U5⟩:=this;exact ih j U4 Gu U5
    obtain⟨i,hi,h1,h2⟩:=this;rw[mO a b l root m i hr hm hi h1 h2]at h;exact absurd h h2
theorem sE (l:List Bool) (n:Nat) (v:Bool):(Ib l).toArray.setIfInBounds n (.bool v)=(Ib (l.set n v)).toArray:=by
 simp[Ib,List.map_set]
def Pz (ms:List Mv) (i:Nat):List Bool:=(ms.take i).map (λm=> !Rf m)++Ba (ms.length-i) false
theorem Ah5 (ms:List Mv) (i:Nat) (hi:i<=ms.length):(Pz ms i).length=ms.length:=by simp[Pz];omega
theorem Ah6 (ms:List Mv) (i:Nat) (hi:i<ms.length):(Pz ms i).set i (!Rf ms[i])=Pz ms (i+1):=by
 apply Gj
 ·simp[Pz];omega
 ·intro j h1 h2;have hj:j<ms.length:=by simp[Pz]at h1;omega
  simp only[Pz,List.getElem_set,List.getElem_append,Bo,Bm,Gd,Dc,List.getElem_replicate];by_cases e:i=j
  ·subst e;rw[Hd rfl,dif_pos Gu]
  ·rw[Gz e];by_cases ad:j<i
   ·rw[dif_pos Gu,dif_pos Gu]
   ·rw[dif_neg Gu,dif_neg Gu]
def upL (a b:Int) (A:Option Ci) (n cc:Nat) (root:Mv) (N R g gi:Nat) (ms:List Mv) (us:List Bool):List (Nat×Array Ak×Cj):=
 [(N,#[a,b,Ad A n cc],28),(R,#[Aa Ac root.t,Aa Ab root.x,Aa Ab root.y],30),(g,(No ms).toArray,30),(gi,(Ib us).toArray,4)]
theorem Bq2 (a b:Int) (A:Option Ci) (l:List Cr) (n cc:Nat) (root:Mv) (w:Aj) (hp:Lq a b l) (hn:n=l.length) (h:Rd w A 3 n (crs l)) (hl:n<=1000000) (ht:root.t<=255) (hQ:Qf w) (hT:Tn w):
  Al Do 72 #[.agg #[a,b,Ad A n cc],.agg #[Aa Ac root.t,Aa Ab root.x,Aa Ab root.y]] w (rS (Ib (upF a b l root).1) (upF a b l root).1.length 4 (upF a b l root).2 w):=by
 have hB:=λ(w':Aj) (hb:Below w.heap.size w w')=>jW a b A l n cc root w' hp hn (h.below hb) hl ht (hQ.below hb) (hT.below hb);have hinv:=Ny (a:=a) (b:=b) (l:=l) (root:=root);obtain⟨_,_,k3⟩:=Lf hp.sheet;have hU:upF a b l root=if(Ia a b l root).2≠0 then ([],(Ia a b l root).2)else ((Ia a b l root).1.1.map λm=> !Rf m,0):=rfl;obtain⟨⟨⟨ms,is⟩,er⟩,hF⟩:∃F,Ia a b l root=F:=⟨_,rfl⟩;rw[hF]at hB hinv hU;dsimp only at hinv hU;generalize upF a b l root=U at hU⊢;obtain⟨rt,rx,ry⟩:=root;dsimp only at hB⊢;have HB:=Ah hB;have HU:=Ah hU;have HI:=Ah hinv;have H:=((Bx.start w).new #[a,b,Ad A n cc] 28 rfl).new #[Aa Ac rt,rx,ry] 30 (N:=w.heap.size+1) Gx;clear hp hn h hl hQ hT hF ht hB hU hinv;go_enter Tryz.func72,Tryz.ntmps72;go_upto_region 1 with fail;generalize (w.alloc _).alloc _=W at H⊢;obtain⟨N,hN⟩:=ez w.heap.size;rw[<-hN]at H⊢;have db:=Ah hN;clear hN;generalize N+1=R at H⊢;obtain⟨⟨a0,a1,a2⟩,_⟩:=He (H.b 0);obtain⟨⟨b0,b1,b2⟩,_⟩:=He (H.b 1);go_wp2_with fail;refine(HB.out _ H.below).mono ?_;rintro e w2 ⟨hb,gr⟩;have gz:=H.below.size;clear a0 a1 a2 b0 b1 b2 HB;dsimp only at gr;rcases gr with⟨h0,rfl⟩|⟨rfl,g,hh,rfl,hg,hgh,hne,ci,aj⟩
 ·have hUe:=HU.out;rw[Hd h0]at hUe;subst hUe;have H2:=H.call hb;clear HU HI hb H;go_wp2_with fail;refine Ai (v:= .tuple #[Ad Ae 0 0,er]) (by simp[results,Tryz.results72,go_sem]) rfl ?_;exact⟨H2.below,.inl ⟨h0,rfl⟩⟩
 ·have hUe:=HU.out;rw[Gz Gx]at hUe;subst hUe;obtain⟨i1,_,i3,_⟩:=HI.out rfl;obtain⟨k,hk⟩:=ey ms.length;have FD:k<=1024:=Gu;have mk1:=λW=>Xv k FD W;have HK:=Ah hk;have HI3:=Ah i3;have H2:=H.add hb hg ci;have HG:Hid (w.heap.size<=w2.heap.size):=Ah (Br gz hb.size);rw[hk];clear HU HI hb H i1 i3 hk ci aj hg hgh hne gz;go_upto_region 5 with fail;obtain⟨gi,RJ⟩:=ey w2.heap.size;have H6:=H2.new (Ib (Ba k false)).toArray 4 RJ;generalize w2.alloc _=W6 at H6⊢;rw[RJ]
  have H7:Bx w (upL a b A n cc ⟨rt,rx,ry⟩ N R g gi ms (Pz ms 0)) W6:=by
   have e2:Pz ms 0=Ba k false:=by simp[Pz,HK.out]
   rw[e2];exact H6
  have HS:=Ah H7;have HGI:Hid (w.heap.size<=gi):=Ah (RJ▸HG.out);clear RJ H2 H6 H7 mk1 HG;go_wp2
  go_loopw [27] (λi wr=>∃j:Nat,j<=k/\i= Aa Ab j/\Bx w (upL a b A n cc ⟨rt,rx,ry⟩ N R g gi ms (Pz ms j)) wr) (λi _=>k-(intOf i).toNat)
  case atStart=>exact⟨0,Gk _,rfl,HS.out⟩
  obtain⟨j,hj,rfl,Hr⟩:=hrel;by_cases ad:j<k
  ·have zo:j<ms.length:=oHx HK.out;obtain⟨o0,o1,o2⟩:=Xx (Hr.range 2 rfl) j zo;have lh:=Ah6 ms j zo;have tg:=(Mv.ok_iff.1 (HI3.out ms[j] (Ay _))).1;generalize ms[j]=m at o0 o1 o2 lh tg;obtain⟨mt,mx,my⟩:=m;obtain⟨fb,OP⟩:=ey (Rf ⟨mt,mx,my⟩);have ji:=λw'=>Ab6 ⟨mt,mx,my⟩ w' (by dsimp only at tg⊢;omega);rw[OP]at lh ji;dsimp only at o0 o1 o2 tg ji;have CM:=Ah lh;have yq:=Ah ji;have HR:=Ah Hr;have q1:(j:Int)<(k:Int):=Gu;clear lh Hr OP ji tg;go_upto_region 8 with fail;obtain⟨P,hP⟩:=ey wr.heap.size;have H1:=HR.out.new #[Aa Ac mt,mx,my] 30 hP;generalize wr.alloc _=W1 at H1⊢;rw[hP];clear hP HR o0 o1 o2;obtain⟨⟨a0,a1,a2⟩,_⟩:=He (H1.b 4);go_wp2_with fail;refine(yq.out _).mono ?_;rintro e w3 ⟨rfl,bm⟩;have H3:=H1.call bm;clear a0 a1 a2 H1 bm;have xu:j<(Pz ms j).length:=by rw[Ah5 _ _ (Bu zo)];exact zo
   have th:=H3.there 3 rfl;simp only[Fp]at th;obtain⟨z0,z1⟩:=th j (by simp[Ib];exact xu);simp only[Bt]at z0 z1
   have z2:w3.cell? ⟨gi,j,Ae⟩=Af (.bool (Pz ms j)[j]):=by
    have:=(H3.range 3 rfl) j (.bool (Pz ms j)[j]) (by simp[Ib,xu]);simpa using this
   have H4:=(H3.set 3 j rfl (.bool (!fb))).upto 4;rw[sE,CM.out]at H4;have EI:Hid (Bx w (upL a b A n cc ⟨rt,rx,ry⟩ N R g gi ms (Pz ms (j+1))) (w3.setCell ⟨gi,j,Ae⟩ (.bool (!fb)))):=Ah H4;clear H3 H4 th;go_wp2;exact⟨⟨j+1,Gu,by go_num,EI.out⟩,by simp[intOf];omega⟩
  ·obtain rfl:j=k:=Gu;have q1:¬(j:Int)<(j:Int):=Gu;have HR:=Ah Hr;clear Hr;go_wp2_with fail;refine Ai (v:= .tuple #[Ad (Af ⟨gi,0,Ae⟩) j j,Aa Ab 0]) (by simp[results,Tryz.results72,go_sem]) rfl ?_
   have e1:Pz ms j=ms.map λm=> !Rf m:=by
    unfold Pz;rw[HK.out,Fk,<-HK.out];simp
   have hblk:=HR.out.b 3;rw[e1]at hblk;exact⟨HR.out.below,.inr ⟨rfl,gi,by rw[HK.out],HGI.out,hblk⟩⟩
end Go.Proofs.YtlgkpdfieaadaaaGreatDoor
