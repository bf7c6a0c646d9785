import Derived.Test.YtlgkpdfieaadaaaGreatDoorRSog
import Derived.Shelf.Sort.Plain
import Derived.Shelf.Slices.In.SortNone
import Derived.Sort.OwnSortedInts
import Derived.Shelf.Slices.Reverse
import Derived.RangeFuncNested
import Derived.RangeFuncBound
set_option linter.all false
open Array renaming getElem?_eq_some_iff->Au,replicate_succ->Db,replicate_zero->Da
open Classical renaming byContradiction->Ex,not_not->El
open Go renaming Addr->Cj,Calls->Al,TypeId->Ck,Value->Ak,World->Aj,bodyPost_ret->Ai,cell_of_row->Bz,heap_alloc_new->Ca
open Go.IntKind renaming i64->Ab,u8->Ac
open Go.IntWalk renaming i64_in->Cb
open Go.Lib renaming hid->Ah
open Go.Obj renaming cells->Co
open Go.Proofs.Tryz renaming prog->Dp
open Go.RowKit.Below renaming heap_alloc->Eh,heap_setCell->Dq,refl->Ag
open Go.Value renaming int->Aa,slice->Ad
open Int renaming toNat_natCast->Ev
open List renaming all_eq_true->Ed,any_eq_false->Du,any_eq_true->Ew,append_assoc->Bj,append_nil->Ff,append_toArray->De,cons_append->Er,drop_eq_getElem_cons->Gp,drop_of_length_le->Cu,ext_getElem->Gk,flatMap_append->Bi,flatMap_cons->Bf,getElem?_append_left->Fk,getElem?_append_right->Eg,getElem?_cons_zero->Dk,getElem?_eq_getElem->Aw,getElem?_eq_none->Ej,getElem?_eq_some_iff->Ax,getElem?_toArray->Fv,getElem_cons_succ->Ce,getElem_cons_zero->Cd,getElem_map->Ge,getElem_mem->Ay,getElem_set_self->Cq,getElem_take->Dd,getElem_toArray->Cf,length_append->Bh,length_cons->Eo,length_drop->Dy,length_eq_zero_iff->Et,length_map->Bp,length_nil->Cs,length_replicate->Fg,length_take->Bm,map_append->Ez,map_cons->Es,map_map->Ft,mem_append->Bl,mem_cons->Bk,mem_flatMap->Ec,mem_iff_getElem->Be,mem_map->Dr,mem_singleton->Gf,nil_append->Eu,nodup_append->Bq,range->Ds,replicate->Ba,setIfInBounds_toArray->Ci,set_append_right->Gh,set_cons_succ->Ch,set_cons_zero->Cg,size_toArray->Fq,take_append_drop->Fe,take_of_length_le->Bg,take_succ_eq_append_getElem->Bc
open Nat renaming add_zero->Df,le_of_lt->Bw,le_refl->Am,le_trans->Bt,lt_of_lt_of_le->Br,mul_one->Dc,sub_self->Fo,zero_add->Bu,zero_le->Gm
open Option renaming none->Ae,some->Af
set_option maxHeartbeats 8000000
set_option maxRecDepth 100000
namespace Go.Proofs
def lyf {α:Type} {a:Option α} {b c:α} (h:a=Af b) (e:b=c:=by kernel_rfl):a=Af c:=h.trans (congrArg Af e)
def lyb {P:Program} {f:FuncId} {B C:Func} (h:P.funcs[f]? =Af C) (e:C={B with name:=C.name}:=by kernel_rfl) (n:(C.name== "runtime.NumGoroutine")=false:=by decide):Bears P f B:=⟨C.name,n,h.trans (congrArg Af e)⟩
open Go.Shelf Go.RowKit
def Tryz.laysSortStk_ren:Go.Shelf.Ren:=⟨fun|6=>108|15=>85|14=>165|28=>149|29=>150|20=>215|21=>216|22=>217|23=>218|24=>219|25=>220|26=>221|27=>222|46=>260|47=>189|48=>190|49=>261|50=>262|57=>303|n=>n,fun|22=>31|24=>92|25=>212|3=>3|39=>176|0=>0|53=>251|55=>253|4=>4|46=>245|45=>244|50=>208|5=>5|9=>9|66=>307|70=>109|76=>369|77=>225|n=>n,fun|n=>n⟩
open Tryz in
def Tryz.laysSortStk:Go.Proofs.SlLaysF0.n6 Dp Tryz.laysSortStk_ren:={
 mixed:=Gx,f6:=lyb func108,f14:=lyb func165,f15:=lyf func85,f20:=lyb func215,f21:=lyb func216,f22:=lyb func217,f23:=lyb func218,f24:=lyb func219,f25:=lyb func220,f26:=lyb func221,f27:=lyb func222,f28:=lyf func149,f29:=lyf func150,f46:=lyb func260,f47:=lyf func189,f48:=lyf func190,f49:=lyb func261,f50:=lyb func262,f57:=lyb func303,t0:=underlying0,a0:=isAgg0,z0:=sizeOf0,v0:=zeroValue0,t3:=underlying3,a3:=isAgg3,z3:=sizeOf3,v3:=zeroValue3,t4:=underlying4,a4:=isAgg4,z4:=sizeOf4,v4:=zeroValue4,t5:=underlying5,a5:=isAgg5,z5:=sizeOf5,v5:=zeroValue5,t9:=underlying9,a9:=isAgg9,z9:=sizeOf9,v9:=zeroValue9,t22:=underlying31,a22:=isAgg31,z22:=sizeOf31,v22:=zeroValue31,t25:=underlying212,a25:=isAgg212,z25:=sizeOf212,v25:=zeroValue212,t39:=underlying176,a39:=isAgg176,z39:=sizeOf176,v39:=zeroValue176,t45:=underlying244,a45:=isAgg244,z45:=sizeOf244,v45:=zeroValue244,t46:=underlying245,a46:=isAgg245,z46:=sizeOf245,v46:=zeroValue245,t50:=underlying208,a50:=isAgg208,z50:=sizeOf208,v50:=zeroValue208,t53:=underlying251,a53:=isAgg251,z53:=sizeOf251,v53:=zeroValue251,t55:=underlying253,a55:=isAgg253,z55:=sizeOf253,v55:=zeroValue253,t66:=underlying307,a66:=isAgg307,z66:=sizeOf307,v66:=zeroValue307,t70:=underlying109,a70:=isAgg109,z70:=sizeOf109,v70:=zeroValue109,t76:=underlying369,a76:=isAgg369,z76:=sizeOf369,v76:=zeroValue369,t77:=underlying225,a77:=isAgg225,z77:=sizeOf225,v77:=zeroValue225}
end Go.Proofs
namespace Go.Proofs.YtlgkpdfieaadaaaGreatDoor
open Go.RowKit Go.Sort
variable {a b:Int} {O m c i sz n O':Nat} {B A:Option Cj} {l:List Stk} {w w' W:Aj} {e:Ck} {xs:List Ak} {v v':Ak}
abbrev SkE:={x:Stk×(Option Cj×Nat)//x.1.c.q<=255}
instance:Inhabited SkE:=⟨⟨(⟨cl0,[]⟩,(Ae,0)),He⟩⟩
def skV (x:SkE):List Ak:=Jc x.1
def rN (x y:SkE):Int:=Ka x.1.1.c y.1.1.c
def vV (x y:SkE) (w:Aj):Al Dp 109 #[.agg (skV x).toArray,.agg (skV y).toArray] w (Uw (Aa Ab (rN x y)) w):=by
 obtain⟨⟨⟨⟨x0,x1,x2⟩,xl⟩,xA,xc⟩,hx⟩:=x;obtain⟨⟨⟨⟨y0,y1,y2⟩,yl⟩,yA,yc⟩,hy⟩:=y;unfold skV rN Jc;dsimp only at hx hy⊢;have HC:=Ah (λw'=>Tx ⟨x0,x1,x2⟩ ⟨y0,y1,y2⟩ w' hx hy);obtain⟨n,hn⟩:=ey xl.length;obtain⟨m,hm⟩:=ey yl.length;rw[hn,hm];generalize Ka ⟨x0,x1,x2⟩ ⟨y0,y1,y2⟩=r at HC⊢;dsimp only at HC;have dh:Bd w ((w.alloc (.cells #[x0,x1,Aa Ac x2,Ad xA n xc] 92)).alloc (.cells #[y0,y1,Aa Ac y2,Ad yA m yc] 92)):=((Bd.refl w).alloc _).alloc _;have H:=((Bx.start w).new #[x0,x1,Aa Ac x2,Ad xA n xc] 92 rfl).new #[y0,y1,Aa Ac y2,Ad yA m yc] 92 (N:=w.heap.size+1) Gy;clear hn hm;go_in;go_upto_region 1 with fail;generalize (w.alloc _).alloc _=W at H dh⊢;obtain⟨N,ct⟩:=Tw w.heap.size;rw[<-ct.out]at H⊢;generalize N+1=P at H⊢;obtain⟨⟨a0,a1,a2,-⟩,-⟩:=Jh (H.b 0);obtain⟨⟨b0,b1,b2,-⟩,-⟩:=Jh (H.b 1);have fa:=Ah dh;clear dh H;go_wp2_with fail;refine(HC.out _).mono ?_;rintro e w2 ⟨rfl,hb⟩;go_wp2;go_ret;exact⟨rfl,fa.out.trans hb⟩
def Mx:Ik a b<0↔a<b:=by
 unfold Ik
 split
 ·simp;assumption
 ·split
  ·simp;omega
  ·simp;omega
def Jf:Ik a b=0↔a=b:=by
 unfold Ik
 split
 ·simp;omega
 ·split
  ·simp;omega
  ·simp;omega
def Jl {a b:Cl}:Ka a b<0↔a.y<b.y∨(a.y=b.y/\(a.x<b.x∨(a.x=b.x/\a.q<b.q))):=by
 unfold Ka
 split
 ·rename_i h;rw[Mx];have:=mt Jf.2 h;omega
 ·rename_i h;have h1:=Jf.1 (El.1 h)
  split
  ·rename_i h2;rw[Mx];have:=mt Jf.2 h2;omega
  ·rename_i h2;have h3:=Jf.1 (El.1 h2);rw[Mx];omega
def Bl8 (x y:SkE):ltOf rN x y=decide (Ka x.1.1.c y.1.1.c<0):=rfl
def Cg5:SWO (ltOf rN) where
 irrefl x:=by rw[Bl8,Rt,Jl];omega
 trans x y z h1 h2:=by rw[Bl8,decide_eq_true_iff,Jl]at*;omega
 ntrans x y z h1 h2:=by rw[Bl8,Rt,Jl]at*;omega
def Bk6 (w:Aj):(isAgg 92).run Dp w= .ok true w:=Gx
def Ca6 (w:Aj):(Go.sizeOf 92).run Dp w= .ok 4 w:=Gx
def rV (l:List SkE) (w:Aj) (h:w.ownsRow O 92 4 (Ad B m c) m (l.flatMap skV)) (hm:m<=1000000):
  Al Dp 108 #[Ad B m c,.func (.func 109) #[] #[]] w (Lm skV rN l O 92 4 m (Ad B m c) w):=
 Tq Tryz.laysSortStk 4 He Bk6 Ca6 skV (λ_=>rfl) (λx v hv=>by
  simp[skV,Jc]at hv;rcases hv with rfl|rfl|rfl|rfl<;>rfl) rN Cg5 109 #[] (enters_of Tryz.func109 Gx rfl) l w h hm (λW' _ x y=>vV x y W')
def atF (l:List Stk) (c:Cl):List Nat:=match l.find? λx=>decide (x.c=c)with
 |some x=>x.ls
 |none=>[]
def Ap8 {c:Cl} (hi:i<l.length) (h:l[i].c=c) (hb:∀j (hj:j<l.length),j<i->l[j].c≠c):atF l c=l[i].ls:=by
 unfold atF
 have:l.find? (λx=>decide (x.c=c))=Af l[i]:=by
  rw[List.find?_eq_some_iff_getElem];exact⟨by simp[h],i,hi,rfl,λj hj=>by simp[hb j Gv hj]⟩
 rw[this]
def Ap9 {c:Cl} (hb:∀j (hj:j<l.length),l[j].c≠c):atF l c=[]:=by
 unfold atF
 have:l.find? (λx=>decide (x.c=c))=Ae:=by
  rw[List.find?_eq_none];intro x hx;obtain⟨j,hj,rfl⟩:=Be.1 hx;simp[hb j hj]
 rw[this]
def Bt7 (m:List Nat) (w:Aj) (en:Ending) (w':Aj):Prop:=
 ∃A,en= .returned (Ad A m.length m.length)/\AOk A m.length m.length/\Jk w' w.heap.size 3 1 A m.length (Ih m)/\Below w.heap.size w w'
def rW (A:Option Cj) (l:List Stk) (n cc:Nat) (c:Cl) (w:Aj) (hn:n=l.length) (h:Ib w A l) (hl:n<=100000) (jd:∀x∈l,x.ls.length<=100000):
  Al Dp 207 #[Ad A n cc,.agg #[Aa Ab c.x,Aa Ab c.y,Aa Ac c.q]] w (Bt7 (atF l c) w):=by
 obtain⟨x,y,q⟩:=c;have HS:=Ah h;have HN:=Ah hn;have xb:=Ah jd;have H:=(Bx.start w).new #[x,y,Aa Ac q] 90 rfl;clear hn h jd;go_in;go_upto_region 1 with fail;generalize w.alloc _=W at H⊢;obtain⟨N,ct⟩:=Tw w.heap.size;rw[<-ct.out]at H⊢;go_wp2
 go_loopw [9] (λi wr=>∃k:Nat,k<=n/\i= Aa Ab k/\Bx w [(N,#[x,y,Aa Ac q],90)] wr/\Hid (∀j (hj:j<l.length),j<k->l[j].c≠⟨x,y,q⟩)) (λi _=>n-(intOf i).toNat)
 case atStart=>exact⟨0,Gv,rfl,H,Ah λj _ hj=>absurd hj Gv⟩
 obtain⟨k,hk,rfl,Hr,HK⟩:=hrel;obtain⟨⟨a0,a1,a2⟩,_⟩:=Hg (Hr.b 0);have hlt0:=Hr.lt 0 rfl;by_cases ac:k<n
 ·have be:k<l.length:=oHx HN.out;obtain⟨bb,o,A',c',rfl,cj,⟨d0,d1,d2,d3⟩,du,hle,jb,ba⟩:=(HS.out.below Hr.below).get k be;have q1:(k:Int)<(n:Int):=Gv;have dq:=xb.out l[k] (Ay _);by_cases he:l[k].c=⟨x,y,q⟩
  ·have HF:=Ah (Ap8 be he λj hj h=>HK.out j hj h);generalize l[k].ls=ids at d3 du hle ba HF dq;rw[he]at d0 d1 d2;dsimp only at d0 d1 d2;have IT:=Ah λ(w':Aj) (hb:Below wr.heap.size wr w')=>Va A' ids.length c' (Ih ids) w' du (ba.below hb) (Yv ids) Gv;clear he ba du;go_wp2_with fail;refine(IT.out _ ((Ag _ _).alloc (Am _) _)).mono ?_;rintro e w3 ⟨v,rfl,aa,bh⟩;obtain⟨A2,c2,rfl,sq,JZ,NM⟩:=Mi aa;have H3:=(Hr.other _).call bh;go_wp2_with fail;refine(Yn A2 _ c2 _ JZ NM).mono ?_;rintro e w4 ⟨rfl,da⟩;have H4:=H3.call da;have ae:=(Jk.of_own aa).below da;go_wp2;go_ret;exact⟨A2,by rw[HF.out];rfl,by rw[HF.out];exact sq.clip,by rw[HF.out];exact ae.base (by have:=Hr.below.size;simp;omega),H4.below⟩
  ·have js:=Ah (λj (hj:j<l.length) (h:j<k+1)=>show l[j].c≠⟨x,y,q⟩by
    by_cases lu:j=k
    ·subst lu;exact he
    ·exact HK.out j hj Gv)
   obtain⟨⟨⟨x',y',q'⟩,ids⟩,hr⟩:∃z,l[k]=z:=⟨_,rfl⟩;rw[hr]at d0 d1 d2 d3 he;dsimp only at d0 d1 d2 d3 he;have hne:¬(x'=x/\y'=y/\q'=q):=λh=>he (by rw[h.1,h.2.1,h.2.2]);have hy:=λo=>Hr.other o;clear he hr ba du;go_wp2_with fail
   all_goals first
    |exact⟨⟨k+1,Gv,by go_num,hy _,js⟩,by simp[intOf];omega⟩
    |exact absurd ⟨rfl,rfl,rfl⟩ hne
    |(exfalso;omega)
 ·have q1:¬(k:Int)<(n:Int):=Gv;have HF:=Ah (Ap9 (l:=l) (c:=⟨x,y,q⟩) λj hj=>HK.out j hj (oHx HN.out));go_wp2;go_ret;exact⟨Ae,by rw[HF.out];rfl,by rw[HF.out];exact .inl ⟨rfl,rfl,rfl⟩,by rw[HF.out];exact⟨rfl,.inl ⟨rfl,rfl⟩⟩,Hr.below⟩
def Xw (o:Option Nat):o.toList.Nodup:=by cases o<;>simp
abbrev SkR:=Stk×(Option Cj×Nat)
def Kk (x:SkR):List Nat:=(x.2.1.map (·.block)).toList
def Nj (O:Nat) (w:Aj) (x:SkR):Prop:=AOk x.2.1 x.1.ls.length x.2.2/\x.1.ls.length<=x.2.2/\x.2.2<=maxLen/\Jk w O 3 1 x.2.1 x.1.ls.length (Ih x.1.ls)
def Jk.same {base:Nat} (h:Jk w base e sz A n xs) (hb:∀g,A.map (·.block)=Af g->w'.heap[g]? =w.heap[g]?):Jk w' base e sz A n xs:=by
 refine⟨h.1,h.2.imp id ?_⟩;rintro⟨g,cur,rfl,r2,r3,r4⟩;exact⟨g,cur,rfl,r2,(hb g rfl).trans r3,r4⟩
def Jk.lt {base:Nat} (h:Jk w base e sz A n xs):∀g,A.map (·.block)=Af g->base<=g/\g<w.heap.size/\∃cur,w.heap[g]? =Af (.cells cur e (0,0)):=by
 intro g hg;rcases h.2 with⟨rfl,_⟩|⟨g',cur,rfl,r2,r3,r4⟩
 ·cases hg
 ·obtain rfl:g'=g:=by simpa using hg
  exact⟨r2,(Au.1 r3).1,cur,r3⟩
def Ia (O:Nat) (w:Aj) (v:Ak) (l:List SkR):Prop:=
 w.ownsRow O 92 4 v l.length (l.flatMap Jc)/\(∀x∈l,Nj O w x)/\(l.flatMap Kk).Nodup
def Nj.same {x:SkR} (h:Nj O w x) (hb:∀g∈Kk x,w'.heap[g]? =w.heap[g]?):Nj O w' x:=
 ⟨h.1,h.2.1,h.2.2.1,h.2.2.2.same λg hg=>hb g (by unfold Kk;rw[hg];simp)⟩
def Nj.lt {x:SkR} (h:Nj O w x):∀g∈Kk x,O<=g/\g<w.heap.size/\∃cur,w.heap[g]? =Af (.cells cur 3 (0,0)):=λg hg=>h.2.2.2.lt g (by unfold Kk at hg;simpa using hg)
def Nj.base {x:SkR} (h:Nj O w x) (hO:O'<=O):Nj O' w x:=⟨h.1,h.2.1,h.2.2.1,h.2.2.2.base hO⟩
def Vj {x:SkR} (h:w.ownsRow O 92 4 v n xs) (hx:Nj O' w x):∀g∈Kk x,v.ownBlock≠Af g:=by
 intro g hg e;obtain⟨_,_,cur,hc⟩:=hx.lt g hg;rcases h.2 with⟨rfl,_⟩|⟨g',cap,C7,rfl,_,wl,_⟩
 ·cases e
 ·obtain rfl:g'=g:=by simpa[Value.ownBlock]using e
  rw[hc]at wl;injection wl with wl;injection wl with _ ht;exact absurd ht He
def Ia.below {l:List SkR} (h:Ia O w v l) (hb:Below w.heap.size w w'):Ia O w' v l:=
 ⟨Hz h.1 (Am _) hb,λx hx=>(h.2.1 x hx).same λg hg=>hb.block g ((h.2.1 x hx).lt g hg).2.1,h.2.2⟩
def Ia.nil (O:Nat) (w:Aj):Ia O w (Ad Ae 0 0) []:=⟨⟨rfl,.inl ⟨rfl,rfl⟩⟩,Gy,Gy⟩
def Ia.stks {l:List SkR} (h:Ia O w (Ad A n c) l):Ib w A (l.map (·.1)):=by
 have hz:(l.map (·.1)).zip (l.map (·.2))=l:=by
  rw[List.zip_map'];simp
 refine⟨l.map (·.2),Gy,?_,λi hi uo=>?_⟩
 ·rw[hz,Bp];obtain⟨A',c',hv,jy,qo⟩:=Hy h.1;obtain⟨rfl,rfl,rfl⟩:A=A'/\n=l.length/\c=c':=by simpa using hv
  exact Rd.of_own h.1
 ·have bv:i<l.length:=by simpa using hi
  have:=h.2.1 l[i] (Ay bv);simp only[Ge];exact⟨this.1,this.2.1,this.2.2.1,this.2.2.2.rd⟩
def Ia.snoc {l:List SkR} {x:SkR} (h:Ia O w v l) (hb:Below w.heap.size w W) (hx:Nj w.heap.size W x) (ho:w'.ownsRow O 92 4 v' (l.length+1) (l.flatMap Jc++Jc x)) (hg:W.grownBy w' v.ownBlock)
  (hO:O<=w.heap.size):Ia O w' v' (l++[x]):=by
 refine⟨by simpa using ho,λy hy=>?_,?_⟩
 ·rcases Bl.1 hy with hy|hy
  ·have hk:=h.2.1 y hy;refine hk.same λg nk=>?_;have ac:=(hk.lt g nk).2.1;exact(hg.block g (Br ac hb.size) (Ne.symm (Vj h.1 hk g nk))).trans (hb.block g ac)
  ·obtain rfl:=Gf.1 hy;refine(hx.same λg nk=>hg.block g (hx.lt g nk).2.1 λe=>?_).base hO;have h1:=(h.1.lt g e.symm).2;have h2:=(hx.lt g nk).1;omega
 ·rw[Bi,Bq];refine⟨h.2.2,by rw[Bf,List.flatMap_nil,Ff];exact Xw _,λa ha b hb' e=>?_⟩;subst e;obtain⟨y,hy,hay⟩:=Ec.1 ha;have h1:=((h.2.1 y hy).lt a hay).2.1;have h2:=(hx.lt a (by simpa using hb')).1;omega
def bK {α:Type} (l:List α) (i:Nat) (h:i<l.length) (x:α):l.set i x=l.take i++x::l.drop (i+1):=by
 rw[List.set_eq_take_append_cons_drop,Hc h]
def Ia.set {l:List SkR} {x:SkR} (h:Ia O w v l) (hi:i<l.length) (hb:Below w.heap.size w W) (hx:Nj w.heap.size W x) (ho:w'.ownsRow O 92 4 v l.length ((l.set i x).flatMap Jc)) (hg:W.grownBy w' v.ownBlock)
  (hO:O<=w.heap.size):Ia O w' v (l.set i x):=by
 have dw:∀y∈l,Nj O w' y:=λy hy=>by
  have hk:=h.2.1 y hy;refine hk.same λg nk=>?_;have ac:=(hk.lt g nk).2.1;exact(hg.block g (Br ac hb.size) (Ne.symm (Vj h.1 hk g nk))).trans (hb.block g ac)
 refine⟨by rw[List.length_set];exact ho,λy hy=>?_,?_⟩
 ·rcases List.mem_or_eq_of_mem_set hy with hy|rfl
  ·exact dw y hy
  ·refine(hx.same λg nk=>hg.block g (hx.lt g nk).2.1 λe=>?_).base hO;have h1:=(h.1.lt g e.symm).2;have h2:=(hx.lt g nk).1;omega
 ·have hn:=h.2.2;have e0:l=l.take i++l[i]::l.drop (i+1):=by rw[<-Gp hi,Fe]
  have hold:∀g∈l.flatMap Kk,g<w.heap.size:=λg hg=>by
   obtain⟨y,hy,nk⟩:=Ec.1 hg;exact((h.2.1 y hy).lt g nk).2.1
  rw[bK l i hi];rw[e0]at hn hold;simp only[Bi,Bf,Bq,Bl]at hn hold⊢;obtain⟨a1,⟨a2,a3,a4⟩,a5⟩:=hn;have KL:=λg hg=>(hx.lt g hg).1;refine⟨a1,⟨Xw _,a3,λa ha b hb' e=>?_⟩,λa ha b hb' e=>?_⟩
  ·subst e;have:=KL a ha;have:=hold a (.inr (.inr hb'));omega
  ·subst e;rcases hb' with hb'|hb'
   ·have:=KL a hb';have:=hold a (.inl ha);omega
   ·exact a5 a ha a (.inr hb') rfl
def Ia.perm {l l':List SkR} (h:Ia O w v l) (hp:l'.Perm l) (ho:w'.ownsRow O 92 4 v l'.length (l'.flatMap Jc)) (hg:w.grownBy w' v.ownBlock):Ia O w' v l':=by
 refine⟨ho,λy hy=>?_,(hp.flatMap_right Kk).nodup_iff.2 h.2.2⟩;have hk:=h.2.1 y (hp.mem_iff.1 hy);exact hk.same λg nk=>hg.block g (hk.lt g nk).2.1 (Ne.symm (Vj h.1 hk g nk))
def Bd3 (L:List SkR) (i:Nat) (hi:i<L.length) (b:SkR):
  ((((L.flatMap Jc).set (i*4) (Aa Ab b.1.c.x)).set (i*4+1) (Aa Ab b.1.c.y)).set (i*4+2) (Aa Ac b.1.c.q)).set (i*4+3) (Ad b.2.1 b.1.ls.length b.2.2)=(L.set i b).flatMap Jc:=by
 obtain⟨a,ha⟩:=ey (L[i]);have e0:=On Jc 4 Lg L i 0 hi Gv (⟨⟨b.1.c.x,a.1.c.y,a.1.c.q⟩,a.1.ls⟩,a.2) (Aa Ab b.1.c.x) (by rw[ha];rfl);have e1:=On Jc 4 Lg (L.set i (⟨⟨b.1.c.x,a.1.c.y,a.1.c.q⟩,a.1.ls⟩,a.2)) i 1 (by simpa using hi) Gv (⟨⟨b.1.c.x,b.1.c.y,a.1.c.q⟩,a.1.ls⟩,a.2) (Aa Ab b.1.c.y) (by rw[Cq];rfl);have e2:=On Jc 4 Lg (L.set i (⟨⟨b.1.c.x,b.1.c.y,a.1.c.q⟩,a.1.ls⟩,a.2)) i 2 (by simpa using hi) Gv (⟨⟨b.1.c.x,b.1.c.y,b.1.c.q⟩,a.1.ls⟩,a.2) (Aa Ac b.1.c.q) (by rw[Cq];rfl);have e3:=On Jc 4 Lg (L.set i (⟨⟨b.1.c.x,b.1.c.y,b.1.c.q⟩,a.1.ls⟩,a.2)) i 3 (by simpa using hi) Gv b (Ad b.2.1 b.1.ls.length b.2.2) (by rw[Cq];rfl);rw[List.set_set]at e1 e2 e3;rw[Df]at e0;rw[<-e0,<-e1,<-e2,<-e3]
end Go.Proofs.YtlgkpdfieaadaaaGreatDoor
namespace Go.Proofs
open Go.Shelf Go.RowKit
def Tryz.laysSortE_ren:Go.Shelf.Ren:=⟨fun|189=>80|125=>85|257=>140|128=>149|129=>150|294=>179|295=>180|296=>181|297=>182|298=>183|299=>184|216=>185|300=>186|301=>187|328=>238|329=>189|330=>190|331=>239|332=>240|215=>86|343=>282|n=>n,fun|28=>38|3=>3|46=>176|0=>0|51=>251|53=>253|4=>4|183=>245|182=>244|131=>208|5=>5|9=>9|218=>307|222=>109|228=>369|229=>225|n=>n,fun|n=>n⟩
open Tryz in
def Tryz.laysSortE:Go.Proofs.Lays.n189 Dp Tryz.laysSortE_ren:={
 mixed:=Gx,f125:=lyf func85,f128:=lyf func149,f129:=lyf func150,f189:=lyf func80,f215:=lyf func86,f216:=lyf func185,f257:=lyf func140,f294:=lyf func179,f295:=lyf func180,f296:=lyf func181,f297:=lyf func182,f298:=lyf func183,f299:=lyf func184,f300:=lyf func186,f301:=lyf func187,f328:=lyf func238,f329:=lyf func189,f330:=lyf func190,f331:=lyf func239,f332:=lyf func240,f343:=lyf func282,t0:=underlying0,a0:=isAgg0,z0:=sizeOf0,v0:=zeroValue0,t3:=underlying3,a3:=isAgg3,z3:=sizeOf3,v3:=zeroValue3,t4:=underlying4,a4:=isAgg4,z4:=sizeOf4,v4:=zeroValue4,t5:=underlying5,a5:=isAgg5,z5:=sizeOf5,v5:=zeroValue5,t9:=underlying9,a9:=isAgg9,z9:=sizeOf9,v9:=zeroValue9,t28:=underlying38,a28:=isAgg38,z28:=sizeOf38,v28:=zeroValue38,t46:=underlying176,a46:=isAgg176,z46:=sizeOf176,v46:=zeroValue176,t51:=underlying251,a51:=isAgg251,z51:=sizeOf251,v51:=zeroValue251,t53:=underlying253,a53:=isAgg253,z53:=sizeOf253,v53:=zeroValue253,t131:=underlying208,a131:=isAgg208,z131:=sizeOf208,v131:=zeroValue208,t182:=underlying244,a182:=isAgg244,z182:=sizeOf244,v182:=zeroValue244,t183:=underlying245,a183:=isAgg245,z183:=sizeOf245,v183:=zeroValue245,t218:=underlying307,a218:=isAgg307,z218:=sizeOf307,v218:=zeroValue307,t222:=underlying109,a222:=isAgg109,z222:=sizeOf109,v222:=zeroValue109,t228:=underlying369,a228:=isAgg369,z228:=sizeOf369,v228:=zeroValue369,t229:=underlying225,a229:=isAgg225,z229:=sizeOf225,v229:=zeroValue225}
end Go.Proofs
namespace Go.Proofs.YtlgkpdfieaadaaaGreatDoor
open Go.RowKit
def Al5 {O m c:Nat} {B:Option Cj} (l:List Nat) (w:Aj) (h:w.ownsRow O 3 1 (Ad B m c) m (Ih l)) (hm:m<=1000000):
  Al Dp 80 #[Ad B m c] w λe w'=>e= .returned (.tuple #[])/\∃r:List Nat,r.Perm l/\w'.ownsRow O 3 1 (Ad B m c) m (Ih r)/\w.grownBy w' (Value.slice B m c).ownBlock:=by
 have hl:l.length=m:=by have:=h.1;simpa[Ih]using this
 rcases h.2 with⟨h0,rfl⟩|⟨g,cap,cur,r1,r2,r3,r4,r5,r6,r7⟩
 ·obtain rfl:l=[]:=List.eq_nil_of_length_eq_zero hl;refine(Any.slices_Sort_int_none Tryz.laysSortE B c w).mono ?_;rintro e w' ⟨rfl,rfl⟩;exact⟨rfl,[],.refl _,h,Jo _ _⟩
 ·obtain⟨rfl,rfl⟩:B=Af ⟨g,0,Ae⟩/\c=cap:=by simpa using r1
  subst hl;obtain⟨xs,wu⟩:∃xs:List Int,l.map Int.ofNat=xs:=⟨_,rfl⟩;have xz:xs.length=l.length:=by rw[<-wu];simp
  have hid:Ih l=xs.map (Value.int .i64):=by rw[<-wu];unfold Ih;rw[Ft];rfl
  have hH:=holds_of_blockI (ss:=xs) r3 (by rw[xz];rw[Dc]at r7;exact r7.trans hid);obtain⟨ts,hts⟩:=ey (xs.mergeSort (λx y=>decide (x<=y)));have htl:ts.length=xs.length:=by rw[<-hts,List.length_mergeSort]
  have htp:ts.Perm xs:=by rw[<-hts];exact List.mergeSort_perm _ _
  have fi:(ts.map Int.toNat).Perm l:=by
   have:=htp.map Int.toNat;rw[<-wu,Ft]at this
   have e:l.map (Int.toNat∘Int.ofNat)=l:=by
    conv=>rhs;rw[<-List.map_id l]
    exact List.map_congr_left λx _=>rfl
   rw[e]at this;exact this
  have hback:Ih (ts.map Int.toNat)=ts.map (Value.int .i64):=by
   unfold Ih;rw[Ft];refine List.map_congr_left λx hx=>?_;have:x∈xs:=htp.mem_iff.1 hx;rw[<-wu]at this;obtain⟨y,-,rfl⟩:=Dr.1 this;rfl
  have hb:=Any.slices_Sort_int Tryz.laysSortE g 0 c xs w hH (Au.1 r3).1 Gv;rw[hts,xz]at hb;refine hb.mono ?_;rintro e w' ⟨rfl,n,os,rfl⟩;refine⟨rfl,ts.map Int.toNat,fi,?_,grownBy_sortedI _⟩;rw[hback];have:=ownsRow_sortedI (n:=n) (os:=os) (ts:=ts) (ss:=xs) htl r2 r3 (by rw[xz];exact r4) r5 r6;rw[xz]at this;exact this
end Go.Proofs.YtlgkpdfieaadaaaGreatDoor
namespace Go.Proofs
open Go.Shelf Go.RowKit
def Tryz.laysRev_ren:Go.Shelf.Ren:=⟨fun|112=>124|n=>n,fun|28=>38|3=>3|4=>4|0=>0|n=>n,fun|n=>n⟩
open Tryz in
def Tryz.laysRev:Go.Proofs.Lays.n112 Dp Tryz.laysRev_ren:={
 mixed:=Gx,f112:=lyf func124,t0:=underlying0,a0:=isAgg0,z0:=sizeOf0,v0:=zeroValue0,t3:=underlying3,a3:=isAgg3,z3:=sizeOf3,v3:=zeroValue3,t4:=underlying4,a4:=isAgg4,z4:=sizeOf4,v4:=zeroValue4,t28:=underlying38,a28:=isAgg38,z28:=sizeOf38,v28:=zeroValue38}
end Go.Proofs
namespace Go.Proofs.YtlgkpdfieaadaaaGreatDoor
open Go.RowKit Go.Sort
def Ba7 {O n c:Nat} {A:Option Cj} (l:List Nat) (w:Aj) (h:Jk w O 3 1 A n (Ih l)) (hm:n<=1000000):
  Al Dp 124 #[Ad A n c] w λe w'=>e= .returned (.tuple #[])/\Jk w' O 3 1 A n (Ih l.reverse)/\w.grownBy w' (A.map (·.block)):=by
 have hl:l.length=n:=by have:=h.1;simpa[Ih]using this
 rcases h.2 with⟨rfl,rfl⟩|⟨g,cur,rfl,r2,r3,r4,r5⟩
 ·obtain rfl:l=[]:=List.eq_nil_of_length_eq_zero hl;refine(Any.slices_Reverse_int_empty Tryz.laysRev Ae c w).mono ?_;rintro e w' ⟨rfl,rfl⟩;exact⟨rfl,h,Jo _ _⟩
 ·subst hl;obtain⟨xs,wu⟩:∃xs:List Int,l.map Int.ofNat=xs:=⟨_,rfl⟩;have xz:xs.length=l.length:=by rw[<-wu];simp
  have hid:Ih l=xs.map (Value.int .i64):=by rw[<-wu];unfold Ih;rw[Ft];rfl
  have VD:Ih l.reverse=xs.reverse.map (Value.int .i64):=by rw[List.map_reverse,<-hid];unfold Ih;rw[List.map_reverse]
  rw[Dc]at r4 r5;have hH:=holds_of_blockI (ss:=xs) r3 (by rw[xz];exact r5.trans hid);have hb:=Any.slices_Reverse_int Tryz.laysRev g 0 c xs w hH Gv;rw[xz]at hb;refine hb.mono ?_;rintro e w' ⟨rfl,k,rfl⟩;have hg:=grownBy_sortedI (w:=w) (g:=g) (n:=k) (os:=#[]) xs.reverse.toArray;have hh:=heap_sortedI (w:=w) (g:=g) (n:=k) (os:=#[]) xs.reverse.toArray r3;rw[Go.Sort.grow_empty]at hg hh;refine⟨rfl,⟨by simp[Ih],.inr ⟨g,_,rfl,r2,hh,?_,?_⟩⟩,hg⟩
  ·rw[Dc];have:(putCells (Value.int .i64) 0 xs.reverse.toArray cur).size=cur.size:=by simp[putCells]
   omega
  ·have ht:=take_putCellsI cur xs.reverse Hv;rw[VD,Dc,<-xz,show xs.length=xs.reverse.length by simp];exact ht
end Go.Proofs.YtlgkpdfieaadaaaGreatDoor
namespace Go.Proofs.YtlgkpdfieaadaaaGreatDoor
open Go.RowKit Go.Shelf
variable {n₀ Bn g:Nat} {A B C w W W':Aj} {cs:Array Ak} {t e:Ck}
attribute [local go_sem] Oper.semAt_some
def isU (a b:Int) (i e:Nat):Bool:=decide ((nbI a b i e).2=0)&&decide ((i:Int)<(nbI a b i e).1)
def Ul (a b:Int) (j:Nat):List (Nat×Nat):=if isU a b (j/3) (j%3)then[(j/3,j%3)]else[]
def Jz (a b:Int):Nat->List (Nat×Nat)
 |0=>[]
 |j+1=>Jz a b j++Ul a b j
def Ko (a b:Int):List (Nat×Nat):=Jz a b (3*Hh a b)
def sD (u:Nat×Nat):List Ak:=[Aa Ab u.1,Aa Ac u.2]
def Lw (l:List (Nat×Nat)):List Ak:=l.flatMap sD
def xR (a b:Int) (i e:Nat) (he:e<3):Jz a b (3*i+(e+1))=Jz a b (3*i+e)++if isU a b i e then[(i,e)]else[]:=by
 show Jz a b (3*i+e)++Ul a b (3*i+e)=_;unfold Ul;rw[show(3*i+e)/3=i by omega,show(3*i+e)%3=e by omega]
def Sb (a b:Int):∀j,(Jz a b j).length<=j
 |0=>Am _
 |j+1=>by
  have:=Sb a b j;unfold Jz Ul
  split<;>simp<;>omega
def Zy (a b:Int) (j:Nat):∀d,(Jz a b j).length<=(Jz a b (j+d)).length
 |0=>Am _
 |d+1=>by
  refine Bt (Zy a b j d) ?_;show _<=(Jz a b (j+d)++Ul a b (j+d)).length;simp
def Mo (n₀ Bn:Nat) (A B:Aj):Prop:=Below n₀ A B/\B.heap[Bn]? =A.heap[Bn]?
def Vc (h:Mo n₀ Bn A B) (k:Mo n₀ Bn B C):Mo n₀ Bn A C:=⟨h.1.trans k.1,k.2.trans h.2⟩
def fH (hn:n₀<=w.heap.size) (hB:Bn<w.heap.size) (W:Aj) (l:Nat) (o o':Obj) (hl:w.heap.size<=l) (h:W.heap[l]? =Af o) (hc:o.isCells=false) (hw:o.isWalk=false):Mo n₀ Bn W (W.putObj l o'):=
 ⟨belowK_b hn W l o o' hl h hc hw,World.putObj_heap_other Gv⟩
def Vy {row:Option Nat} (h:W.heap[g]? =Af (Co cs t (0,0))) (hg:W.grownBy W' row) (hr:∀r,row=Af r->∃o:Obj,W.heap[r]? =Af o/\o.isCells=false):W'.heap[g]? =Af (Co cs t (0,0)):=by
 refine(hg.block g (Au.1 h).1 λe=>?_).trans h;obtain⟨o,ho,hc⟩:=hr g e.symm;rw[h]at ho;cases ho;cases hc
def eC (W:Aj) (cs:Array Ak) (t:Ck) (j:Nat) (u:Ak) (h:cs.toList[j]? =Af u):(W.alloc (.cells cs t)).cell? ((⟨W.heap.size,0,Ae⟩:Cj).add j)=Af u:=by
 have e:(⟨W.heap.size,0,Ae⟩:Cj).add j=⟨W.heap.size,j,Ae⟩:=by unfold Addr.add;split<;>simp_all
 rw[e,Bz _ _ j _ _ (0,0) (Ca W _)];simpa using h
def Wy (h:W.heap[g]? =Af (Co cs t (0,0))) (KJ:t≠e) {base size k:Nat} {v:Ak} {xs:List Ak} (hr:W.ownsRow base e size v k xs):Af g≠v.ownBlock:=by
 rcases hr.2 with⟨rfl,_⟩|⟨g',cap,cur,rfl,_,zp,_⟩
 ·simp[Value.ownBlock]
 ·intro e';obtain rfl:g=g':=by simpa[Value.ownBlock]using e'
  have:=h.symm.trans zp;simp at this;exact KJ this.2
def Bg1 (l Bn n₀:Nat) (a b:Int) (hs:okS a b=true) (J Jx:List (Nat×Nat)->Aj->Prop) (n:Nat) (hn:3<=n)
  (hY:∀pre x W,J pre W->pre.length<(Ko a b).length->YieldAt Fence.wide (n-1) Dp l #[.agg #[Aa Ab (x.1:Nat),Aa Ac (x.2:Nat)]] W λe W'=>
   (e= .returned (.bool true)/\J (pre++[x]) W'/\Mo n₀ Bn W W')∨(e= .returned (.bool false)/\Jx (pre++[x]) W'))
  (W:Aj) (hQ:∀W',Below n₀ W W'->Qt W') (jv:W.heap[Bn]? =Af (Co #[a,b] 25 (0,0))) (yg:n₀<=W.heap.size) (hJ:∀s A B,J s A->Below A.heap.size A B->J s B) (h0:J [] W):
  CallsIn Fence.wide n Dp 225 #[.func (.yield l) #[] #[],.pointer (Af ⟨Bn,0,Ae⟩)] W λe W'=>(∃v,e= .returned v)/\
   ((∃ys,ys=Ko a b/\J ys W')∨(∃pre,True/\Jx pre W')):=by
 refine callsIn_of_wp Tryz.func225 rfl trivial ?_ rfl;simp only[Tryz.ntmps225,Fq,Eo,Cs,Nat.reduceAdd,Nat.reduceSub,Db,Da,List.push_toArray,De,Eu,Er];obtain⟨k1,k2,k3⟩:=Lh hs;have gw:=λw=>Vz a b w hs;obtain⟨k,hk⟩:=ey (Hh a b);rw[hk]at k1 k2 k3 gw;have eh:=λ(id e:Nat) w h=>Jj a b (id:Nat) (e:Nat) w hs (Int.natCast_nonneg e) h;have hU:Ko a b=Jz a b (3*k):=by unfold Ko;rw[hk]
 clear k1 hk;rw[hU]at hY⊢;obtain⟨⟨b0,b1⟩,_⟩:=Hm jv;have ac:Bn<W.heap.size:=(Au.1 jv).1
 gi_wp2
 refine⟨trivial,λ_=>Gv,(callsIn_wide.2 (gw W)).mono ?_⟩;rintro e w1 ⟨rfl,ci⟩
 gi_wp2
 gi_loopw [9] (λi wr=>∃id:Nat,id<=k/\i= Aa Ab id/\J (Jz a b (3*id)) wr/\Mo n₀ Bn W wr/\W.heap.size<=wr.heap.size) (λi _=>k-(intOf i).toNat)
 case atStart=>exact⟨0,Gm _,rfl,hJ _ _ _ h0 ci,⟨ci.mono yg,ci.block Bn ac⟩,ci.size⟩
 obtain⟨id,hid,rfl,LI,hB,gg⟩:=hrel;by_cases fw:id<k
 ·have q1:(id:Int)<(k:Int):=Gv
  gi_wp2
  gi_loopw [12] (λi wr=>∃e:Nat,e<=3/\i= Aa Ac e/\J (Jz a b (3*id+e)) wr/\Mo n₀ Bn W wr/\W.heap.size<=wr.heap.size) (λi _=>3-(intOf i).toNat)
  case atStart=>exact⟨0,Gv,rfl,LI,hB,gg⟩
  obtain⟨e,he,rfl,hJ1,jf,U0⟩:=hrel;by_cases h3:e<3
  ·have q2:(e:Int)<3:=Gv;obtain⟨⟨c0,c1⟩,_⟩:=Hm (jf.2.trans jv);have hu:=xR a b id e h3;have FF:isU a b id e=(decide ((nbI a b id e).2=0)&&decide ((id:Int)<(nbI a b id e).1)):=rfl;have P5:=eh id e;obtain⟨⟨nn,er⟩,YH⟩:=ey (nbI a b id e);rw[YH]at P5 FF
   gi_wp2
   refine⟨trivial,λ_=>Gv,(callsIn_wide.2 (P5 _ (hQ _ jf.1))).mono ?_⟩;rintro en w2 ⟨rfl,aj⟩;have JJ:=hJ _ _ _ hJ1 aj;have dm:Mo n₀ Bn W w2:=⟨jf.1.trans (aj.mono Gv),(aj.block Bn Gv).trans jf.2⟩;have VF:=Bt U0 aj.size;unfold fD;dsimp only;clear P5 c0 c1 b0 b1 eh hQ hJ gw;by_cases her:er=0
   ·subst her;by_cases lq:(id:Int)<nn
    ·have hI:isU a b id e=true:=by rw[FF];simp[lq]
     rw[hI,Hc rfl]at hu
     have hlen:(Jz a b (3*id+e)).length<(Jz a b (3*k)).length:=by
      have h1:=Zy a b (3*id+(e+1)) (3*k-(3*id+(e+1)));rw[show 3*id+(e+1)+(3*k-(3*id+(e+1)))=3*k by omega,hu]at h1;simp at h1;omega
     obtain⟨fn,tmps,assign,body,hy,hR⟩:=hY _ (id,e) w2 JJ hlen;dsimp only at hy hR;clear hY FF hI hlen
     gi_wp2
     refine⟨λ_=>Gv,hR.mono ?_⟩;rintro e3 W3 (⟨rfl,GQ,IB⟩|⟨rfl,xg⟩)
     ·rw[<-hu]at GQ;have MS:Mo n₀ Bn W W3:=⟨dm.1.trans IB.1,IB.2.trans dm.2⟩;have U1:=Bt VF IB.1.size;clear hy hR JJ hJ1 LI IB
      gi_wp2
      exact⟨⟨e+1,Gv,by go_num,GQ,MS,U1⟩,by simp[intOf];omega⟩
     ·clear hy hR JJ hJ1 LI
      gi_wp2
      refine Ai (results_none rfl _ _ _) rfl ?_;exact⟨⟨_,rfl⟩,.inr ⟨_,trivial,xg⟩⟩
    ·have hI:isU a b id e=false:=by rw[FF];simp[lq]
     rw[hI,Ha Gy,Ff]at hu;rw[<-hu]at JJ;clear hY FF hI
     gi_wp2
     refine⟨λ_ h=>(by cases h),?_⟩
     gi_wp2
     exact⟨⟨e+1,Gv,by go_num,JJ,dm,VF⟩,by simp[intOf];omega⟩
   ·have hI:isU a b id e=false:=by rw[FF];simp[her]
    rw[hI,Ha Gy,Ff]at hu;rw[<-hu]at JJ;clear hY FF hI
    gi_wp2
    refine⟨λ_ h=>(by cases h),?_⟩
    gi_wp2
    exact⟨⟨e+1,Gv,by go_num,JJ,dm,VF⟩,by simp[intOf];omega⟩
  ·obtain rfl:e=3:=Gv
   gi_wp2
   exact⟨⟨id+1,Gv,by go_num,by rw[show 3*(id+1)=3*id+3 by omega];exact hJ1,jf,U0⟩,by simp[intOf];omega⟩
 ·obtain rfl:id=k:=Gv;have q1:¬(id:Int)<(id:Int):=Gv
  gi_wp2
  go_end0
  exact⟨⟨_,rfl⟩,.inl LI⟩
def Bu9 (a b:Int) (n:Nat) (w:Aj):
  CallsIn Fence.wide n Dp 169 #[.agg #[a,b]] w λe w'=>e= .returned (.func (.func 225) #[] #[.pointer (Af ⟨w.heap.size,0,Ae⟩)])/\w'=w.alloc (.cells #[a,b] 25):=by
 refine callsIn_of_wp Tryz.func169 rfl trivial ?_ rfl;simp only[Tryz.ntmps169,Fq,Eo,Cs,Nat.reduceAdd,Nat.reduceSub,Db,Da,List.push_toArray,De,Eu,Er]
 gi_wp2
 go_ret;exact⟨rfl,rfl⟩
def Ac1 (a b:Int) (hs:okS a b=true) (n:Nat) (hn:3<=n) (Bn n₀:Nat) (w:Aj) (yg:n₀<=w.heap.size) (hQ:∀W',Below n₀ w W'->Qt W') (jv:w.heap[Bn]? =Af (Co #[a,b] 25 (0,0))):
  SeqStopsK Fence.wide n Dp 225 #[.pointer (Af ⟨Bn,0,Ae⟩)] (λx:Nat×Nat=>#[Value.agg #[Aa Ab (x.1:Nat),Aa Ac (x.2:Nat)]]) (Mo n₀ Bn) (λys=>ys=Ko a b) (λ_=>True) (Ko a b).length w:=λl J Jx W hW hJ _ hY h0=>
 Bg1 l Bn n₀ a b hs J Jx n hn hY W (λW' h=>hQ W' ((hW.mono yg).trans h)) (kept hW jv (Au.1 jv).1) (Bt yg hW.size) (λs A B hs hb=>hJ s A B Ae hs ⟨hb.os,hb.tape,hb.output,hb.size,λk hk _=>hb.block k hk⟩ Gy) h0
def fC:(Tryz.prog.info? 194).map (λi=>(i.zero,i.size,i.bytes))=Af (Af (.agg #[Aa Ab 0,Aa Ac 0]),2,16):=Gx
def Ar7 (A:Option Cj) (n c:Nat) (w:Aj) (h:n<=c) (EJ:c<=maxLen):
  Al Dp 170 #[Ad A n c] w (Gz (Ad A n n) w):=by
 unfold maxLen at EJ;go_in
 go_wp2
 go_ret;exact⟨rfl,Ag _ _⟩
def Ap5 (l:List (Nat×Nat)) (w:Aj) (en:Ending) (w':Aj):Prop:=
 ∃A,en= .returned (.tuple #[Ad A l.length l.length,Aa Ab 0])/\Jk w' w.heap.size 194 2 A l.length (Lw l)/\Below w.heap.size w w'
def xS (l:List (Nat×Nat)):(Lw l).length=l.length*2:=by
 induction l with
 |nil=>rfl
 |cons u l ih=>simp only[Lw,Bf,Bh,Eo]at ih⊢;rw[ih];simp[sD];omega
def cW (l:List (Nat×Nat)) (x:Nat×Nat):Lw (l++[x])=Lw l++[Aa Ab x.1,Aa Ac x.2]:=by simp[Lw,sD]
def Bf1 (a b:Int) (w:Aj) (hs:okS a b=true) (hQ:Qt w):Al Dp 115 #[.agg #[a,b]] w (Ap5 (Ko a b) w):=by
 refine(callsIn_wide (n:=9)).1 ?_;obtain⟨k1,k2,k3⟩:=Lh hs;have ni:=Js a b (w.alloc (.cells #[a,b] 25));have NP:ec (okS a b) 1=0:=by rw[hs];rfl
 rw[NP]at ni
 have hlen:(Ko a b).length<=3072:=by
  have:=Sb a b (3*Hh a b);unfold Ko;omega
 obtain⟨i0,hi,dp,ap,bw⟩:=info_parts fC;clear k1 k2 k3 NP;refine callsIn_of_wp_marks Tryz.func115 rfl trivial ?_ rfl;simp only[Tryz.ntmps115,Fq,Eo,Cs,Nat.reduceAdd,Nat.reduceSub,Db,Da,List.push_toArray,De,Eu,Er]
 gi_wp2
 refine⟨trivial,(callsIn_wide.2 ni).mono ?_⟩;rintro e w1 ⟨rfl,ci⟩;have JL:=kept ci (Ca w (.cells #[a,b] 25)) Gy;have jf:Below w.heap.size w w1:=((Ag w.heap.size w).alloc (Am _) (.cells #[a,b] 25)).trans (ci.mono Gy);have JW:w.heap.size<w1.heap.size:=by have:=ci.size;simp at this;omega
 obtain⟨N,hN⟩:=ey w.heap.size;obtain⟨N5,LJ⟩:=ey w1.heap.size;rw[hN]at JL jf JW⊢;rw[LJ]at JW;obtain⟨⟨a0,a1⟩,_⟩:=Hm JL;have hO:=Boxed.new w1 152 (Ad Ae 0 0);have hA:=JL;rw[LJ]at hO;have HW:=Ah hN;clear ni ci hN
 gi_wp2
 refine⟨trivial,(Bu9 a b 8 _).mono ?_⟩;rintro e w' ⟨rfl,rfl⟩
 gi_wp2
 have dm:Below N w ((w1.alloc (.cells #[Ad Ae 0 0] 152)).alloc (.cells #[a,b] 25)):=(jf.alloc Gv _).alloc Hv _;have QH:=hO.alloc (.cells #[a,b] 25);have hz:((w1.alloc (.cells #[Ad Ae 0 0] 152)).alloc (.cells #[a,b] 25)).heap.size=N5+2:=by simp[LJ]
 have hS:=Ca (w1.alloc (.cells #[Ad Ae 0 0] 152)) (.cells #[a,b] 25);simp only[World.size_alloc,LJ]at hS;generalize (w1.alloc (.cells #[Ad Ae 0 0] 152)).alloc (.cells #[a,b] 25)=W0 at dm QH hz hS⊢;obtain⟨Bn,jv⟩:=ey (N5+1);rw[jv]at hS;clear hO hA JL a0 a1 jf;rw[jv];clear hi;obtain⟨i0,hi,dp,ap,bw⟩:=info_parts fC;have rn:∀W',Below N W0 W'->Qt W':=λW' h=>hQ.below (by rw[HW.out];exact dm.trans h);have NH:Bn<W0.heap.size:=Gv
 refine wpIn_rangeFunc_ownH rfl He (gf:=225) (lb:=#[.pointer (Af ⟨Bn,0,Ae⟩)]) rfl trivial (enters_of Tryz.func225 Gx rfl)
  (Ac1 a b hs 8 He Bn N W0 Gv rn hS) Vc (fH Gv NH) (Ag _ _) (λ_=>rfl)
  (λpre W=>(∃v,Boxed W N5 152 v/\W.ownsRow N 194 2 v pre.length (Lw pre)/\True)/\(W.heap[Bn]? =Af (Co #[a,b] 25 (0,0))/\Below N w W))
  (λ_ _ _=>False)
  (OwnFrom.and (Own.from (holdsRow_own N N5 152 194 2 (λpre=>pre.length) (λpre=>Lw pre) (λ_ _=>True)) _) (OwnFrom.and (λ_ _ _ _ hs hg hr=>Vy hs hg (λr e=>(hr r e).2)) (ownFrom_below (by rw[HW.out];exact Am _) Gv)))
  (λ_ _ _ _ _ hs _ _=>hs)
  ⟨⟨_,QH,World.ownsRow_nil _ _ _ _,trivial⟩,hS,dm⟩
  (λx a' W=>∃Bx,W.heap[Bx]? =Af (Co #[Aa Ab (x.1:Nat),Aa Ac (x.2:Nat)] 194 (0,0))/\a'={tmps:=#[.agg #[a,b],.pointer (Af ⟨N,0,Ae⟩),Ad Ae 0 0,Aa Ab 0,Aa Ab 0,.pointer (Af ⟨N5,0,Ae⟩),.pointer (Af ⟨Bx,0,Ae⟩),.agg #[a,b],Aa Ab 0,Aa Ab 0,.bool false,undef,.agg #[a,b],.func (.func 225) #[] #[.pointer (Af ⟨Bn,0,Ae⟩)],.agg #[Aa Ab (x.1:Nat),Aa Ac (x.2:Nat)],undef,undef,undef,undef,undef,undef],defers:=[]})
  (λx a' _ X Y row hs hg hr=>by obtain⟨Bx,h1,h2⟩:=hs;exact⟨Bx,Vy h1 hg (λr e=>(hr r e).2),h2⟩)
  ?assign ?body ?done ?stop
 case assign=>
  rintro l pre x W K ⟨⟨v,hv,ae,_⟩,xk,hB⟩ hK;have IC:=hB.size;rw[HW.out]at IC
  gi_wp2
  have da:=(Ag N W).alloc IC (.cells #[Aa Ab (x.1:Nat),Aa Ac (x.2:Nat)] 194);exact hK _ _ ((KeepsOthers.alloc _ _).from _) ⟨da,Eh W _ Bn (Au.1 xk).1⟩ ⟨⟨v,hv.alloc _,ae.alloc _,trivial⟩,(Eh W _ Bn (Au.1 xk).1).trans xk,hB.trans da⟩ ⟨W.heap.size,Ca W _,rfl⟩
 case body=>
  rintro l pre x a' W hl ⟨r,hr⟩ ⟨⟨v,hv,ae,_⟩,xk,hB⟩ ⟨Bx,hx,rfl⟩ ac;have hc:=hv.cell;obtain⟨⟨x0,x1⟩,_⟩:=Hm hx;have IC:=hB.size;rw[HW.out]at IC;have ob:=eC W #[Value.int .i64 (x.1:Nat),Value.int .u8 (x.2:Nat)] 194;have HB:=Ah hB;have jc:pre.length+1<=maxLen:=by unfold maxLen;omega
  clear hB rn dm QH hS
  gi_wp2_with (gi_at_builtin;refine wpListIn_append_own _ rfl _ _ 152 rfl N 194 i0 _ 2 16 Tryz.underlying152 hi dp ap bw rfl He _ _ _ rfl (ae.alloc _) ⟨W.heap.size,0,Ae⟩ 1 1 [Aa Ab (x.1:Nat),Aa Ac (x.2:Nat)] rfl rfl ob (by simp[Value.oneCell']) jc Gv Hv ?_;intro v' w1 ak tn _;obtain⟨g',MQ,rfl⟩:=ownsRow_succ ak;obtain⟨lw,vt,gp,uq,aj⟩:=hv.appended He ae IC Gv ak tn;have jy:=lw.cell;have BQ:=lw.frozen)
  have tj:=(Dq w1 ⟨N5,0,Ae⟩ (Ad (Af ⟨g',0,Ae⟩) (pre.length+1) MQ) Bn (by show Bn≠N5;omega)).trans ((tn.block Bn (by have:=(Au.1 xk).1;simp;omega) (Wy xk He ae)).trans (Eh W _ Bn (Au.1 xk).1))
  have IN:(w1.setCell ⟨N5,0,Ae⟩ (Ad (Af ⟨g',0,Ae⟩) (pre.length+1) MQ)).ownsRow N 194 2 (Ad (Af ⟨g',0,Ae⟩) (pre.length+1) MQ) (pre++[x]).length (Lw (pre++[x])):=by
   rw[cW,Bh];exact gp
  exact⟨uq.from _,⟨aj,tj⟩,⟨_,vt,IN⟩,tj.trans xk,HB.out.trans aj⟩
 case done=>
  rintro D ys W hD rfl ⟨⟨v,hv,ae,_⟩,xk,hB⟩ hK;have hc:=hv.cell;obtain⟨A,c,rfl,hA,JZ,jb⟩:=Mi ae
  gi_wp2
  refine⟨trivial,(callsIn_wide.2 (Ar7 A _ c W JZ jb)).mono ?_⟩;rintro e w9 ⟨rfl,bg⟩;have XI:=(bg.block D (Au.1 hK).1).trans hK;have bn:=(Jk.of_own ae).below bg;have xf:=hB.trans (bg.mono (Bt (by rw[HW.out];exact Am _) hB.size));clear ae hc hv hB bg hK
  gi_wp2
  refine⟨Gy,.inl ⟨_,_,rfl,run_takeDeferred XI,?_⟩⟩;have hDN:N<=D:=Gv
  have om:Jk (w9.putObj D (.deferred Ae)) N 194 2 A (Ko a b).length (Lw (Ko a b)):=by
   refine⟨bn.1,?_⟩;rcases bn.2 with h0|⟨g,cur,r1,r2,r3,r4⟩
   ·exact .inl h0
   ·exact .inr ⟨g,cur,r1,r2,(World.putObj_heap_other (λe=>by subst e;rw[XI]at r3;cases r3)).trans r3,r4⟩
  exact⟨_,by simp[results,Tryz.results115,go_sem],A,rfl,by rw[HW.out];exact om,by rw[HW.out];exact xf.trans (belowK_b (w:=W0) Gv w9 D _ _ Gv XI rfl rfl)⟩
 case stop=>
  rintro D c pre W _ _ h _;exact h.elim
end Go.Proofs.YtlgkpdfieaadaaaGreatDoor
namespace Go.Proofs.YtlgkpdfieaadaaaGreatDoor
variable {O i:Nat} {w w' wr W:Aj} {l1 l2 L:List SkR} {x y:SkR}
structure Sm where
 a:Cl
 b:Cl
 ps:List (Nat×Nat)
 ls:List (Nat×Nat×Nat)
 es:List Nat
deriving DecidableEq
def Sm.none (a b:Cl):Sm:=⟨a,b,[],[],[]⟩
def Qr (a b:Cl) (f:Sm->Sm):List Sm->List Sm
 |[]=>[f (Sm.none a b)]
 |s::r=>if s.a=a/\s.b=b then f s::r else s::Qr a b f r
def Sf (c:Cl) (e:Nat):Cl×Int:=(⟨(nbr c.x c.y c.q e).1,(nbr c.x c.y c.q e).2.1,(nbr c.x c.y c.q e).2.2.1.toNat⟩,(nbr c.x c.y c.q e).2.2.2)
def Qb (l:List Stk):List (Nat×Nat):=l.flatMap λx=>x.ls.zipIdx
def Yt (n:Nat) (p:List (Nat×Nat)):List Nat:=p.foldl (λh q=>h.set q.1 q.2) (Ba n 0)
structure Lk where
 a:Int
 b:Int
 cr:List Cr
 ms:List Mv
 is:List Cl
 hs:List Nat
def Lk.other (k:Lk) (id e:Nat):Cl:=(Pr (k.ms.getD id mv0) (Sf (Hf k.a id) e).1).1
def Lk.img (k:Lk) (id:Nat):Cl:=k.is.getD id cl0
def Lk.add (k:Lk) (id e:Nat) (s:Sm):Sm:=
 if(nbI k.a k.b id e).2≠0 then{s with es:=s.es++[id]}
 else if(nbI k.a k.b id e).1<id then s
 else
  let n:=(nbI k.a k.b id e).1.toNat
  let side:=if k.img id=s.b then 1 else 0
  if Ho k.cr id e=0 then{s with ps:=s.ps++[if side=0 then (id,n)else (n,id)]}
  else{s with ls:=s.ls++[if k.hs.getD id 0<k.hs.getD n 0 then (side,id,n)else (side,n,id)]}
def Lk.key (k:Lk) (id e:Nat):Cl×Cl:=if 0<Ka (k.img id) (k.other id e)then (k.other id e,k.img id)else (k.img id,k.other id e)
def Lk.meet (k:Lk) (id e:Nat) (l:List Sm):List Sm:=Qr (k.key id e).1 (k.key id e).2 (k.add id e) l
def Lk.seamsTo (k:Lk):Nat->List Sm
 |0=>[]
 |j+1=>k.meet (j/3) (j%3) (k.seamsTo j)
def Lk.seams (k:Lk):List Sm:=k.seamsTo (3*Hh k.a k.b)
def Ov (a b:Int) (cr:List Cr) (root:Mv) (l:List Stk):Int:=
 if(Ie a b cr root).2≠0 then (Ie a b cr root).2
 else if chkS (Hh a b) l≠0 then chkS (Hh a b) l
 else if l.any λx=>x.ls.any λid=>decide ((Ie a b cr root).1.2.getD id cl0≠x.c)then 6
 else if l.any λx=>[0,1,2].any λe=>decide ((Sf x.c e).2≠0)then 3
 else 0
def fI (a b:Int) (cr:List Cr) (root:Mv) (l:List Stk):Lk:=
 ⟨a,b,cr,(Ie a b cr root).1.1,(Ie a b cr root).1.2,Yt (Hh a b) (Qb l)⟩
def mJ (side:Nat) (p:Nat×Nat):Nat:=if side=0 then p.1 else p.2
def Im (ls:List Nat) (s:Sm) (side:Nat):List Int:=s.ps.map λp=>Kh ls (mJ side p)
def jG (ls:List Nat) (s:Sm) (side:Nat):List (Int×Int):=(s.ls.filter λx=>decide (x.1=side)).map λx=>(Kh ls x.2.1,Kh ls x.2.2)
def mm (p:Int×Int):Int×Int:=(min p.1 p.2,max p.1 p.2)
def Te (ls:List Nat) (s:Sm) (side:Nat):List (Int×Int):=(jG ls s side).map mm
def Oo (ls:List Nat) (s:Sm) (side:Nat):Bool:=(Im ls s side).all (λh=>decide (0<=h))&&(jG ls s side).all (λx=>decide (0<=x.1)&&decide (0<=x.2))
def Ox (x y:Int×Int):Bool:=(decide (x.1<y.1)&&decide (y.1<x.2)&&decide (x.2<y.2))||(decide (y.1<x.1)&&decide (x.1<y.2)&&decide (y.2<x.2))
def Mz (t:List Int) (l:List (Int×Int)):Bool:=l.any λx=>(t.any λh=>decide (x.1<h)&&decide (h<x.2))||l.any (Ox x)
def Qa (t u:List Int):Bool:=(t.zip u).any λp=>(t.zip u).any λq=>decide (p.1<q.1)&&decide (q.2<p.2)
def Kd (l:List Stk) (s:Sm):Bool:=
 !Oo (atF l s.a) s 0|| !Oo (atF l s.b) s 1||(s.ls.any λx=>decide (1<x.1))
  ||Mz (Im (atF l s.a) s 0) (Te (atF l s.a) s 0)||Mz (Im (atF l s.b) s 1) (Te (atF l s.b) s 1)
  ||Qa (Im (atF l s.a) s 0) (Im (atF l s.b) s 1)
def Mr (a b:Int) (x:Nat×Nat×Nat):Nat×Nat:=match([0,1,2]:List Nat).find? λ(e:Nat)=>decide (nbI a b ((min x.2.1 x.2.2:Nat):Int) (e:Int)=(((max x.2.1 x.2.2:Nat):Int),(0:Int)))with
 |some e=>(min x.2.1 x.2.2,e)
 |none=>(0,0)
def jE (up:List Bool) (x:Nat×Nat×Nat):Int:=if up.getD x.2.2 false then 1 else 2
def Iz (a b:Int) (cr:List Cr) (up:List Bool) (x:Nat×Nat×Nat):Bool:=
 decide (Ho cr (Mr a b x).1 (Mr a b x).2≠3)&&decide (Ho cr (Mr a b x).1 (Mr a b x).2≠jE up x)
structure St where
 a:Int
 b:Int
 cr:List Cr
 root:Mv
 l:List Stk
def St.chk (s:St):Int:=
 if Ov s.a s.b s.cr s.root s.l≠0 then Ov s.a s.b s.cr s.root s.l
 else if(fI s.a s.b s.cr s.root s.l).seams.any (Kd s.l)then 12
 else if(fI s.a s.b s.cr s.root s.l).seams.any λx=>x.ls.any (Iz s.a s.b s.cr (upF s.a s.b s.cr s.root).1)then 13
 else 0
def pJ (x:Stk):List Stk->List Stk
 |[]=>[x]
 |y::r=>if Ka x.c y.c<=0 then x::y::r else y::pJ x r
def No:List Stk->List Stk
 |[]=>[]
 |x::r=>pJ x (No r)
def Nd (x:Stk):List Stk->List Stk
 |[]=>[x]
 |y::r=>if y.c=x.c then⟨y.c,y.ls++x.ls⟩::r else y::Nd x r
def Kc (l h:List Stk):List Stk:=No ((l++h).foldl (λo x=>if x.ls.isEmpty then o else Nd x o) [])
def Jt (a b:Int):St:=⟨a,b,[],mv0,Kc [] ((Ds (Hh a b)).map λid=>⟨(Ie a b [] mv0).1.2.getD id cl0,[id]⟩)⟩
def Lt (s:St) (k c:Int):List (Nat×Nat):=
 (Ko s.a s.b).filter λu=>decide (Is k c ((Ie s.a s.b s.cr s.root).1.2.getD u.1 cl0)≠Is k c ((Ie s.a s.b s.cr s.root).1.2.getD (nbI s.a s.b u.1 u.2).1.toNat cl0))&&decide (Ho s.cr u.1 u.2=0)
def Af8 (x:Cr):List Cr->List Cr
 |[]=>[x]
 |y::r=>if Kv x.c x.e y.c y.e<=0 then x::y::r else y::Af8 x r
def Oc:List Cr->List Cr
 |[]=>[]
 |x::r=>Af8 x (Oc r)
structure Fd where
 k:Int
 c:Int
 side:Nat
 over:Bool
deriving DecidableEq
def Rx (m:Mv) (l:List Stk):Option (List Stk):=if l.all λx=>decide ((Lj m x.c).2=0)then Af (No (l.map λx=>⟨(Lj m x.c).1,x.ls⟩))else Ae
def Mj (l:List Stk):List Stk:=l.map λx=>⟨x.c,x.ls.reverse⟩
def Hx (k c:Int) (side:Nat) (l:List Stk):List Stk:=l.filter λx=>decide (Is k c x.c=side)
def St.img (s:St) (id:Nat):Cl:=(Ie s.a s.b s.cr s.root).1.2.getD id cl0
def St.fold (s:St) (f:Fd):Int×Option St:=
 if Qe f.k f.c f.side=false then (1,Ae)
 else if(Lt s f.k f.c).isEmpty then (7,Ae)
 else match Rx (ofL f.k f.c) (Mj (Hx f.k f.c f.side s.l))with
  |none=>(3,Ae)
  |some mv=>
   let root:=if Is f.k f.c (s.img 0)=f.side then Vq s.root (ofL f.k f.c)else (s.root,0)
   if root.2≠0 then (3,Ae)
   else
    let stay:=Hx f.k f.c (1-f.side) s.l
    let cr:=Oc (s.cr++(Lt s f.k f.c).map λu=>⟨u.1,u.2,if(upF s.a s.b s.cr s.root).1.getD u.1 false=f.over then 2 else 1⟩)
    let t:St:=⟨s.a,s.b,cr,root.1,if f.over then Kc stay mv else Kc mv stay⟩
    if t.chk=0 then (0,Af t)else (3,Ae)
def St.do (s:St) (f:Fd):Int×Option St:=if s.chk≠0 then (s.chk,Ae)else s.fold f
open Go.RowKit
def Ia.row {v:Ak} (h:Ia O w v (l1++x::l2)) (hc:Jc y=Jc x) (hA:y.2=x.2) (hl:y.1.ls.length=x.1.ls.length) (hr:Jk w' O 3 1 y.2.1 y.1.ls.length (Ih y.1.ls))
  (hg:w.grownBy w' (x.2.1.map (·.block))):Ia O w' v (l1++y::l2):=by
 obtain⟨h1,h2,h3⟩:=h;have hx:=h2 x Gy;have KL:∀g,x.2.1.map (·.block)=Af g->g∈Kk x:=λg hg=>by unfold Kk;rw[hg];simp
 have hn:=h3;simp only[Bi,Bf,Bq,Bl]at hn;obtain⟨n1,⟨n2,n3,n4⟩,n5⟩:=hn
 have jk:∀u∈l1++l2,Nj O w' u:=λu hu=>by
  have YW:u∈l1++x::l2:=by
   rcases Bl.1 hu with h|h
   ·simp[h]
   ·simp[h]
  refine(h2 u YW).same λg hgu=>hg.block g ((h2 u YW).lt g hgu).2.1 λe=>?_;have EZ:=KL g e.symm;rcases Bl.1 hu with h|h
  ·exact n5 g (Ec.2 ⟨u,h,hgu⟩) g (.inl EZ) rfl
  ·exact n4 g EZ g (Ec.2 ⟨u,h,hgu⟩) rfl
 have hb:Kk y=Kk x:=by unfold Kk;rw[hA]
 refine⟨?_,λu hu=>?_,?_⟩
 ·have hk:=Vl h1 hg (.inr λe=>by
   rcases hr.2 with⟨h0,-⟩|⟨g,cur,h0,-⟩
   ·rw[hA]at h0;rw[h0]at e;rcases h1.2 with⟨rfl,h00⟩|⟨g',_,_,rfl,_⟩
    ·simp at h00
    ·cases e
   ·rw[hA]at h0;have EZ:=KL g (by rw[h0];rfl);refine Vj h1 hx g EZ ?_;rw[e,h0];rfl)
  simpa[hc]using hk
 ·rcases Bl.1 hu with hu|hu
  ·exact jk u (by simp[hu])
  ·rcases Bk.1 hu with rfl|hu
   ·refine⟨?_,?_,?_,hr⟩
    ·rw[hA,hl];exact hx.1
    ·rw[hA,hl];exact hx.2.1
    ·rw[hA];exact hx.2.2.1
   ·exact jk u (by simp[hu])
 ·simp only[Bi,Bf,hb]at h3⊢;exact h3
def skZ:SkR:=(⟨cl0,[]⟩,(Ae,0))
def Yz:(Tryz.prog.info? 92).map (λi=>(i.zero,i.size,i.bytes))=Af (Af (.agg #[Aa Ab 0,Aa Ab 0,Aa Ac 0,Ad Ae 0 0]),4,48):=Gx
def Aw5 (k:Nat):madeCells #[Aa Ab 0,Aa Ab 0,Aa Ac 0,Ad Ae 0 0] (k*4)=((Ba k skZ).flatMap Jc).toArray:=by
 have hlen:((Ba k skZ).flatMap Jc).length=k*4:=by rw[Kq Jc 4 Lg,Fg]
 apply Array.ext';apply List.ext_getElem?;intro j;by_cases hj:j<k*4
 ·obtain⟨i,f,hf,rfl⟩:∃i f,f<4/\j=i*4+f:=⟨j/4,j%4,Gv,Gv⟩;have hi:i<k:=Gv;have h1:((Ba k skZ).flatMap Jc)[i*4+f]? =(Jc ((Ba k skZ)[i]'(by simpa using hi)))[f]? :=It Jc 4 Lg _ i f (by simpa using hi) hf;rw[h1];have h3:f=0∨f=1∨f=2∨f=3:=Gv;have hm:(i*4+f)%4=f:=Gv;simp[madeCells,hj,hm];rcases h3 with rfl|rfl|rfl|rfl<;>rfl
 ·rw[Ej (by simp[madeCells];omega),Ej (by rw[hlen];omega)]
def aT (k:Nat) (hk:k<=100000) (W:Aj):(Instr.makeSlice 31 (Aa Ab k) (Aa Ab k)).run Dp W= .ok (Ad (Af ⟨W.heap.size,0,Ae⟩) k k) (W.alloc (.cells ((Ba k skZ).flatMap Jc).toArray 92)):=by
 obtain⟨i,hi,hz,hs,hb⟩:=info_parts Yz;have h:=run_make (P:=Dp) W 31 92 i _ Tryz.underlying31 hi hz .i64 .i64 k k Gv Gv (by rw[hb];omega) Gv;rw[h];simp only[Ev,hs];have e:(Value.agg #[Aa Ab 0,Aa Ab 0,Aa Ac 0,Ad Ae 0 0]).cells= #[Aa Ab 0,Aa Ab 0,Aa Ac 0,Ad Ae 0 0]:=by rfl
 rw[e,Aw5]
def Ia.made (w:Aj) (k:Nat) (hk:k<=100000):Ia w.heap.size (w.alloc (.cells ((Ba k skZ).flatMap Jc).toArray 92)) (Ad (Af ⟨w.heap.size,0,Ae⟩) k k) (Ba k skZ):=by
 have hlen:((Ba k skZ).flatMap Jc).length=k*4:=by rw[Kq Jc 4 Lg,Fg]
 refine⟨⟨by rw[hlen,Fg],.inr ⟨w.heap.size,k,_,by rw[Fg],Am _,Ca w _,by rw[Fg];exact Am _,by unfold maxLen;omega,by simp[hlen],?_⟩⟩,λx hx=>?_,?_⟩
 ·rw[Fg,<-hlen];exact List.take_length
 ·obtain⟨-,rfl⟩:=List.mem_replicate.1 hx;exact⟨.inl ⟨rfl,rfl,rfl⟩,Am _,Gm _,rfl,.inl ⟨rfl,rfl⟩⟩
 ·have:(Ba k skZ).flatMap Kk=[]:=by
   rw[List.flatMap_eq_nil_iff];intro x hx;obtain⟨-,rfl⟩:=List.mem_replicate.1 hx;rfl
  rw[this];exact List.nodup_nil
def Ao7 (l:List Stk) (w:Aj) (e:Ending) (w':Aj):Prop:=
 ∃A c zl,e= .returned (Ad A l.length c)/\Ia w.heap.size w' (Ad A l.length c) zl/\zl.map (·.1)=l/\Below w.heap.size w w'
def Zk {O GO n c:Nat} (h:Ia O wr (Ad (Af ⟨GO,0,Ae⟩) n c) L) (hi:i<L.length) (hb:Below wr.heap.size wr W) (hx:Nj wr.heap.size W x) (hO:O<=wr.heap.size):
  (∀f,f<4->∃u,W.cell? ⟨GO,i*4+f,Ae⟩=Af u)/\(∀j,W.frozen? ⟨GO,j,Ae⟩=false)/\
   Ia O ((((W.setCell ⟨GO,i*4,Ae⟩ (Aa Ab x.1.c.x)).setCell ⟨GO,i*4+1,Ae⟩ (Aa Ab x.1.c.y)).setCell ⟨GO,i*4+2,Ae⟩ (Aa Ac x.1.c.q)).setCell ⟨GO,i*4+3,Ae⟩ (Ad x.2.1 x.1.ls.length x.2.2)) (Ad (Af ⟨GO,0,Ae⟩) n c) (L.set i x):=by
 have hn:n=L.length:=by
  obtain⟨A,c',e,-⟩:=Hy h.1;simp at e;exact e.2.1
 subst hn;have hk:=Hz h.1 (Am _) hb;have hlen:=Kq Jc 4 Lg L;have ba:=Rd.of_own hk;obtain⟨b,o,e,-,hc⟩:=ba.2 Gv;obtain⟨rfl,rfl⟩:GO=b/\0=o:=by simpa using e
 have s1:=Kx hk (Jo W (Af GO)) (i*4) (Aa Ab x.1.c.x);have s2:=Kx s1.1 s1.2 (i*4+1) (Aa Ab x.1.c.y);have s3:=Kx s2.1 s2.2 (i*4+2) (Aa Ac x.1.c.q);have s4:=Kx s3.1 s3.2 (i*4+3) (Ad x.2.1 x.1.ls.length x.2.2);rw[Bd3 L i hi x]at s4;refine⟨λf hf=>?_,Th hk,h.set hi hb hx s4.1 s4.2 hO⟩;have hl:i*4+f<(L.flatMap Jc).length:=by rw[hlen];omega
 have:=hc (i*4+f) _ (Aw hl);rw[Bu]at this;exact⟨_,this⟩
def Ak6 (l:List Stk) (k:Nat) (h:k<l.length):Mj (l.take (k+1))=Mj (l.take k)++[⟨l[k].c,l[k].ls.reverse⟩]:=by
 unfold Mj;rw[Bc h,Ez];rfl
def rH (A:Option Cj) (l:List Stk) (n cc:Nat) (w:Aj) (hn:n=l.length) (h:Ib w A l) (hl:n<=100000) (jd:∀x∈l,x.ls.length<=100000):
  Al Dp 70 #[Ad A n cc] w (Ao7 (Mj l) w):=by
 have WM:=Zz w (λw' hb=>h.below hb);have HN:=Ah hn;have xb:=Ah jd;have ub:=aT n hl w;have DA:=Ia.made w n hl;have lh:=(Ag w.heap.size w).alloc (Am _) (.cells ((Ba n skZ).flatMap Jc).toArray 92);clear hn h jd;go_in;go_upto_region 2 with fail;obtain⟨GO,rm⟩:=ey w.heap.size;have VY:=Ah rm;rw[rm]at DA
 try rw[rm]
 generalize w.alloc _=W0 at DA lh⊢;have j6:Hid (Ia w.heap.size W0 (Ad (Af ⟨GO,0,Ae⟩) n n) ([]++Ba (n-0) skZ)):=Ah (by rw[rm];exact DA);have wa:=Ah lh;clear ub rm DA lh;go_wp2
 go_loopw [11] (λvy wr=>∃k:Nat,k<=n/\vy= Aa Ab k/\Hid (∃zl:List SkR,zl.map (·.1)=Mj (l.take k)/\Ia w.heap.size wr (Ad (Af ⟨GO,0,Ae⟩) n n) (zl++Ba (n-k) skZ))/\Hid (Below w.heap.size w wr)) (λvy _=>n-(intOf vy).toNat)
 case atStart=>exact⟨0,Gv,rfl,Ah ⟨[],rfl,j6.out⟩,wa⟩
 obtain⟨k,hk,rfl,HZ,HB⟩:=hrel;clear j6 wa;by_cases ac:k<n
 ·have be:k<l.length:=oHx HN.out;have q0:(k:Int)<(n:Int):=Gv;obtain⟨bb,o,A',c',TD,cj,⟨d0,d1,d2,d3⟩,du,hle,jb,ba⟩:=(WM.out _ HB.out).get k be;have dq:=xb.out l[k] (Ay _);have kg:=Ak6 l k be;obtain⟨⟨⟨x0,x1,x2⟩,ids⟩,hx⟩:∃z,l[k]=z:=⟨_,rfl⟩;simp only[hx]at d0 d1 d2 d3 dq ba du hle kg;obtain⟨m,hm⟩:=ey ids.length;rw[hm]at d3 dq ba du hle;have gj:=Ah hm;have xd:=Ah kg;have CI:=Zz wr (λw' hb=>Rb ⟨x0,x1,x2⟩ A' ids m c' w' hm.symm du (ba.below hb) Gv);obtain⟨C,hC⟩:=ey wr.heap.size;have EV:=Ca wr (.cells #[x0,x1,Aa Ac x2,Ad A' m c'] 92);rw[hC]at EV;have cg:=(Ag wr.heap.size wr).alloc (Am _) (.cells #[x0,x1,Aa Ac x2,Ad A' m c'] 92);subst TD;clear kg ba du hle hx hm;go_upto_region 5 with fail
  try rw[hC]
  generalize wr.alloc _=W5 at EV cg⊢;clear d0 d1 d2 d3;obtain⟨⟨e0,e1,e2,e3⟩,-⟩:=Jh EV;have KR:=Ah cg;have gg:=HB.out.size;clear EV cg;go_wp2_with fail;refine(CI.out _ KR.out).mono ?_;rintro ee w6 ⟨A9,rfl,sr,bn,bg⟩;dsimp only;obtain⟨zl,ap,bw⟩:=HZ.out
  have ld:zl.length=k:=by
   have:=congrArg List.length ap;unfold Mj at this;simp at this;omega
  have zm:=Up KR.out bg;have lz:=KR.out.size;have jp:Nj wr.heap.size w6 (⟨⟨x0,x1,x2⟩,ids⟩,(A9,ids.length)):=⟨sr,Am _,by show ids.length<=maxLen;have:=gj.out;unfold maxLen;omega,bn.base lz⟩;obtain⟨df,dg,dl⟩:=Zk bw (i:=k) (by simp[ld];omega) zm jp gg
  have sw:(zl++Ba (n-k) skZ).set k (⟨⟨x0,x1,x2⟩,ids⟩,(A9,ids.length))=zl++(⟨⟨x0,x1,x2⟩,ids⟩,(A9,ids.length))::Ba (n-(k+1)) skZ:=by
   rw[Gh _ _ Gv,ld,Fo];rw[show n-k=(n-(k+1))+1 by omega,List.replicate_succ,Cg]
  rw[sw]at dl;rw[gj.out]at dl⊢;dsimp only at dl;obtain⟨v0,g0⟩:=df 0 Gv;obtain⟨v1,g1⟩:=df 1 Gv;obtain⟨v2,g2⟩:=df 2 Gv;obtain⟨v3,g3⟩:=df 3 Gv;rw[Df]at g0;have z0:=dg (k*4);have z1:=dg (k*4+1);have z2:=dg (k*4+2);have z3:=dg (k*4+3)
  have QM:Below w.heap.size w ((((w6.setCell ⟨GO,k*4,Ae⟩ (Aa Ab x0)).setCell ⟨GO,k*4+1,Ae⟩ (Aa Ab x1)).setCell ⟨GO,k*4+2,Ae⟩ (Aa Ac x2)).setCell ⟨GO,k*4+3,Ae⟩ (Ad A9 m m)):=by
   have lm:w.heap.size<=GO:=by rw[VY.out];exact Am _
   have bc:=HB.out.trans (zm.mono gg);exact(((bc.setCell (p:=⟨GO,k*4,Ae⟩) lm _).setCell (p:=⟨GO,k*4+1,Ae⟩) lm _).setCell (p:=⟨GO,k*4+2,Ae⟩) lm _).setCell (p:=⟨GO,k*4+3,Ae⟩) lm _
  have hA9b:∀g,A9.map (·.block)=Af g->w.heap.size<=g:=λg hg=>by have:=(bn.lt g hg).1;omega
  have GM:=Ah ld;have pj:=Ah ap;have HA9:=Ah hA9b;clear df dg sw jp ap bw ld zm lz gg bg bn sr e0 e1 e2 e3 HZ HB KR CI hA9b;go_upto_region 6 with fail;generalize (((w6.setCell _ _).setCell _ _).setCell _ _).setCell _ _=W7 at dl QM⊢;clear g0 g1 g2 g3 z0 z1 z2 z3
  have h3:W7.cell? ⟨GO,k*4+3,Ae⟩=Af (Ad A9 m m):=by
   have nm:(zl++((⟨⟨x0,x1,x2⟩,ids⟩,(A9,m)):SkR)::Ba (n-(k+1)) skZ).length=n:=by
    have:=GM.out;simp;omega
   have h1:=dl.1;rw[nm]at h1;have ba:=Rd.of_own h1;obtain⟨b,o',e,-,hc⟩:=ba.2 Gv;obtain⟨rfl,rfl⟩:GO=b/\0=o':=by simpa using e
   have hz:=GM.out;have bi:=It Jc 4 Lg (zl++(⟨⟨x0,x1,x2⟩,ids⟩,(A9,m))::Ba (n-(k+1)) skZ) k 3 Hv Gv
   have jz:(zl++(⟨⟨x0,x1,x2⟩,ids⟩,(A9,m))::Ba (n-(k+1)) skZ)[k]'(by simp;omega)=((⟨⟨x0,x1,x2⟩,ids⟩,(A9,m)):SkR):=by
    rw[List.getElem_append_right Gv];simp[hz]
   rw[jz]at bi;have:=hc (k*4+3) (Ad A9 m m) (bi.trans (by simp[Jc,gj.out]));rw[Bu]at this;exact this
  have jp:=dl.2.1 ((⟨⟨x0,x1,x2⟩,ids⟩,(A9,m)):SkR) Gy;have ae:=jp.2.2.2;dsimp only at ae;rw[gj.out]at ae;have MN:=Ah (Ba7 (c:=m) ids W7 ae Gv);have SX:=Ah dl;have KQ:=Ah QM;clear dl QM jp ae;go_wp2_with fail;refine MN.out.mono ?_;rintro ee w8 ⟨rfl,YS,GZ⟩;have uw:ids.reverse.length=m:=by rw[List.length_reverse,gj.out]
  have h8:=SX.out.row (y:=(⟨⟨x0,x1,x2⟩,ids.reverse⟩,(A9,m))) (by unfold Jc;dsimp only;rw[uw,gj.out]) rfl (by dsimp only;rw[uw,gj.out]) (by dsimp only;rw[uw];exact YS) GZ;have og:=KQ.out.grown GZ KQ.out.size (λg hg=>HA9.out g hg);have HO8:Hid (∃zl:List SkR,zl.map (·.1)=Mj (l.take (k+1))/\Ia w.heap.size w8 (Ad (Af ⟨GO,0,Ae⟩) n n) (zl++Ba (n-(k+1)) skZ)):=Ah ⟨zl++[(⟨⟨x0,x1,x2⟩,ids.reverse⟩,(A9,m))],by rw[Ez,pj.out,xd.out];rfl,by rw[Bj];exact h8⟩;have tr:=Ah og;clear YS GZ uw h8 og h3 MN SX KQ;go_wp2;exact⟨⟨k+1,Gv,by go_num,HO8,tr⟩,by simp[intOf];omega⟩
 ·obtain rfl:k=n:=Gv;have q0:¬(k:Int)<(k:Int):=Gv;obtain⟨zl,ap,bw⟩:=HZ.out;have ht:l.take k=l:=Bg (oHx HN.out);rw[ht]at ap;rw[Fo,List.replicate_zero,Ff]at bw;have uw:(Mj l).length=k:=by unfold Mj;rw[Bp];exact HN.out.symm
  have aw:Hid (Ao7 (Mj l) w (.returned (Ad (Af ⟨GO,0,Ae⟩) k k)) wr):=Ah ⟨Af ⟨GO,0,Ae⟩,k,zl,by rw[uw],by rw[uw];exact bw,ap,HB.out⟩;clear ap bw uw ht HZ;go_wp2;go_ret;exact aw.out
end Go.Proofs.YtlgkpdfieaadaaaGreatDoor
namespace Go.Proofs.YtlgkpdfieaadaaaGreatDoor.Rs
open Go.RowKit
variable {w:Aj} {base g cap i j n p q k a bs:Nat}
structure Sr where
 x:Int
 y:Int
 q:Nat
 A:Option Cj
 n:Nat
 c:Nat
 ls:List Nat
 hx: -4096<=x/\x<=4096
 hy: -4096<=y/\y<=4096
 hq:q<=3
def Sr.cells (r:Sr):List Ak:=[Aa Ab r.x,Aa Ab r.y,Aa Ac (r.q:Int),Ad r.A r.n r.c]
def recs (l:List Sr):List Ak:=l.flatMap Sr.cells
def Sr.t (r:Sr):Int:=(r.y*16384+r.x)*4+r.q
def Rz (r:Sr):r.cells.length=4:=rfl
def qY (L:List Sr) (i:Nat) (hi:i<L.length) (b:Sr):
  ((((recs L).set (i*4) (Aa Ab b.x)).set (i*4+1) (Aa Ab b.y)).set (i*4+2) (Aa Ac (b.q:Int))).set (i*4+3) (Ad b.A b.n b.c)=recs (L.set i b):=by
 obtain⟨a,ha⟩:=ey (L[i]);have e0:=On Sr.cells 4 Rz L i 0 hi Gv ⟨b.x,a.y,a.q,a.A,a.n,a.c,a.ls,b.hx,a.hy,a.hq⟩ (Aa Ab b.x) (by rw[ha];rfl);have e1:=On Sr.cells 4 Rz (L.set i ⟨b.x,a.y,a.q,a.A,a.n,a.c,a.ls,b.hx,a.hy,a.hq⟩) i 1 (by simpa using hi) Gv ⟨b.x,b.y,a.q,a.A,a.n,a.c,a.ls,b.hx,b.hy,a.hq⟩ (Aa Ab b.y) (by rw[Cq];rfl);have e2:=On Sr.cells 4 Rz (L.set i ⟨b.x,b.y,a.q,a.A,a.n,a.c,a.ls,b.hx,b.hy,a.hq⟩) i 2 (by simpa using hi) Gv ⟨b.x,b.y,b.q,a.A,a.n,a.c,a.ls,b.hx,b.hy,b.hq⟩ (Aa Ac (b.q:Int)) (by rw[Cq];rfl);have e3:=On Sr.cells 4 Rz (L.set i ⟨b.x,b.y,b.q,a.A,a.n,a.c,a.ls,b.hx,b.hy,b.hq⟩) i 3 (by simpa using hi) Gv b (Ad b.A b.n b.c) (by rw[Cq];rfl);rw[List.set_set]at e1 e2 e3;unfold recs;rw[Df]at e0;rw[<-e0,<-e1,<-e2,<-e3]
def Bz9 {A:Option Cj} {l:List Sr} (h:Rd w A 4 l.length (recs l)) (i:Nat) (hi:i<l.length):
  ∃b o,A=Af ⟨b,o,Ae⟩/\b<w.heap.size/\w.cell? ⟨b,o+i*4,Ae⟩=Af (Aa Ab l[i].x)/\w.cell? ⟨b,o+i*4+1,Ae⟩=Af (Aa Ab l[i].y)/\
   w.cell? ⟨b,o+i*4+2,Ae⟩=Af (Aa Ac (l[i].q:Int))/\w.cell? ⟨b,o+i*4+3,Ae⟩=Af (.slice l[i].A l[i].n l[i].c):=by
 obtain⟨b,o,e,hb,hc⟩:=h.2 Gv;refine⟨b,o,e,hb,?_,?_,?_,?_⟩
 ·exact hc (i*4+0) _ ((It _ 4 Rz l i 0 hi Gv).trans rfl)
 ·exact hc (i*4+1) _ ((It _ 4 Rz l i 1 hi Gv).trans rfl)
 ·exact hc (i*4+2) _ ((It _ 4 Rz l i 2 hi Gv).trans rfl)
 ·exact hc (i*4+3) _ ((It _ 4 Rz l i 3 hi Gv).trans rfl)
def Xn {a b c d:Int} (h1:a<b↔c<d) (h2:b<a↔d<c):Ik a b=Ik c d:=by
 unfold Ik;simp only[h1,h2]
def As3 (a b:Sr):Ka ⟨a.x,a.y,a.q⟩ ⟨b.x,b.y,b.q⟩=Ik a.t b.t:=by
 have h1:=a.hx;have h2:=a.hy;have h3:=a.hq;have h4:=b.hx;have h5:=b.hy;have h6:=b.hq;unfold Ka Sr.t;dsimp only;by_cases e1:a.y=b.y
 ·rw[Ha (λh=>h (Jf.2 e1))];by_cases e2:a.x=b.x
  ·rw[Ha (λh=>h (Jf.2 e2))];exact Xn Gv Gv
  ·rw[Hc (λh=>e2 (Jf.1 h))];exact Xn Gv Gv
 ·rw[Hc (λh=>e1 (Jf.1 h))];exact Xn Gv Gv
def Wa (a b:Sr) (w:Aj):
  Al Dp 123 #[.agg #[Aa Ab a.x,Aa Ab a.y,Aa Ac (a.q:Int),Ad a.A a.n a.c],.agg #[Aa Ab b.x,Aa Ab b.y,Aa Ac (b.q:Int),Ad b.A b.n b.c]] w (Gz (Aa Ab (Ik a.t b.t)) w):=by
 have HC:=Ah (λw'=>bW ⟨a.x,a.y,a.q⟩ ⟨b.x,b.y,b.q⟩ w' (by have:=a.hq;dsimp only;omega) (by have:=b.hq;dsimp only;omega));rw[As3]at HC;dsimp only at HC;generalize Ik a.t b.t=r at HC⊢;obtain⟨x0,x1,x2,xA,n,xc,xl,ax,ay,aq⟩:=a;obtain⟨y0,y1,y2,yA,m,yc,yl,bx,qd,bq⟩:=b;dsimp only at HC⊢;have dh:Below w.heap.size w ((w.alloc (.cells #[x0,x1,Aa Ac x2,Ad xA n xc] 92)).alloc (.cells #[y0,y1,Aa Ac y2,Ad yA m yc] 92)):=((Ag _ _).alloc (Am _) _).alloc Gy _;have H:=((Bx.start w).new #[x0,x1,Aa Ac x2,Ad xA n xc] 92 rfl).new #[y0,y1,Aa Ac y2,Ad yA m yc] 92 (N:=w.heap.size+1) Gy;go_in;go_upto_region 1 with fail;generalize (w.alloc _).alloc _=W at H dh⊢;obtain⟨N,ct⟩:=Tw w.heap.size;rw[<-ct.out]at H⊢;generalize N+1=P at H⊢;obtain⟨⟨a0,a1,a2,-⟩,-⟩:=Jh (H.b 0);obtain⟨⟨b0,b1,b2,-⟩,-⟩:=Jh (H.b 1);have fa:=Ah dh;clear dh H;go_wp2_with fail;refine(HC.out _).mono ?_;rintro e w2 ⟨rfl,hb⟩;go_wp2;go_ret;exact⟨rfl,Up fa.out hb⟩
def Wt {L:List Sr} {a b:Sr} (aa:w.ownsRow base 92 4 (Ad (Af ⟨g,0,Ae⟩) n cap) n (recs L)) (hi:i<L.length) (hj:j<L.length):
  (((((((((w.setCell ⟨g,i*4,Ae⟩ (Aa Ab b.x)).setCell ⟨g,i*4+1,Ae⟩ (Aa Ab b.y)).setCell ⟨g,i*4+2,Ae⟩ (Aa Ac (b.q:Int))).setCell ⟨g,i*4+3,Ae⟩ (Ad b.A b.n b.c)).setCell ⟨g,j*4,Ae⟩ (Aa Ab a.x)).setCell ⟨g,j*4+1,Ae⟩ (Aa Ab a.y)).setCell ⟨g,j*4+2,Ae⟩ (Aa Ac (a.q:Int))).setCell ⟨g,j*4+3,Ae⟩ (Ad a.A a.n a.c)).drew).ownsRow base 92 4 (Ad (Af ⟨g,0,Ae⟩) n cap) n (recs ((L.set i b).set j a))/\
  w.grownBy (((((((((w.setCell ⟨g,i*4,Ae⟩ (Aa Ab b.x)).setCell ⟨g,i*4+1,Ae⟩ (Aa Ab b.y)).setCell ⟨g,i*4+2,Ae⟩ (Aa Ac (b.q:Int))).setCell ⟨g,i*4+3,Ae⟩ (Ad b.A b.n b.c)).setCell ⟨g,j*4,Ae⟩ (Aa Ab a.x)).setCell ⟨g,j*4+1,Ae⟩ (Aa Ab a.y)).setCell ⟨g,j*4+2,Ae⟩ (Aa Ac (a.q:Int))).setCell ⟨g,j*4+3,Ae⟩ (Ad a.A a.n a.c)).drew) (Af g):=by
 have h1:=Kx aa (Jo w (Af g)) (i*4) (Aa Ab b.x);have h2:=Kx h1.1 h1.2 (i*4+1) (Aa Ab b.y);have h3:=Kx h2.1 h2.2 (i*4+2) (Aa Ac (b.q:Int));have h4:=Kx h3.1 h3.2 (i*4+3) (Ad b.A b.n b.c);have h5:=Kx h4.1 h4.2 (j*4) (Aa Ab a.x);have h6:=Kx h5.1 h5.2 (j*4+1) (Aa Ab a.y);have h7:=Kx h6.1 h6.2 (j*4+2) (Aa Ac (a.q:Int));have h8:=Kx h7.1 h7.2 (j*4+3) (Ad a.A a.n a.c);clear h1 h2 h3 h4 h5 h6 h7;rw[qY L i hi b,qY (L.set i b) j (by simpa using hj) a]at h8;exact⟨h8.1.drew,Rg h8.2⟩
def Zv {α:Type} (U V Z:List α) (x y:α) (hi:i=U.length) (hj:j=U.length+1+V.length):
  (U++x::(V++y::Z))[i]? =Af x/\(U++x::(V++y::Z))[j]? =Af y/\((U++x::(V++y::Z)).set i y).set j x=U++y::(V++x::Z):=by
 subst hi hj;refine⟨?_,?_,?_⟩
 ·rw[Eg (Am _),Fo];rfl
 ·rw[Eg Gv,show U.length+1+V.length-U.length=V.length+1 by omega,List.getElem?_cons_succ,Eg (Am _),Fo];rfl
 ·rw[Gh _ _ (Am _),Fo,Cg,Gh _ _ Gv,show U.length+1+V.length-U.length=V.length+1 by omega,Ch,Gh _ _ (Am _),Fo,Cg]
def Lm (base g n cap:Nat) (D:List Sr) (w:Aj) (e:Ending) (w':Aj):Prop:=
 e= .returned (.tuple #[])/\w'.ownsRow base 92 4 (Ad (Af ⟨g,0,Ae⟩) n cap) n (recs D)/\w.grownBy w' (Af g)
def Ln {L:List Sr} (aa:w.ownsRow base 92 4 (Ad (Af ⟨g,0,Ae⟩) n cap) n (recs L)) (hn:n=L.length) {r:Sr} (hi:L[i]? =Af r):
  (w.cell? ⟨g,i*4,Ae⟩=Af (Aa Ab r.x)/\w.cell? ⟨g,i*4+1,Ae⟩=Af (Aa Ab r.y)/\w.cell? ⟨g,i*4+2,Ae⟩=Af (Aa Ac (r.q:Int))/\w.cell? ⟨g,i*4+3,Ae⟩=Af (Ad r.A r.n r.c))/\
  (w.frozen? ⟨g,i*4,Ae⟩=false/\w.frozen? ⟨g,i*4+1,Ae⟩=false/\w.frozen? ⟨g,i*4+2,Ae⟩=false/\w.frozen? ⟨g,i*4+3,Ae⟩=false):=by
 subst hn;obtain⟨bv,rfl⟩:=Ax.1 hi;obtain⟨b,o,e,_,c0,c1,c2,c3⟩:=Bz9 (Rd.of_own aa) i bv;obtain⟨rfl,rfl⟩:g=b/\0=o:=by simpa using e
 simp only[Bu]at c0 c1 c2 c3;exact⟨⟨c0,c1,c2,c3⟩,Th aa _,Th aa _,Th aa _,Th aa _⟩
def Qk (P X M Y S:List Sr) (i:Nat):List Sr:=P++(Y.take i++X.drop i)++M++(X.take i++Y.drop i)++S
def Am6 (P X M Y S:List Sr) (i:Nat) (h:X.length=Y.length):(Qk P X M Y S i).length=P.length+X.length+M.length+Y.length+S.length:=by
 unfold Qk;simp;omega
def xO (P X M Y S:List Sr):Qk P X M Y S 0=P++X++M++Y++S:=by simp[Qk]
def Am5 (P X M Y S:List Sr) (h:X.length=Y.length):Qk P X M Y S X.length=P++Y++M++X++S:=by
 unfold Qk;rw[Bg Gv,Cu (Am _),Bg (Am _),Cu Gv];simp
def xN (P X M Y S:List Sr) (i:Nat) (h:X.length=Y.length) (hi:i<X.length) (hp:p=P.length+i) (hq:q=P.length+X.length+M.length+i):
  ∃x y,(Qk P X M Y S i)[p]? =Af x/\(Qk P X M Y S i)[q]? =Af y/\((Qk P X M Y S i).set p y).set q x=Qk P X M Y S (i+1):=by
 have e1:Qk P X M Y S i=(P++Y.take i)++X[i]::((X.drop (i+1)++M++X.take i)++Y[i]::(Y.drop (i+1)++S)):=by
  unfold Qk;rw[Gp hi,Gp (show i<Y.length by omega)];simp only[Bj,Er]
 have e2:Qk P X M Y S (i+1)=(P++Y.take i)++Y[i]::((X.drop (i+1)++M++X.take i)++X[i]::(Y.drop (i+1)++S)):=by
  unfold Qk;rw[Bc hi,Bc (show i<Y.length by omega)];simp only[Bj,Er,Eu]
 refine⟨X[i],Y[i],?_⟩;rw[e1,e2];refine Zv _ _ _ _ _ ?_ ?_
 ·simp;omega
 ·simp;omega
def Sk (base g n cap cc:Nat) (P X M Y S:List Sr) (a b k:Nat) (f:Ak) (w:Aj) (el:X.length=Y.length) (ha:a=P.length) (hb:b=P.length+X.length+M.length) (hk:k=X.length) (hn:n=P.length+X.length+M.length+Y.length+S.length) (hl:n<=1000000000)
  (aa:w.ownsRow base 92 4 (Ad (Af ⟨g,0,Ae⟩) n cap) n (recs (P++X++M++Y++S))):
  Al Dp 304 #[Ad (Af ⟨g,0,Ae⟩) n cc,a,b,k,f] w (Lm base g n cap (P++Y++M++X++S) w):=by
 have kr:=Ah el;have HA:=Ah ha;have HB:=Ah hb;have HK:=Ah hk;have HN:=Ah hn;have HO:=Ah aa;have hak:a+k<=n:=Gv;have tj:b+k<=n:=Gv;clear el ha hb hk hn aa;go_in;go_wp2
 go_loopw [10] (λs wr=>∃i:Nat,i<=k/\s= Aa Ab i/\wr.ownsRow base 92 4 (Ad (Af ⟨g,0,Ae⟩) n cap) n (recs (Qk P X M Y S i))/\w.grownBy wr (Af g)) (λs _=>k-(intOf s).toNat)
 case atStart=>exact⟨0,Gv,rfl,by rw[xO];exact HO.out,Jo _ _⟩
 obtain⟨i,zt,rfl,aa,gn⟩:=hrel;by_cases ac:i<k
 ·obtain⟨p,hp⟩:=ez (a+i);obtain⟨q,hq⟩:=ez (b+i);obtain⟨x,y,hx,hy,bo⟩:=xN P X M Y S i kr.out (oHx HK.out) (p:=p) (q:=q) (oHx HA.out) (oHx HB.out);have YC:=Am6 P X M Y S i kr.out;have P4:n=(Qk P X M Y S i).length:=by rw[YC];exact HN.out
  obtain⟨⟨c0,c1,c2,c3⟩,z0,z1,z2,z3⟩:=Ln aa P4 hx;obtain⟨⟨d0,d1,d2,d3⟩,y0,y1,y2,y3⟩:=Ln aa P4 hy;have dr:p<n:=Gv;have VB:q<n:=Gv;have FQ:=Wt (a:=x) (b:=y) (i:=p) (j:=q) aa (by rw[<-P4];exact dr) (by rw[<-P4];exact VB);rw[bo]at FQ;have uy:=Ah FQ;have e1:Ab.wrap ((a:Int)+(i:Int))=(p:Int):=by rw[Cb _ Gv];omega
  have e2:Ab.wrap ((b:Int)+(i:Int))=(q:Int):=by rw[Cb _ Gv];omega
  have e3:(p:Int)<(n:Int):=Gv;have e4:(q:Int)<(n:Int):=Gv;have e5:(0:Int)<=(p:Int):=Gv;have e6:(0:Int)<=(q:Int):=Gv;have bv:(i:Int)<(k:Int):=Gv;have OR:¬p=q:=by have:=HA.out;have:=HB.out;have:=HK.out;omega
  have hqp:¬q=p:=λh=>OR h.symm;clear hp hq hx hy bo YC P4 FQ aa;go_wp2
  go_region
  obtain⟨h1,h2⟩:=uy.out;clear uy c0 c1 c2 c3 d0 d1 d2 d3 z0 z1 z2 z3 y0 y1 y2 y3 e1 e2 e3 e4 e5 e6;generalize ((((((((wr.setCell _ _).setCell _ _).setCell _ _).setCell _ _).setCell _ _).setCell _ _).setCell _ _).setCell _ _).drew=W3 at h1 h2⊢;have H1:=Ah h1;have H2:=Ah (Ks gn h2);clear h1 h2 gn;go_wp2
  go_roundw
  case rel=>exact⟨i+1,Gv,by go_num,H1.out,H2.out⟩
  case measure=>simp[intOf];omega
 ·obtain rfl:i=k:=Gv;have ak:=aa;rw[HK.out,Am5 _ _ _ _ _ kr.out]at ak;have HO':=Ah ak;clear aa ak;go_wp2_with fail
  go_end0
  exact⟨rfl,HO'.out,gn⟩
def Br1 (base g n cap m:Nat) (D:List Sr) (w0:Aj) (i j:Nat) (w:Aj):Prop:=
 ∃P X Y S:List Sr,P.length+i=m/\X.length=i/\Y.length=j/\0<i/\0<j/\P++Y++X++S=D/\n=P.length+X.length+Y.length+S.length/\w.ownsRow base 92 4 (Ad (Af ⟨g,0,Ae⟩) n cap) n (recs (P++X++Y++S))/\w0.grownBy w (Af g)
def wK (base g n cap cc:Nat) (P X Y S:List Sr) (a m b:Nat) (f:Ak) (w:Aj) (ha:a=P.length) (hm:m=P.length+X.length) (hb:b=P.length+X.length+Y.length) (hn:n=P.length+X.length+Y.length+S.length) (hX:0<X.length) (hY:0<Y.length) (hl:n<=1000000000)
  (aa:w.ownsRow base 92 4 (Ad (Af ⟨g,0,Ae⟩) n cap) n (recs (P++X++Y++S))):
  Al Dp 278 #[Ad (Af ⟨g,0,Ae⟩) n cc,a,m,b,f] w (Lm base g n cap (P++Y++X++S) w):=by
 have FP:Br1 base g n cap m (P++Y++X++S) w (m-a) (b-m) w:=⟨P,X,Y,S,Gv,Gv,Gv,Gv,Gv,rfl,hn,aa,Jo _ _⟩;generalize P++Y++X++S=D at FP⊢;have HS:=Ah FP;have h1:a<=m:=Gv;have h2:m<=b:=Gv;have h3:b<=n:=Gv;clear aa FP ha hm hb hn hX hY P X Y S;go_in;go_wp2
 go_loopw [10,11] (λs t wr=>∃i j:Nat,s= Aa Ab i/\t= Aa Ab j/\Br1 base g n cap m D w i j wr) (λs t _=>(intOf s).toNat+(intOf t).toNat)
 case atStart=>exact⟨m-a,b-m,by go_num,by go_num,HS.out⟩
 obtain⟨i,j,rfl,rfl,P,X,Y,S,hPi,hXi,hYj,hi,hj,hDD,FJ,aa,gn⟩:=hrel;have HO:=Ah aa;have HDD:=Ah hDD;have HN:=Ah FJ;have PZ:=Ah hXi;have B9:=Ah hYj;have WK:=Ah hPi;have q1:i<=m:=Gv;have q2:m+j<=n:=Gv;clear aa hDD FJ hXi hYj hPi HS;by_cases FB:i=j
 ·obtain rfl:=FB;have hs:=Sk base g n cap cc P X [] Y S (m-i) m i f wr (by rw[PZ.out,B9.out]) (oHx WK.out) (by have:=WK.out;have:=PZ.out;simp;omega) PZ.out.symm (by have:=HN.out;simp;omega) hl (by simpa using HO.out);rw[show((m-i:Nat):Int)=(m:Int)-(i:Int)by omega]at hs;simp only[Ff]at hs;rw[HDD.out]at hs;have uy:=Ah hs;have e0:((i:Int) != (i:Int))=false:=Gy;clear hs;go_wp2_with fail;refine uy.out.mono ?_;rintro e w2 ⟨rfl,ai,ef⟩;have H2:=Ah ai;clear ai;go_wp2_with fail
  go_end0
  exact⟨rfl,H2.out,Ks gn ef⟩
 ·have e0:((i:Int) != (j:Int))=true:=Hv;by_cases lq:j<i
  ·have hX:X.take j++X.drop j=X:=Fe _ _;have ig:(X.take j).length=j:=by rw[Bm,PZ.out];omega
   have mo:(X.drop j).length=i-j:=by rw[Dy,PZ.out]
   have hs:=Sk base g n cap cc P (X.take j) (X.drop j) Y S (m-i) m j f wr (by rw[ig,B9.out]) (oHx WK.out) (oHx WK.out) ig.symm (by have:=HN.out;have:=PZ.out;omega) hl (by rw[Bj P,hX];exact HO.out);rw[show((m-i:Nat):Int)=(m:Int)-(i:Int)by omega]at hs;have uy:=Ah hs;have HX:=Ah hX;have SG:=Ah ig;have MA:=Ah mo;have M0:(j:Int)<(i:Int):=Gv;clear hs hX ig mo;go_wp2_with fail;refine uy.out.mono ?_;rintro e w2 ⟨rfl,ai,ef⟩;have H2:=Ah ai;have BB:=Ah (Ks gn ef);clear ai gn ef;go_wp2
   go_roundw
   case rel=>
    refine⟨i-j,j,by go_num,rfl,P++Y,X.drop j,X.take j,S,?_,MA.out,SG.out,Gv,hj,?_,?_,H2.out,BB.out⟩
    ·have:=WK.out;have:=B9.out;simp;omega
    ·rw[Bj (P++Y),HX.out];exact HDD.out
    ·have:=HN.out;have:=PZ.out;have:=SG.out;have:=MA.out;simp only[Bh];omega
   case measure=>simp[intOf];omega
  ·have hY:Y.take (j-i)++Y.drop (j-i)=Y:=Fe _ _;have ig:(Y.take (j-i)).length=j-i:=by rw[Bm,B9.out];omega
   have mo:(Y.drop (j-i)).length=i:=by rw[Dy,B9.out];omega
   have hs:=Sk base g n cap cc P X (Y.take (j-i)) (Y.drop (j-i)) S (m-i) (m+j-i) i f wr (by rw[mo,PZ.out]) (oHx WK.out) (by have:=WK.out;have:=PZ.out;omega) PZ.out.symm (by have:=HN.out;have:=B9.out;omega) hl (by rw[Bj (P++X),hY];exact HO.out);rw[show((m-i:Nat):Int)=(m:Int)-(i:Int)by omega,show((m+j-i:Nat):Int)=(m:Int)+(j:Int)-(i:Int)by omega]at hs;have uy:=Ah hs;have HY:=Ah hY;have SG:=Ah ig;have MA:=Ah mo;have M0:¬(j:Int)<(i:Int):=Gv;clear hs hY ig mo;go_wp2_with fail;refine uy.out.mono ?_;rintro e w2 ⟨rfl,ai,ef⟩;have H2:=Ah ai;have BB:=Ah (Ks gn ef);clear ai gn ef;go_wp2
   go_roundw
   case rel=>
    refine⟨i,j-i,rfl,by go_num,P,Y.drop (j-i),Y.take (j-i),X++S,WK.out,MA.out,SG.out,hi,Gv,?_,?_,?_,BB.out⟩
    ·rw[<-Bj,Bj P,HY.out];exact HDD.out
    ·have:=HN.out;have:=B9.out;have:=SG.out;have:=MA.out;simp only[Bh];omega
    ·rw[<-Bj];exact H2.out
   case measure=>simp[intOf];omega
section
variable {α:Type} (t:α->Int)
def leT (a b:α):Bool:=decide (t a<=t b)
def mrg (a b:List α):List α:=a.merge b (leT t)
def srt:List α->List α
 |[]=>[]
 |x::l=>mrg t [x] (srt l)
def Pn (l:List α):Prop:=l.Pairwise (λa b=>t a<=t b)
end
section
variable {α:Type} {t:α->Int}
def Pm (a:List α):mrg t a []=a:=by unfold mrg;simp
def Ng (a:List α):mrg t [] a=a:=by unfold mrg;simp
def Nr {x y:α} {a b:List α} (h:t x<=t y):mrg t (x::a) (y::b)=x::mrg t a (y::b):=by
 unfold mrg;exact List.cons_merge_cons_pos _ _ _ (by simpa[leT]using h)
def Ms {x y:α} {a b:List α} (h:t y<t x):mrg t (x::a) (y::b)=y::mrg t (x::a) b:=by
 unfold mrg;exact List.cons_merge_cons_neg _ _ _ (by simp[leT];omega)
def zP (a b:List α):(mrg t a b).length=a.length+b.length:=by unfold mrg;exact List.length_merge _ _ _
def zN {a b:List α} (h:∀x∈a,∀y∈b,t x<=t y):mrg t a b=a++b:=by
 unfold mrg;exact List.merge_of_le λx y hx hy=>by simpa[leT]using h x hx y hy
def Bm8 {a b:List α} (ha:Pn t a) (hb:Pn t b):Pn t (mrg t a b):=by
 have h:=List.pairwise_merge (le:=leT t) (λa b c h1 h2=>by simp[leT]at*;omega) (λa b=>by simp[leT];omega) a b (ha.imp (λh=>by simpa[leT]using h)) (hb.imp (λh=>by simpa[leT]using h));exact h.imp (λh=>by simpa[leT]using h)
def iB (n:Nat):∀(A1 A2 B1 B2:List α),A1.length+B1.length<=n->(∀x∈A1,∀y∈B2,t x<=t y)->(∀x∈A2,∀y∈B1,t y<t x)->mrg t (A1++A2) (B1++B2)=mrg t A1 B1++mrg t A2 B2:=by
 induction n with
 |zero=>
  intro A1 A2 B1 B2 hn _ _;have h1:A1=[]:=Et.1 Gv;have h2:B1=[]:=Et.1 Gv;subst h1 h2;simp[Ng]
 |succ n ih=>
  intro A1 A2 B1 B2 hn h1 h2
  cases A1 with
  |nil=>
   cases B1 with
   |nil=>simp[Ng]
   |cons y B1=>
    rw[Ng,Eu]
    cases A2 with
    |nil=>simp[Ng]
    |cons x A2=>
     have el:=h2 x Gy y Gy;rw[Er,Ms el];have:=ih [] (x::A2) B1 B2 (by simp at hn⊢;omega) Gy (λx hx y hy=>h2 x hx y (by simp[hy]));rw[Ng,Eu]at this;rw[this];rfl
  |cons x A1=>
   cases B1 with
   |nil=>
    rw[Pm,Eu]
    cases B2 with
    |nil=>simp[Pm]
    |cons y B2=>
     have el:=h1 x Gy y Gy;rw[Er,Nr el];have:=ih A1 A2 [] (y::B2) (by simp at hn⊢;omega) (λx hx y hy=>h1 x (by simp[hx]) y hy) Gy;rw[Pm,Eu]at this;rw[this];rfl
   |cons y B1=>
    by_cases el:t x<=t y
    ·rw[Er,Er,Nr el,Nr el];have:=ih A1 A2 (y::B1) B2 (by simp at hn⊢;omega) (λx hx y hy=>h1 x (by simp[hx]) y hy) h2;rw[Er]at this;rw[this];rfl
    ·rw[Er,Er,Ms Gv,Ms Gv];have:=ih (x::A1) A2 B1 B2 (by simp at hn⊢;omega) h1 (λx hx y hy=>h2 x hx y (by simp[hy]));rw[Er]at this;rw[this];rfl
def aV (A1 A2 B1 B2:List α) (h1:∀x∈A1,∀y∈B2,t x<=t y) (h2:∀x∈A2,∀y∈B1,t y<t x):mrg t (A1++A2) (B1++B2)=mrg t A1 B1++mrg t A2 B2:=
 iB _ A1 A2 B1 B2 (Am _) h1 h2
def gZ (n:Nat):∀(A B C:List α),A.length+B.length+C.length<=n->mrg t (mrg t A B) C=mrg t A (mrg t B C):=by
 induction n with
 |zero=>
  intro A B C hn;have h1:A=[]:=Et.1 Gv;have h2:B=[]:=Et.1 Gv;subst h1 h2;simp[Ng]
 |succ n ih=>
  intro A B C hn
  cases A with
  |nil=>simp[Ng]
  |cons a A=>
   cases B with
   |nil=>simp[Ng,Pm]
   |cons b B=>
    cases C with
    |nil=>simp[Pm]
    |cons c C=>
     simp only[Eo]at hn;by_cases fd:t a<=t b
     ·rw[Nr fd];by_cases hac:t a<=t c
      ·rw[Nr hac,ih A (b::B) (c::C) Hv];by_cases K1:t b<=t c
       ·rw[Nr K1,Nr fd]
       ·rw[Ms Gv,Nr hac]
      ·rw[Ms Gv,Ms (show t c<t b by omega),Ms Gv,<-Nr fd,ih (a::A) (b::B) C Hv]
     ·rw[Ms (show t b<t a by omega)];by_cases K1:t b<=t c
      ·rw[Nr K1,Nr K1,Ms Gv,ih (a::A) B (c::C) Hv]
      ·rw[Ms Gv,Ms (show t c<t b by omega),Ms Gv,<-Ms (show t b<t a by omega),ih (a::A) (b::B) C Hv]
def Ah8 (A B C:List α):mrg t (mrg t A B) C=mrg t A (mrg t B C):=gZ _ A B C (Am _)
def Aa9 (A B:List α):srt t (A++B)=mrg t (srt t A) (srt t B):=by
 induction A with
 |nil=>simp[srt,Ng]
 |cons x A ih=>simp only[Er,srt,ih,Ah8]
def Ab0 (x:α):srt t [x]=[x]:=by simp[srt,Pm]
def Qq (A:List α):(srt t A).length=A.length:=by
 induction A with
 |nil=>rfl
 |cons x A ih=>simp[srt,zP,ih];omega
def Bg3 (x:α):Pn t [x]:=List.pairwise_singleton _ _
def Zr (A:List α):Pn t (srt t A):=by
 induction A with
 |nil=>exact List.Pairwise.nil
 |cons x A ih=>exact Bm8 (Bg3 x) ih
def yD {A B:List α}:Pn t (A++B)↔Pn t A/\Pn t B/\∀x∈A,∀y∈B,t x<=t y:=List.pairwise_append
def Rv {A:List α} (h:Pn t A) (hi:i<A.length) (hj:j<A.length) (FB:i<=j):t A[i]<=t A[j]:=by
 rcases Nat.lt_or_eq_of_le FB with ac|rfl
 ·exact List.pairwise_iff_getElem.1 h i j hi hj ac
 ·exact Int.le_refl _
def fQ {S1 S2:List α} {x:α} (h1:∀y∈S1,t y<=t x) (h2:∀y∈S2,t x<t y):mrg t (S1++S2) [x]=S1++x::S2:=by
 have:=aV (t:=t) S1 S2 [x] [] Gy (by simpa using h2);rw[Ff,Pm,zN (a:=S1) (b:=[x]) (by simpa using h1)]at this;rw[this,Bj];rfl
def Ah9 {S1 S2:List α} {x:α} (h1:∀y∈S1,t y<t x) (h2:∀y∈S2,t x<=t y):mrg t [x] (S1++S2)=S1++x::S2:=by
 have:=aV (t:=t) [] [x] S1 S2 Gy (by simpa using h1);rw[Eu,Ng,zN (a:=[x]) (b:=S2) (by simpa using h2)]at this;rw[this];rfl
def Bm9 {A B:List α} (ha:Pn t A) (hb:Pn t B) (hp:p<=A.length) (hq:q<=B.length)
  (h1:p=0∨q=B.length∨∃x y,A[p-1]? =Af x/\B[q]? =Af y/\t x<=t y) (h2:p=A.length∨q=0∨∃x y,A[p]? =Af x/\B[q-1]? =Af y/\t y<t x):
  mrg t A B=mrg t (A.take p) (B.take q)++mrg t (A.drop p) (B.drop q):=by
 conv=>lhs;rw[<-Fe p A,<-Fe q B]
 refine aV _ _ _ _ ?_ ?_
 ·intro x hx y hy;obtain⟨i,hi,rfl⟩:=Be.1 hx;obtain⟨j,hj,rfl⟩:=Be.1 hy;simp only[Bm,Dy]at hi hj;rw[Dd,List.getElem_drop];rcases h1 with h|h|⟨u,v,hu,hv,huv⟩
  ·omega
  ·omega
  ·obtain⟨IL,rfl⟩:=Ax.1 hu;obtain⟨hqv,rfl⟩:=Ax.1 hv;have e1:=Rv ha (i:=i) (j:=p-1) Gv IL Gv;have e2:=Rv hb (i:=q) (j:=q+j) hqv Gv Gv;omega
 ·intro x hx y hy;obtain⟨i,hi,rfl⟩:=Be.1 hx;obtain⟨j,hj,rfl⟩:=Be.1 hy;simp only[Bm,Dy]at hi hj;rw[Dd,List.getElem_drop];rcases h2 with h|h|⟨u,v,hu,hv,huv⟩
  ·omega
  ·omega
  ·obtain⟨IL,rfl⟩:=Ax.1 hu;obtain⟨hqv,rfl⟩:=Ax.1 hv;have e1:=Rv ha (i:=p) (j:=p+i) IL Gv Gv;have e2:=Rv hb (i:=j) (j:=q-1) Gv hqv Gv;omega
end
def Pq {a b c:Aj} (h:a.grownBy b (Af g)) (k:Below b.heap.size b c):a.grownBy c (Af g):=
 ⟨k.os.trans h.os,k.tape.trans h.tape,k.output.trans h.output,Bt h.size k.size,λi hi hne=>(k.block i (Br hi h.size)).trans (h.block i hi hne)⟩
def Kj (P S1:List Sr) (x:Sr) (S2 R:List Sr):List Sr:=P++(S1++x::S2)++R
def zB (P S1:List Sr) (y x:Sr) (S2 R:List Sr) (hp:p=P.length+S1.length+1) (hq:q=P.length+S1.length):
  (Kj P (S1++[y]) x S2 R)[p]? =Af x/\(Kj P (S1++[y]) x S2 R)[q]? =Af y/\((Kj P (S1++[y]) x S2 R).set p y).set q x=Kj P S1 x (y::S2) R:=by
 have e1:Kj P (S1++[y]) x S2 R=(P++S1)++y::([]++x::(S2++R)):=by simp[Kj]
 have e2:Kj P S1 x (y::S2) R=(P++S1)++x::([]++y::(S2++R)):=by simp[Kj]
 obtain⟨h1,h2,h3⟩:=Zv (P++S1) [] (S2++R) y x (i:=q) (j:=p) Hv Hv;rw[e1,e2];refine⟨h2,h1,?_⟩;rw[<-h3,List.set_comm _ _ Gv]
def cG {a b:Aj} {r:Option Nat} (h:a.grownBy b r) (n:Nat):a.grownBy (b.drewN n) r:=⟨h.os,h.tape,h.output,h.size,h.block⟩
def Tb (P S1:List Sr) (x:Sr) (S2 R:List Sr):(Kj P S1 x S2 R).length=P.length+S1.length+1+S2.length+R.length:=by
 simp[Kj];omega
def Xb (base g n cap cc:Nat) (P X S:List Sr) (a b:Nat) (w:Aj) (ha:a=P.length) (hb:b=P.length+X.length) (hn:n=P.length+X.length+S.length) (hl:n<=1000000000)
  (aa:w.ownsRow base 92 4 (Ad (Af ⟨g,0,Ae⟩) n cap) n (recs (P++X++S))):
  Al Dp 215 #[Ad (Af ⟨g,0,Ae⟩) n cc,a,b,.func (.func 123) #[] #[]] w (Lm base g n cap (P++srt Sr.t X++S) w):=by
 have HA:=Ah ha;have HB:=Ah hb;have HN:=Ah hn;have HO:=Ah aa;have fd:a<=b:=Gv;have NH:b<=n:=Gv;clear ha hb hn aa;go_in;go_wp2
 go_loopw [8,9] (λs _ wr=>∃q i:Nat,1<=q/\a+q<=b+1/\i=a+q/\s= Aa Ab i/\wr.ownsRow base 92 4 (Ad (Af ⟨g,0,Ae⟩) n cap) n (recs (P++(srt Sr.t (X.take q)++X.drop q)++S))/\w.grownBy wr (Af g)) (λs _ _=>b+1-(intOf s).toNat)
 case atStart=>
  refine⟨1,a+1,Gv,Gv,rfl,by go_num,?_,Jo _ _⟩
  have e:srt Sr.t (X.take 1)++X.drop 1=X:=by
   cases X with
   |nil=>rfl
   |cons x X=>simp[Ab0]
  rw[e];exact HO.out
 obtain⟨q,i,YN,KF,hi,rfl,aa,gn⟩:=hrel;have HI:=Ah hi;by_cases ac:a+q<b
 ·have O9:(i:Int)<(b:Int):=Gv;have fw:a<i:=Gv;clear hi;have hqx:q<X.length:=by have:=HA.out;have:=HB.out;omega
  obtain⟨x,hx⟩:=ey (X[q]);have hsrt:srt Sr.t (X.take (q+1))=mrg Sr.t (srt Sr.t (X.take q)) [x]:=by rw[Bc hqx,Aa9,hx,Ab0]
  have BN:Pn Sr.t (srt Sr.t (X.take q)):=Zr _;have hlen:(srt Sr.t (X.take q)).length=q:=by rw[Qq,Bm];omega
  rw[Gp hqx,hx]at aa;obtain⟨R,hR⟩:=ez (X.drop (q+1)++S);have hRl:R.length=X.length-(q+1)+S.length:=by rw[hR];simp
  have YI:wr.ownsRow base 92 4 (Ad (Af ⟨g,0,Ae⟩) n cap) n (recs (Kj P (srt Sr.t (X.take q)) x [] R)):=by
   have e:Kj P (srt Sr.t (X.take q)) x [] R=P++(srt Sr.t (X.take q)++x::X.drop (q+1))++S:=by rw[hR];simp[Kj]
   rw[e];exact aa
  have j6:=Ah YI;have qz:=Ah hsrt;have HASC:=Ah BN;have IY:=Ah hlen;have HR:=Ah hR;have CS:=Ah hRl;clear aa YI hsrt BN hlen hR hRl hx HO;go_wp2_with fail;obtain⟨wo,rfl⟩:∃wo:Aj,wo=wr:=⟨_,rfl⟩
  go_loopw [9] (λs wr=>∃(S1 S2:List Sr) (j:Nat),j=a+S1.length/\s= Aa Ab j/\srt Sr.t (X.take q)=S1++S2/\(∀y∈S2,x.t<y.t)/\wr.ownsRow base 92 4 (Ad (Af ⟨g,0,Ae⟩) n cap) n (recs (Kj P S1 x S2 R))/\w.grownBy wr (Af g)) (λs _=>(intOf s).toNat)
  case atStart=>
   refine⟨srt Sr.t (X.take q),[],i,?_,rfl,Gy,Gy,j6.out,gn⟩;rw[IY.out];exact HI.out
  obtain⟨S1,S2,j,hj,rfl,sc,lq,aa,vh⟩:=hrel;have zy:S1.length+S2.length=q:=by rw[<-IY.out,sc];simp
  have zc:=Ah sc;have FZ:=Ah lq;have jg:n=(Kj P S1 x S2 R).length:=by rw[Tb];have:=HN.out;have:=CS.out;omega
  clear sc lq gn j6;rcases List.eq_nil_or_concat S1 with rfl|⟨S1,y,rfl⟩
  ·have hd:decide (((a:Int))<((a:Int)))=false:=Gy;have pi:=Ah aa;have ZT:=Ah jg;have HL12:=Ah zy;clear aa jg zy;simp only[Cs,Df]at hj;subst hj;go_wp2
   go_quiet (fail)
   go_wp2
   go_roundw
   case rel=>
    refine⟨q+1,i+1,Gv,Gv,by have:=HI.out;omega,by go_num,?_,cG vh _⟩
    have e:P++(srt Sr.t (X.take (q+1))++X.drop (q+1))++S=Kj P [] x S2 R:=by
     rw[qz.out,zc.out,fQ (S1:=[]) (S2:=S2) (x:=x) Gy FZ.out,HR.out];simp[Kj]
    rw[e];exact pi.out
   case measure=>simp[intOf];omega
  ·have ig:(S1.concat y).length=S1.length+1:=Gy;simp only[List.concat_eq_append]at aa jg zc zy;obtain⟨p,hp⟩:=ez (a+S1.length);obtain⟨r,hr⟩:=ez (p+1);obtain⟨g1,g2,g3⟩:=zB P S1 y x S2 R (p:=r) (q:=p) (oHx HA.out) (oHx HA.out);obtain⟨⟨c0,c1,c2,c3⟩,z0,z1,z2,z3⟩:=Ln aa jg g1;obtain⟨⟨d0,d1,d2,d3⟩,y0,y1,y2,y3⟩:=Ln aa jg g2
   have oh:r<n:=by
    have:=Tb P (S1++[y]) x S2 R;rw[<-jg,Bh]at this;have h1:[y].length=1:=rfl;have h2:=HA.out;omega
   have pi:=Ah aa;have e0:r=j:=by rw[ig]at hj;omega
   have e1:(a:Int)<(r:Int):=Gv;have e1':decide ((a:Int)<(r:Int))=true:=by simpa using e1
   have e2:Ab.wrap ((r:Int)-1)=(p:Int):=by rw[Cb _ Gv];omega
   have e3:(p:Int)<(n:Int):=Gv;have e4:(r:Int)<(n:Int):=Gv;have e5:(0:Int)<=(p:Int):=Gv;have e6:(0:Int)<=(r:Int):=Gv;have HP:=Ah hp;have jn:=Ah hr;have G3:=Ah g3;subst e0;have ZT:=Ah jg;have HL12:=Ah zy;have G1:=Ah g1;have G2:=Ah g2;clear aa g1 g2 g3 hp hr hj ig jg zy;go_wp2
   go_still_tail 14,Gx
   change wpList _ _ _ _ _ wr.drew;go_wp2_with fail;refine(Wa x y _).mono ?_;rintro e w2 ⟨rfl,aj⟩;have ai:=Hz pi.out.drew (Am _) aj;have ef:w.grownBy w2 (Af g):=Pq (Rg vh) aj;clear c0 c1 c2 c3 d0 d1 d2 d3 z0 z1 z2 z3 y0 y1 y2 y3 aj vh;by_cases el:x.t<y.t
   ·rw[Tv el];have kr:=Ah el;obtain⟨⟨c0,c1,c2,c3⟩,z0,z1,z2,z3⟩:=Ln ai ZT.out G1.out;obtain⟨⟨d0,d1,d2,d3⟩,y0,y1,y2,y3⟩:=Ln ai ZT.out G2.out;have FQ:=Wt (a:=x) (b:=y) (i:=r) (j:=p) ai (by rw[<-ZT.out];omega) (by rw[<-ZT.out];omega);rw[G3.out]at FQ;have uy:=Ah FQ;have fi:¬p=r:=oHx jn.out;have hrp:¬r=p:=λh=>fi h.symm;clear el FQ ai;go_wp2
    go_region
    obtain⟨h1,h2⟩:=uy.out;clear uy c0 c1 c2 c3 d0 d1 d2 d3 z0 z1 z2 z3 y0 y1 y2 y3;generalize ((((((((w2.setCell _ _).setCell _ _).setCell _ _).setCell _ _).setCell _ _).setCell _ _).setCell _ _).setCell _ _).drew=W3 at h1 h2⊢;have H1:=Ah h1;have H2:=Ah (Ks ef h2);clear h1 h2 ef;go_wp2
    go_roundw
    case rel=>
     refine⟨S1,y::S2,p,HP.out,rfl,?_,?_,H1.out,H2.out⟩
     ·rw[zc.out];simp
     ·intro u hu;rcases Bk.1 hu with rfl|hu
      ·exact kr.out
      ·exact FZ.out u hu
    case measure=>have:=jn.out;simp[intOf];omega
   ·have hc:Ik x.t y.t=0∨Ik x.t y.t=1:=by unfold Ik;rw[Ha el];split<;>simp
    have BP:decide (Ik x.t y.t<0)=false:=by rcases hc with hc|hc<;>rw[hc]<;>rfl
    have kr:=Ah el;have jm:=Ah ai;clear el hc ai;go_wp2
    go_roundw
    case rel=>
     refine⟨q+1,i+1,Gv,Gv,by have:=HI.out;omega,by go_num,?_,ef⟩;have BN:=HASC.out;rw[zc.out]at BN;obtain⟨ER,H_,_⟩:=yD.1 BN;obtain⟨_,_,ha3⟩:=yD.1 ER;have hle:y.t<=x.t:=oHx kr.out
     have e:P++(srt Sr.t (X.take (q+1))++X.drop (q+1))++S=Kj P (S1++[y]) x S2 R:=by
      rw[qz.out,zc.out,fQ (S1:=S1++[y]) (S2:=S2) (x:=x) ?_ FZ.out,HR.out]
      ·simp[Kj]
      ·intro u hu;rcases Bl.1 hu with hu|hu
       ·exact Int.le_trans (ha3 u hu y Gy) hle
       ·rw[Gf]at hu;subst hu;exact hle
     rw[e];exact jm.out
    case measure=>simp[intOf];omega
 ·have hle:X.length<=q:=by have:=HA.out;have:=HB.out;omega
  have e:P++(srt Sr.t (X.take q)++X.drop q)++S=P++srt Sr.t X++S:=by
   rw[Bg hle,Cu hle,Ff]
  rw[e]at aa;have jm:=Ah aa;have O9:¬(i:Int)<(b:Int):=Gv;clear aa e hi;go_wp2_with fail
  go_end0
  refine⟨rfl,?_,gn⟩;rw[<-Bj];exact jm.out
def Au8 (P S1:List Sr) (y x:Sr) (S2 R:List Sr) (hp:p=P.length+S1.length) (hq:q=P.length+S1.length+1):
  (Kj P S1 x (y::S2) R)[p]? =Af x/\(Kj P S1 x (y::S2) R)[q]? =Af y/\((Kj P S1 x (y::S2) R).set p y).set q x=Kj P (S1++[y]) x S2 R:=by
 have e1:Kj P S1 x (y::S2) R=(P++S1)++x::([]++y::(S2++R)):=by simp[Kj]
 have e2:Kj P (S1++[y]) x S2 R=(P++S1)++y::([]++x::(S2++R)):=by simp[Kj]
 rw[e1,e2];exact Zv (P++S1) [] (S2++R) x y Hv Hv
def Yr {P B S:List Sr} (hi:i<B.length) (hk:k=P.length+i):(P++B++S)[k]? =Af B[i]:=by
 subst hk;rw[Bj,Eg Gv,Nat.add_sub_cancel_left,Fk hi,Aw hi]
def Au9 {P S1:List Sr} {x:Sr} {S2 R:List Sr} (hi:i<S2.length) (hk:k=P.length+S1.length+1+i):(Kj P S1 x S2 R)[k]? =Af S2[i]:=by
 have e:Kj P S1 x S2 R=(P++S1++[x])++S2++R:=by simp[Kj]
 rw[e];exact Yr hi Hv
def Af7 {P S1:List Sr} {x:Sr} {S2 R:List Sr} (hi:i<S1.length) (hk:k=P.length+i):(Kj P S1 x S2 R)[k]? =Af S1[i]:=by
 have e:Kj P S1 x S2 R=P++S1++(x::S2++R):=by simp[Kj]
 rw[e];exact Yr hi hk
def Av0 {P S1:List Sr} {x:Sr} {S2 R:List Sr} (hk:k=P.length+S1.length):(Kj P S1 x S2 R)[k]? =Af x:=by
 have e:Kj P S1 x S2 R=(P++S1)++[x]++(S2++R):=by simp[Kj]
 rw[e];exact Yr (B:=[x]) (i:=0) Gy Hv
def Am7 (base g n cap cc:Nat) (P B S:List Sr) (x:Sr) (a m b:Nat) (w:Aj) (ha:a=P.length) (hm:m=P.length+1) (hb:b=P.length+1+B.length) (hn:n=P.length+1+B.length+S.length) (hl:n<=1000000000) (hB:Pn Sr.t B)
  (aa:w.ownsRow base 92 4 (Ad (Af ⟨g,0,Ae⟩) n cap) n (recs (Kj P [] x B S))):
  Al Dp 229 #[Ad (Af ⟨g,0,Ae⟩) n cc,a,m,b,.func (.func 123) #[] #[]] w (Lm base g n cap (P++mrg Sr.t [x] B++S) w):=by
 obtain⟨D',vb⟩:=ez (P++mrg Sr.t [x] B++S);rw[<-vb];have HD:=Ah vb;have HA:=Ah ha;have HM:=Ah hm;have HB:=Ah hb;have HN:=Ah hn;have HO:=Ah aa;have ir:=Ah hB;have fd:a<m:=Gv;have QV:m<=b:=Gv;have NH:b<=n:=Gv;have e1:(m:Int)-(a:Int)=1:=Gv;have e1b:((m:Int)-(a:Int)==1)=true:=by simpa using e1
 clear ha hm hb hn aa hB e1 vb;go_in;go_wp2
 go_loopw [10,11,12] (λVR vy _ wr=>∃i j:Nat,m<=i/\i<=j/\j<=b/\VR= Aa Ab i/\vy= Aa Ab j/\Hid (∀q y,q+m<i->B[q]? =Af y->y.t<x.t)/\Hid (∀q y,j<=q+m->B[q]? =Af y->x.t<=y.t)/\wr.ownsRow base 92 4 (Ad (Af ⟨g,0,Ae⟩) n cap) n (recs (Kj P [] x B S))/\w.grownBy wr (Af g)) (λVR vy _ _=>(intOf vy).toNat-(intOf VR).toNat)
 case atStart=>
  refine⟨m,b,Gv,Gv,Gv,rfl,rfl,Ah (λq y h=>Gv),Ah (λq y h hy=>?_),HO.out,Jo _ _⟩;have:=(Ax.1 hy).1;have:=HB.out;have:=HM.out;omega
 obtain⟨i,j,hmi,FB,hjb,rfl,rfl,H1,H2,aa,gn⟩:=hrel;have jg:n=(Kj P [] x B S).length:=by rw[Tb];have:=HN.out;simp;omega
 by_cases ac:i<j
 ·obtain⟨h,hh⟩:=ez ((i+j)/2);have M5:h-m<B.length:=by have:=HB.out;have:=HM.out;omega
  have gh:=Au9 (P:=P) (S1:=[]) (x:=x) (R:=S) (k:=h) M5 (by have:=HM.out;simp;omega);have ga:=Av0 (P:=P) (S1:=[]) (x:=x) (S2:=B) (R:=S) (k:=a) (by have:=HA.out;simp;omega);obtain⟨y,hy⟩:=ey (B[h-m]);rw[hy]at gh;obtain⟨⟨c0,c1,c2,c3⟩,_⟩:=Ln aa jg gh;obtain⟨⟨d0,d1,d2,d3⟩,_⟩:=Ln aa jg ga;have pi:=Ah aa;have HY:=Ah hy;have HH:=Ah hh;have ZT:=Ah jg;have q1:(i:Int)<(j:Int):=Gv;have q2:((i:Int)+(j:Int))/2=(h:Int):=Gv;have q3:(h:Int)<(n:Int):=Gv;have q4:(a:Int)<(n:Int):=Gv;have q5:i<=h:=Gv;have q6:h<j:=Gv;clear aa hy hh gh ga jg;go_wp2
  go_still_tail 9,Gx
  change wpList _ _ _ _ _ wr.drew;go_wp2_with fail;refine(Wa y x _).mono ?_;rintro e w2 ⟨rfl,aj⟩;have ai:=Hz pi.out.drew (Am _) aj;have ef:w.grownBy w2 (Af g):=Pq (Rg gn) aj;clear c0 c1 c2 c3 d0 d1 d2 d3 aj gn q2;by_cases el:y.t<x.t
  ·rw[Tv el];have kr:=Ah el;have jm:=Ah ai;clear el ai;go_wp2
   go_roundw
   case rel=>
    refine⟨h+1,j,Gv,Gv,Gv,by go_num,rfl,Ah (λq u hq hu=>?_),H2,jm.out,ef⟩;obtain⟨VB,rfl⟩:=Ax.1 hu;have h3:=Rv ir.out (i:=q) (j:=h-m) VB M5 Gv;rw[HY.out]at h3;have:=kr.out;omega
   case measure=>simp[intOf];omega
  ·have hc:Ik y.t x.t=0∨Ik y.t x.t=1:=by unfold Ik;rw[Ha el];split<;>simp
   have BP:decide (Ik y.t x.t<0)=false:=by rcases hc with hc|hc<;>rw[hc]<;>rfl
   have kr:=Ah el;have jm:=Ah ai;clear el hc ai;go_wp2
   go_roundw
   case rel=>
    refine⟨i,h,Gv,Gv,Gv,rfl,rfl,H1,Ah (λq u hq hu=>?_),jm.out,ef⟩;obtain⟨VB,rfl⟩:=Ax.1 hu;have h3:=Rv ir.out (i:=h-m) (j:=q) M5 VB Gv;rw[HY.out]at h3;have:=kr.out;omega
   case measure=>simp[intOf];omega
 ·obtain rfl:i=j:=Gv
  have am:D'=Kj P (B.take (i-m)) x (B.drop (i-m)) S:=by
   have e:=Ah9 (t:=Sr.t) (S1:=B.take (i-m)) (S2:=B.drop (i-m)) (x:=x) (λu hu=>by
    obtain⟨q,hq,rfl⟩:=Be.1 hu;rw[Bm]at hq;rw[Dd];exact H1.out q _ Gv (Aw Gv)) (λu hu=>by
    obtain⟨q,hq,rfl⟩:=Be.1 hu;rw[Dy]at hq;rw[List.getElem_drop];exact H2.out (i-m+q) _ Gv (Aw Gv))
   rw[Fe]at e;rw[HD.out,e];rfl
  have HF:=Ah am;have pi:=Ah aa;have hib:i-m<=B.length:=by have:=HB.out;have:=HM.out;omega
  clear am aa jg H1 H2;go_wp2_with fail;obtain⟨wo,rfl⟩:∃wo:Aj,wo=wr:=⟨_,rfl⟩
  go_loopw [13] (λKO wr=>∃k q:Nat,k=a+q/\q<=i-m/\KO= Aa Ab k/\wr.ownsRow base 92 4 (Ad (Af ⟨g,0,Ae⟩) n cap) n (recs (Kj P (B.take q) x (B.drop q) S))/\w.grownBy wr (Af g)) (λKO _=>i-(intOf KO).toNat)
  case atStart=>exact⟨a,0,Gv,Gv,rfl,by simpa using pi.out,gn⟩
  obtain⟨k,q,hk,hq,rfl,aa,vh⟩:=hrel;have HK:=Ah hk;by_cases fw:q<i-m
  ·obtain⟨r,hr⟩:=ez (k+1);have V_:q<B.length:=Gv;obtain⟨y,hy⟩:=ey (B[q]);rw[Gp V_,hy]at aa;have LQ:(B.take q).length=q:=by rw[Bm];omega
   obtain⟨g1,g2,g3⟩:=Au8 P (B.take q) y x (B.drop (q+1)) S (p:=k) (q:=r) (by rw[LQ];have:=HA.out;omega) (by rw[LQ];have:=HA.out;omega);have jg:n=(Kj P (B.take q) x (y::B.drop (q+1)) S).length:=by rw[Tb,LQ];have:=HN.out;simp;omega
   obtain⟨⟨c0,c1,c2,c3⟩,z0,z1,z2,z3⟩:=Ln aa jg g1;obtain⟨⟨d0,d1,d2,d3⟩,y0,y1,y2,y3⟩:=Ln aa jg g2;have FQ:=Wt (a:=x) (b:=y) (i:=k) (j:=r) aa (by rw[<-jg];omega) (by rw[<-jg];omega);have et:B.take q++[y]=B.take (q+1):=by rw[Bc V_,hy]
   rw[g3,et]at FQ;have uy:=Ah FQ;have e2:Ab.wrap ((k:Int)+1)=(r:Int):=by rw[Cb _ Gv];omega
   have e3:(k:Int)<(n:Int):=Gv;have e4:(r:Int)<(n:Int):=Gv;have e5:(0:Int)<=(k:Int):=Gv;have e6:(0:Int)<=(r:Int):=Gv;have e7:(k:Int)<(i:Int)-1:=Gv;have O4:¬k=r:=Gv;have hrk:¬r=k:=Gv;have HR:=Ah hr;clear FQ aa g1 g2 g3 jg LQ et hy hr hk;go_wp2
   go_region
   obtain⟨h1,h2⟩:=uy.out;clear uy c0 c1 c2 c3 d0 d1 d2 d3 z0 z1 z2 z3 y0 y1 y2 y3;generalize ((((((((wr.setCell _ _).setCell _ _).setCell _ _).setCell _ _).setCell _ _).setCell _ _).setCell _ _).setCell _ _).drew=W3 at h1 h2⊢;have H1:=Ah h1;have H2:=Ah (Ks vh h2);clear h1 h2 vh;go_wp2
   go_roundw
   case rel=>exact⟨r,q+1,by have:=HR.out;have:=HK.out;omega,Gv,rfl,H1.out,H2.out⟩
   case measure=>have:=HR.out;simp[intOf];omega
  ·obtain rfl:q=i-m:=Gv;have e7:¬(k:Int)<(i:Int)-1:=by have:=HA.out;have:=HM.out;omega
   have ak:=aa;rw[<-HF.out]at ak;have jm:=Ah ak;clear aa ak hk;go_wp2_with fail
   go_end0
   exact⟨rfl,jm.out,vh⟩
def Bd4 (base g n cap cc:Nat) (P B S:List Sr) (x:Sr) (a m b:Nat) (w:Aj) (ha:a=P.length) (hm:m=P.length+B.length) (hb:b=P.length+B.length+1) (hn:n=P.length+B.length+1+S.length) (dm:2<=B.length) (hl:n<=1000000000) (hB:Pn Sr.t B)
  (aa:w.ownsRow base 92 4 (Ad (Af ⟨g,0,Ae⟩) n cap) n (recs (Kj P B x [] S))):
  Al Dp 229 #[Ad (Af ⟨g,0,Ae⟩) n cc,a,m,b,.func (.func 123) #[] #[]] w (Lm base g n cap (P++mrg Sr.t B [x]++S) w):=by
 obtain⟨D',vb⟩:=ez (P++mrg Sr.t B [x]++S);rw[<-vb];have HD:=Ah vb;have HA:=Ah ha;have HM:=Ah hm;have HB:=Ah hb;have HN:=Ah hn;have HO:=Ah aa;have ir:=Ah hB;have fd:a<m:=Gv;have QV:m<=b:=Gv;have NH:b<=n:=Gv;have e1b:((m:Int)-(a:Int)==1)=false:=Hv;have e2b:((b:Int)-(m:Int)==1)=true:=Hv;clear ha hm hb hn aa hB vb;go_in;go_wp2
 go_loopw [14,15,16] (λVR vy _ wr=>∃i j:Nat,a<=i/\i<=j/\j<=m/\VR= Aa Ab i/\vy= Aa Ab j/\Hid (∀q y,q+a<i->B[q]? =Af y->y.t<=x.t)/\Hid (∀q y,j<=q+a->B[q]? =Af y->x.t<y.t)/\wr.ownsRow base 92 4 (Ad (Af ⟨g,0,Ae⟩) n cap) n (recs (Kj P B x [] S))/\w.grownBy wr (Af g)) (λVR vy _ _=>(intOf vy).toNat-(intOf VR).toNat)
 case atStart=>
  refine⟨a,m,Gv,Gv,Gv,rfl,rfl,Ah (λq y h=>Gv),Ah (λq y h hy=>?_),HO.out,Jo _ _⟩;have:=(Ax.1 hy).1;have:=HA.out;have:=HM.out;omega
 obtain⟨i,j,hmi,FB,hjb,rfl,rfl,H1,H2,aa,gn⟩:=hrel;have jg:n=(Kj P B x [] S).length:=by rw[Tb];have:=HN.out;simp;omega
 by_cases ac:i<j
 ·obtain⟨h,hh⟩:=ez ((i+j)/2);have M5:h-a<B.length:=by have:=HA.out;have:=HM.out;omega
  have gh:=Af7 (P:=P) (x:=x) (S2:=[]) (R:=S) (k:=h) M5 (oHx HA.out);have ga:=Av0 (P:=P) (S1:=B) (x:=x) (S2:=[]) (R:=S) (k:=m) (oHx HM.out);obtain⟨y,hy⟩:=ey (B[h-a]);rw[hy]at gh;obtain⟨⟨c0,c1,c2,c3⟩,_⟩:=Ln aa jg gh;obtain⟨⟨d0,d1,d2,d3⟩,_⟩:=Ln aa jg ga;have pi:=Ah aa;have HY:=Ah hy;have HH:=Ah hh;have ZT:=Ah jg;have q1:(i:Int)<(j:Int):=Gv;have q2:((i:Int)+(j:Int))/2=(h:Int):=Gv;have q3:(h:Int)<(n:Int):=Gv;have q4:(m:Int)<(n:Int):=by have:=HM.out;have:=HN.out;omega
  have q5:i<=h:=Gv;have q6:h<j:=Gv;clear aa hy hh gh ga jg;go_wp2
  go_still_tail 9,Gx
  change wpList _ _ _ _ _ wr.drew;go_wp2_with fail;refine(Wa x y _).mono ?_;rintro e w2 ⟨rfl,aj⟩;have ai:=Hz pi.out.drew (Am _) aj;have ef:w.grownBy w2 (Af g):=Pq (Rg gn) aj;clear c0 c1 c2 c3 d0 d1 d2 d3 aj gn q2;by_cases el:x.t<y.t
  ·rw[Tv el];have kr:=Ah el;have jm:=Ah ai;clear el ai;go_wp2
   go_roundw
   case rel=>
    refine⟨i,h,Gv,Gv,Gv,rfl,rfl,H1,Ah (λq u hq hu=>?_),jm.out,ef⟩;obtain⟨VB,rfl⟩:=Ax.1 hu;have h3:=Rv ir.out (i:=h-a) (j:=q) M5 VB Gv;rw[HY.out]at h3;have:=kr.out;omega
   case measure=>simp[intOf];omega
  ·have hc:Ik x.t y.t=0∨Ik x.t y.t=1:=by unfold Ik;rw[Ha el];split<;>simp
   have BP:decide (Ik x.t y.t<0)=false:=by rcases hc with hc|hc<;>rw[hc]<;>rfl
   have kr:=Ah el;have jm:=Ah ai;clear el hc ai;go_wp2
   go_roundw
   case rel=>
    refine⟨h+1,j,Gv,Gv,Gv,by go_num,rfl,Ah (λq u hq hu=>?_),H2,jm.out,ef⟩;obtain⟨VB,rfl⟩:=Ax.1 hu;have h3:=Rv ir.out (i:=q) (j:=h-a) VB M5 Gv;rw[HY.out]at h3;have:=kr.out;omega
   case measure=>simp[intOf];omega
 ·obtain rfl:i=j:=Gv
  have am:D'=Kj P (B.take (i-a)) x (B.drop (i-a)) S:=by
   have e:=fQ (t:=Sr.t) (S1:=B.take (i-a)) (S2:=B.drop (i-a)) (x:=x) (λu hu=>by
    obtain⟨q,hq,rfl⟩:=Be.1 hu;rw[Bm]at hq;rw[Dd];exact H1.out q _ Gv (Aw Gv)) (λu hu=>by
    obtain⟨q,hq,rfl⟩:=Be.1 hu;rw[Dy]at hq;rw[List.getElem_drop];exact H2.out (i-a+q) _ Gv (Aw Gv))
   rw[Fe]at e;rw[HD.out,e];rfl
  have HF:=Ah am;have pi:=Ah aa;have hib:i-a<=B.length:=by have:=HA.out;have:=HM.out;omega
  clear am aa jg H1 H2;go_wp2_with fail;obtain⟨wo,rfl⟩:∃wo:Aj,wo=wr:=⟨_,rfl⟩
  go_loopw [17] (λKO wr=>∃k q:Nat,k=a+q/\i-a<=q/\q<=B.length/\KO= Aa Ab k/\wr.ownsRow base 92 4 (Ad (Af ⟨g,0,Ae⟩) n cap) n (recs (Kj P (B.take q) x (B.drop q) S))/\w.grownBy wr (Af g)) (λKO _=>(intOf KO).toNat)
  case atStart=>exact⟨m,B.length,by have:=HA.out;have:=HM.out;omega,Gv,Gv,rfl,by simpa using pi.out,gn⟩
  obtain⟨k,q,hk,hq,V_,rfl,aa,vh⟩:=hrel;have HK:=Ah hk;by_cases fw:i-a<q
  ·obtain⟨r,hr⟩:=ez (k-1);have hqB':q-1<B.length:=Gv;obtain⟨y,hy⟩:=ey (B[q-1])
   have et:B.take q=B.take (q-1)++[y]:=by
    have:=Bc hqB';rw[hy,Nat.sub_add_cancel Gv]at this;exact this
   have ed:y::B.drop q=B.drop (q-1):=by
    have:=Gp hqB';rw[hy,Nat.sub_add_cancel Gv]at this;exact this.symm
   rw[et]at aa;have LQ:(B.take (q-1)).length=q-1:=by rw[Bm];omega
   obtain⟨g1,g2,g3⟩:=zB P (B.take (q-1)) y x (B.drop q) S (p:=k) (q:=r) (by rw[LQ];have:=HA.out;omega) (by rw[LQ];have:=HA.out;omega);have jg:n=(Kj P (B.take (q-1)++[y]) x (B.drop q) S).length:=by rw[Tb,Bh,LQ];have:=HN.out;simp;omega
   obtain⟨⟨c0,c1,c2,c3⟩,z0,z1,z2,z3⟩:=Ln aa jg g1;obtain⟨⟨d0,d1,d2,d3⟩,y0,y1,y2,y3⟩:=Ln aa jg g2;have ut:k<n:=by have:=HA.out;have:=HN.out;omega
   have FQ:=Wt (a:=x) (b:=y) (i:=k) (j:=r) aa (by rw[<-jg];omega) (by rw[<-jg];omega);rw[g3,ed]at FQ;have uy:=Ah FQ;have e2:Ab.wrap ((k:Int)-1)=(r:Int):=by rw[Cb _ Gv];omega
   have e3:(k:Int)<(n:Int):=Gv;have e4:(r:Int)<(n:Int):=Gv;have e5:(0:Int)<=(k:Int):=Gv;have e6:(0:Int)<=(r:Int):=Gv;have e7:(i:Int)<(k:Int):=Gv;have O4:¬k=r:=Gv;have hrk:¬r=k:=Gv;have HR:=Ah hr;clear FQ aa g1 g2 g3 jg LQ et ed hy hr hk;go_wp2
   go_region
   obtain⟨h1,h2⟩:=uy.out;clear uy c0 c1 c2 c3 d0 d1 d2 d3 z0 z1 z2 z3 y0 y1 y2 y3;generalize ((((((((wr.setCell _ _).setCell _ _).setCell _ _).setCell _ _).setCell _ _).setCell _ _).setCell _ _).setCell _ _).drew=W3 at h1 h2⊢;have H1:=Ah h1;have H2:=Ah (Ks vh h2);clear h1 h2 vh;go_wp2
   go_roundw
   case rel=>exact⟨r,q-1,by have:=HR.out;have:=HK.out;omega,Gv,Gv,rfl,H1.out,H2.out⟩
   case measure=>have:=HR.out;simp[intOf];omega
  ·obtain rfl:q=i-a:=Gv;have e7:¬(i:Int)<(k:Int):=Gv;have ak:=aa;rw[<-HF.out]at ak;have jm:=Ah ak;clear aa ak hk;go_wp2_with fail
   go_end0
   exact⟨rfl,jm.out,vh⟩
def yB (base g n cap cc c:Nat):Prop:=
 ∀(P A B S:List Sr) (a m b:Nat) (w:Aj),A.length+B.length<=c->0<A.length->0<B.length->a=P.length->m=P.length+A.length->b=P.length+A.length+B.length->n=P.length+A.length+B.length+S.length->Pn Sr.t A->Pn Sr.t B->
  w.ownsRow base 92 4 (Ad (Af ⟨g,0,Ae⟩) n cap) n (recs (P++A++B++S))->
  Al Dp 229 #[Ad (Af ⟨g,0,Ae⟩) n cc,a,m,b,.func (.func 123) #[] #[]] w (Lm base g n cap (P++mrg Sr.t A B++S) w)
def Cb7 (A B:List Sr) (a mid lo hi s r:Nat):Prop:=
 (s=lo∨∃x y,A[s-1-a]? =Af x/\B[mid-s]? =Af y/\x.t<=y.t)/\(r=hi∨∃x y,A[r-a]? =Af x/\B[mid-1-r]? =Af y/\y.t<x.t)
def Bp8 (base g n cap cc c:Nat) (hl:n<=1000000000) (IH:yB base g n cap cc c) (P A B S:List Sr) (a m b:Nat) (w:Aj) (hc:A.length+B.length<=c+1) (sq:2<=A.length) (dm:2<=B.length) (ha:a=P.length) (hm:m=P.length+A.length) (hb:b=P.length+A.length+B.length) (hn:n=P.length+A.length+B.length+S.length) (hA:Pn Sr.t A) (hB:Pn Sr.t B)
  (aa:w.ownsRow base 92 4 (Ad (Af ⟨g,0,Ae⟩) n cap) n (recs (P++A++B++S))):
  Al Dp 229 #[Ad (Af ⟨g,0,Ae⟩) n cc,a,m,b,.func (.func 123) #[] #[]] w (Lm base g n cap (P++mrg Sr.t A B++S) w):=by
 obtain⟨D',vb⟩:=ez (P++mrg Sr.t A B++S);rw[<-vb];have HD:=Ah vb;have HA:=Ah ha;have HM:=Ah hm;have HB:=Ah hb;have HN:=Ah hn;have HO:=Ah aa;have HAA:=Ah hA;have ir:=Ah hB;have fd:a+2<=m:=Gv;have QV:m+2<=b:=Gv;have NH:b<=n:=Gv;obtain⟨mid,JY⟩:=ez ((a+b)/2);have e1b:((m:Int)-(a:Int)==1)=false:=Hv;have e2b:((b:Int)-(m:Int)==1)=false:=Hv;have e3b:((a:Int)+(b:Int))/2=(mid:Int):=Gv;have JC:=Ah JY;have pm:a+2<=mid:=Gv;have OC:mid+2<=b:=Gv;have hm3:2*mid<=a+b:=Gv;have hm4:a+b<=2*mid+1:=Gv;have HC:=Ah hc;clear ha hm hb hn aa hA hB vb JY hc;go_in;go_upto_if 140 with fail;go_cut [20,21]from 138 to 146 (λFX PG wx=>∃lo hi:Nat,FX= Aa Ab lo/\PG= Aa Ab hi/\a<=lo/\lo<=hi/\hi<=m/\hi<=mid/\mid+m<=lo+b/\(lo=a∨lo+b=mid+m)/\(hi=m∨hi=mid)/\w=wx)
 case first=>
  by_cases lq:mid<m
  ·have M0:(mid:Int)<(m:Int):=Gv;go_wp2;go_meet;exact⟨mid+m-b,mid,by go_num,rfl,Gv,Gv,Gv,Gv,Gv,Gv,Gv,rfl⟩
  ·have M0:¬(mid:Int)<(m:Int):=Gv;go_wp2;go_meet;exact⟨a,m,rfl,rfl,Gv,Gv,Gv,Gv,Gv,Gv,Gv,rfl⟩
 obtain⟨lo,hi,rfl,rfl,l1,l2,l3,l4,l5,l6,l7,rfl⟩:=hcut;have L6:=Ah l6;have L7:=Ah l7;clear l6 l7;go_wp2
 go_loopw [20,21,23] (λFX PG _ wr=>∃s r:Nat,lo<=s/\s<=r/\r<=hi/\FX= Aa Ab s/\PG= Aa Ab r/\Cb7 A B a mid lo hi s r/\wr.ownsRow base 92 4 (Ad (Af ⟨g,0,Ae⟩) n cap) n (recs (P++A++B++S))/\w.grownBy wr (Af g)) (λFX PG _ _=>(intOf PG).toNat-(intOf FX).toNat)
 case atStart=>exact⟨lo,hi,Gv,Gv,Gv,rfl,rfl,⟨.inl rfl,.inl rfl⟩,HO.out,Jo _ _⟩
 obtain⟨s,r,r1,r2,r3,rfl,rfl,CE,aa,gn⟩:=hrel;have ze:=Ah CE;have pi:=Ah aa;clear CE aa;by_cases ac:s<r
 ·obtain⟨h,hh⟩:=ez ((s+r)/2);obtain⟨p,hp⟩:=ez (mid+m-1-h);have i1:h-a<A.length:=by have:=HM.out;have:=HA.out;omega
  have i2:mid-1-h<B.length:=by have:=HM.out;have:=HB.out;omega
  obtain⟨x,hx⟩:=ey (A[h-a]);obtain⟨y,hy⟩:=ey (B[mid-1-h])
  have gx:(P++A++B++S)[h]? =Af x:=by
   rw[Bj,<-hx];exact Yr i1 (oHx HA.out)
  have gy:(P++A++B++S)[p]? =Af y:=by
   rw[<-hy];exact Yr i2 (by have:=HM.out;simp;omega)
  have jg:n=(P++A++B++S).length:=by have:=HN.out;simp;omega
  obtain⟨⟨c0,c1,c2,c3⟩,_⟩:=Ln pi.out jg gx;obtain⟨⟨d0,d1,d2,d3⟩,_⟩:=Ln pi.out jg gy;have HX:=Ah hx;have HY:=Ah hy;have HH:=Ah hh;have q1:(s:Int)<(r:Int):=Gv;have q2:((s:Int)+(r:Int))/2=(h:Int):=Gv;have q3:(h:Int)<(n:Int):=Gv;have q4:(p:Int)<(n:Int):=Gv;have q7:=Cb (p:Int) Gv;have q8:(mid:Int)+(m:Int)-1-(h:Int)=(p:Int):=Gv;have q5:s<=h:=Gv;have q6:h<r:=Gv;clear hx hy hh hp gx gy jg;go_wp2
  go_still_tail 11,Gx
  change wpList _ _ _ _ _ wr.drew;go_wp2_with fail;refine(Wa y x _).mono ?_;rintro e w2 ⟨rfl,aj⟩;have ai:=Hz pi.out.drew (Am _) aj;have ef:w.grownBy w2 (Af g):=Pq (Rg gn) aj;have jm:=Ah ai;clear c0 c1 c2 c3 d0 d1 d2 d3 aj gn q2 q7 q8 ai;by_cases el:y.t<x.t
  ·rw[Tv el];have kr:=Ah el;clear el
   as_aux_lemma=>
    go_wp2
    go_roundw
    case rel=>
     refine⟨s,h,Gv,Gv,Gv,rfl,rfl,⟨ze.out.1,.inr ⟨x,y,?_,?_,kr.out⟩⟩,jm.out,ef⟩
     ·rw[Aw i1,HX.out]
     ·rw[Aw i2,HY.out]
    case measure=>simp[intOf];omega
  ·have hc:Ik y.t x.t=0∨Ik y.t x.t=1:=by unfold Ik;rw[Ha el];split<;>simp
   have BP:decide (Ik y.t x.t<0)=false:=by rcases hc with hc|hc<;>rw[hc]<;>rfl
   have kr:=Ah el;clear el hc
   as_aux_lemma=>
    go_wp2
    go_roundw
    case rel=>
     refine⟨h+1,r,Gv,Gv,Gv,by go_num,rfl,⟨.inr ⟨x,y,?_,?_,by have:=kr.out;omega⟩,ze.out.2⟩,jm.out,ef⟩
     ·rw[show h+1-1-a=h-a by omega,Aw i1,HX.out]
     ·rw[show mid-(h+1)=mid-1-h by omega,Aw i2,HY.out]
    case measure=>simp[intOf];omega
 ·obtain rfl:s=r:=Gv;obtain⟨en,tl⟩:=ez (mid+m-s);have YJ:s-a<=A.length:=by have:=HM.out;have:=HA.out;omega
  have V_:mid-s<=B.length:=by have:=HM.out;have:=HB.out;omega
  have T2:=Bm9 (t:=Sr.t) (p:=s-a) (q:=mid-s) HAA.out ir.out YJ V_ (by
   rcases ze.out.1 with h|⟨x,y,h1,h2,h3⟩
   ·rcases L6.out with h'|h'
    ·exact .inl Gv
    ·exact .inr (.inl (by have:=HM.out;have:=HB.out;omega))
   ·exact .inr (.inr ⟨x,y,by rw[show s-a-1=s-1-a by omega];exact h1,h2,h3⟩)) (by
   rcases ze.out.2 with h|⟨x,y,h1,h2,h3⟩
   ·rcases L7.out with h'|h'
    ·exact .inl (by have:=HM.out;have:=HA.out;omega)
    ·exact .inr (.inl Gv)
   ·exact .inr (.inr ⟨x,y,h1,by rw[show mid-s-1=mid-1-s by omega];exact h2,h3⟩))
  have TC:A.take (s-a)++A.drop (s-a)=A:=Fe _ _;have TF:B.take (mid-s)++B.drop (mid-s)=B:=Fe _ _;have D0:(A.take (s-a)).length=s-a:=by rw[Bm];omega
  have D8:(B.take (mid-s)).length=mid-s:=by rw[Bm];omega
  have D4:(A.drop (s-a)).length=m-s:=by rw[Dy];have:=HM.out;have:=HA.out;omega
  have E0:(B.drop (mid-s)).length=b-en:=by rw[Dy];have:=HM.out;have:=HB.out;omega
  have C9:Pn Sr.t (A.take (s-a)):=HAA.out.sublist (List.take_sublist _ _);have D3:Pn Sr.t (A.drop (s-a)):=HAA.out.sublist (List.drop_sublist _ _);have D7:Pn Sr.t (B.take (mid-s)):=ir.out.sublist (List.take_sublist _ _);have D9:Pn Sr.t (B.drop (mid-s)):=ir.out.sublist (List.drop_sublist _ _);obtain⟨A1,C8⟩:=ez (A.take (s-a));obtain⟨A2,sq⟩:=ez (A.drop (s-a));obtain⟨B1,jf⟩:=ez (B.take (mid-s));obtain⟨B2,dm⟩:=ez (B.drop (mid-s));rw[<-C8,<-sq,<-jf,<-dm]at T2;rw[<-C8]at TC D0 C9;rw[<-sq]at TC D4 D3;rw[<-jf]at TF D8 D7;rw[<-dm]at TF E0 D9
  have au:wr.ownsRow base 92 4 (Ad (Af ⟨g,0,Ae⟩) n cap) n (recs (P++A1++A2++B1++B2++S)):=by
   have e:P++A1++A2++B1++B2++S=P++A++B++S:=by rw[<-TC,<-TF];simp
   rw[e];exact pi.out
  have HSPL:=Ah T2;have zf:=Ah D0;have yb:=Ah D4;have zg:=Ah D8;have CT:=Ah E0;have SA1:=Ah C9;have SA2:=Ah D3;have SB1:=Ah D7;have SB2:=Ah D9;have EA:=Ah au;have yt:=Ah tl;have q1:¬(s:Int)<(s:Int):=Gv;have q2:(mid:Int)+(m:Int)-(s:Int)=(en:Int):=Gv;have q3:s<=mid:=Gv;have q4:mid<=en:=Gv;have q5:en<=b:=Gv;have q6:m<=en:=Gv;have q7:s<=m:=Gv;clear T2 D0 D4 D8 E0 C9 D3 D7 D9 C8 sq jf dm TC TF au ze L6 L7 pi HO tl YJ V_;obtain⟨cb,EW⟩:=ez (decide (s<m/\m<en));have Hcb:=Ah EW;clear EW;go_upto_region 39 with fail;go_cut [185]from 178 to 185 (λsb wx=>sb= .bool cb/\wr=wx)
  case first=>
   by_cases k1:s<m
   ·by_cases k2:m<en
    ·have ZG:(s:Int)<(m:Int):=Gv;have k2':(m:Int)<(en:Int):=Gv;go_wp2;go_meet;exact⟨by rw[Hcb.out,Ld ⟨k1,k2⟩],rfl⟩
    ·have ZG:(s:Int)<(m:Int):=Gv;have k2':¬(m:Int)<(en:Int):=Gv;go_wp2;go_meet;exact⟨by rw[Hcb.out,Me (λh=>k2 h.2)],rfl⟩
   ·have ZG:¬(s:Int)<(m:Int):=Gv;go_wp2;go_meet;exact⟨by rw[Hcb.out,Me (λh=>k1 h.1)],rfl⟩
  obtain⟨rfl,rfl⟩:=hcut;go_upto_if 185 with fail;go_cut [191]from 186 to 191 (λ_ wx=>wx.ownsRow base 92 4 (Ad (Af ⟨g,0,Ae⟩) n cap) n (recs (P++A1++B1++A2++B2++S))/\w.grownBy wx (Af g))
  case first=>
   cases cb
   ·go_wp2;go_meet;refine⟨?_,gn⟩;have hk:=of_decide_eq_false Hcb.out.symm
    have e:P++A1++B1++A2++B2++S=P++A1++A2++B1++B2++S:=by
     by_cases k1:s<m
     ·have:B1=[]:=Et.1 (by rw[zg.out];have:=yt.out;omega);subst this;simp
     ·have:A2=[]:=Et.1 (by rw[yb.out];omega);subst this;simp
    rw[e];exact EA.out
   ·have hk:=Sh Hcb.out.symm;have vq:=wK base g n cap cc (P++A1) A2 B1 (B2++S) s m en (.func (.func 123) #[] #[]) wr (by have:=HA.out;have:=zf.out;simp;omega) (by have:=HA.out;have:=zf.out;have:=yb.out;simp;omega) (by have:=HA.out;have:=zf.out;have:=yb.out;have:=zg.out;have:=yt.out;simp;omega) (by have:=HA.out;have:=HN.out;have:=HM.out;have:=HB.out;have:=zf.out;have:=yb.out;have:=zg.out;have:=CT.out;have:=yt.out;simp;omega) (by rw[yb.out];omega) (by rw[zg.out];have:=yt.out;omega) hl (by rw[<-Bj];exact EA.out);have e:P++A1++B1++A2++(B2++S)=P++A1++B1++A2++B2++S:=Gy;rw[e]at vq;have MM:=Ah vq;clear vq e hk;go_wp2_with fail;refine MM.out.mono ?_;rintro e w2 ⟨rfl,ai,ef⟩;have jm:=Ah ai;clear ai;go_wp2;go_meet;exact⟨jm.out,Ks gn ef⟩
  obtain⟨OO,XX⟩:=hcut;obtain⟨wd,rfl⟩:∃wd:Aj,wd=wc:=⟨_,rfl⟩;have HOwd:=Ah OO;clear OO;obtain⟨cd,hcd⟩:=ez (decide (a<s/\s<mid));have Hcd:=Ah hcd;clear hcd;go_upto_region 41 with fail;go_cut [199]from 192 to 199 (λsb wx=>sb= .bool cd/\wd=wx)
  case first=>
   by_cases k1:a<s
   ·by_cases k2:s<mid
    ·have ZG:(a:Int)<(s:Int):=Gv;have k2':(s:Int)<(mid:Int):=Gv;go_wp2;go_meet;exact⟨by rw[Hcd.out,Ld ⟨k1,k2⟩],rfl⟩
    ·have ZG:(a:Int)<(s:Int):=Gv;have k2':¬(s:Int)<(mid:Int):=Gv;go_wp2;go_meet;exact⟨by rw[Hcd.out,Me (λh=>k2 h.2)],rfl⟩
   ·have ZG:¬(a:Int)<(s:Int):=Gv;go_wp2;go_meet;exact⟨by rw[Hcd.out,Me (λh=>k1 h.1)],rfl⟩
  obtain⟨rfl,rfl⟩:=hcut;go_upto_if 199 with fail;go_cut [205]from 200 to 205 (λ_ wx=>wx.ownsRow base 92 4 (Ad (Af ⟨g,0,Ae⟩) n cap) n (recs (P++mrg Sr.t A1 B1++A2++B2++S))/\w.grownBy wx (Af g))
  case first=>
   cases cd
   ·go_wp2;go_meet;refine⟨?_,XX⟩;have hk:=of_decide_eq_false Hcd.out.symm
    have e:P++mrg Sr.t A1 B1++A2++B2++S=P++A1++B1++A2++B2++S:=by
     by_cases k1:a<s
     ·have:B1=[]:=Et.1 (by rw[zg.out];omega);subst this;simp[Pm]
     ·have:A1=[]:=Et.1 (by rw[zf.out];omega);subst this;simp[Ng]
    rw[e];exact HOwd.out
   ·have hk:=Sh Hcd.out.symm;have vq:=IH P A1 B1 (A2++B2++S) a s mid wd (by have:=HA.out;have:=HN.out;have:=HM.out;have:=HB.out;have:=HC.out;have:=zf.out;have:=yb.out;have:=zg.out;have:=CT.out;have:=yt.out;omega) (by have:=HA.out;have:=HN.out;have:=HM.out;have:=HB.out;have:=HC.out;have:=zf.out;have:=yb.out;have:=zg.out;have:=CT.out;have:=yt.out;omega) (by have:=HA.out;have:=HN.out;have:=HM.out;have:=HB.out;have:=HC.out;have:=zf.out;have:=yb.out;have:=zg.out;have:=CT.out;have:=yt.out;omega) HA.out (by have:=HA.out;have:=HN.out;have:=HM.out;have:=HB.out;have:=HC.out;have:=zf.out;have:=yb.out;have:=zg.out;have:=CT.out;have:=yt.out;omega) (by have:=HA.out;have:=HN.out;have:=HM.out;have:=HB.out;have:=HC.out;have:=zf.out;have:=yb.out;have:=zg.out;have:=CT.out;have:=yt.out;omega) (by have:=HA.out;have:=HN.out;have:=HM.out;have:=HB.out;have:=HC.out;have:=zf.out;have:=yb.out;have:=zg.out;have:=CT.out;have:=yt.out;simp;omega) SA1.out SB1.out (by simpa using HOwd.out);have e:P++mrg Sr.t A1 B1++(A2++B2++S)=P++mrg Sr.t A1 B1++A2++B2++S:=Gy;rw[e]at vq;clear e;have MM:=Ah vq;clear vq hk;go_wp2_with fail;refine MM.out.mono ?_;rintro e w2 ⟨rfl,ai,ef⟩;have jm:=Ah ai;clear ai;go_wp2;go_meet;exact⟨jm.out,Ks XX ef⟩
  obtain⟨OP,XY⟩:=hcut;obtain⟨we,rfl⟩:∃we:Aj,we=wc:=⟨_,rfl⟩;have HOwe:=Ah OP;clear OP;obtain⟨ce,hce⟩:=ez (decide (mid<en/\en<b));have Hce:=Ah hce;clear hce;go_upto_region 43 with fail;go_cut [213]from 206 to 213 (λsb wx=>sb= .bool ce/\we=wx)
  case first=>
   by_cases k1:mid<en
   ·by_cases k2:en<b
    ·have ZG:(mid:Int)<(en:Int):=Gv;have k2':(en:Int)<(b:Int):=Gv;go_wp2;go_meet;exact⟨by rw[Hce.out,Ld ⟨k1,k2⟩],rfl⟩
    ·have ZG:(mid:Int)<(en:Int):=Gv;have k2':¬(en:Int)<(b:Int):=Gv;go_wp2;go_meet;exact⟨by rw[Hce.out,Me (λh=>k2 h.2)],rfl⟩
   ·have ZG:¬(mid:Int)<(en:Int):=Gv;go_wp2;go_meet;exact⟨by rw[Hce.out,Me (λh=>k1 h.1)],rfl⟩
  obtain⟨rfl,rfl⟩:=hcut;go_upto_if 213 with fail
  cases ce
  ·have hk:=of_decide_eq_false Hce.out.symm
   have e:D'=P++mrg Sr.t A1 B1++A2++B2++S:=by
    rw[HD.out,HSPL.out];by_cases k1:mid<en
    ·have:B2=[]:=Et.1 (by rw[CT.out];omega);subst this;simp[Pm]
    ·have:A2=[]:=Et.1 (by rw[yb.out];have:=yt.out;omega);subst this;simp[Ng]
   have ON:=HOwe.out;rw[<-e]at ON;have BD:=Ah ON;clear ON e hk;go_wp2_with fail
   go_end0
   exact⟨rfl,BD.out,XY⟩
  ·have hk:=Sh Hce.out.symm;have hML:(mrg Sr.t A1 B1).length=mid-a:=by rw[zP];have:=HA.out;have:=HN.out;have:=HM.out;have:=HB.out;have:=HC.out;have:=zf.out;have:=yb.out;have:=zg.out;have:=CT.out;have:=yt.out;omega
   have vq:=IH (P++mrg Sr.t A1 B1) A2 B2 S mid en b we (by have:=HA.out;have:=HN.out;have:=HM.out;have:=HB.out;have:=HC.out;have:=zf.out;have:=yb.out;have:=zg.out;have:=CT.out;have:=yt.out;omega) (by have:=HA.out;have:=HN.out;have:=HM.out;have:=HB.out;have:=HC.out;have:=zf.out;have:=yb.out;have:=zg.out;have:=CT.out;have:=yt.out;omega) (by have:=HA.out;have:=HN.out;have:=HM.out;have:=HB.out;have:=HC.out;have:=zf.out;have:=yb.out;have:=zg.out;have:=CT.out;have:=yt.out;omega) (by have:=HA.out;have:=HN.out;have:=HM.out;have:=HB.out;have:=HC.out;have:=zf.out;have:=yb.out;have:=zg.out;have:=CT.out;have:=yt.out;rw[Bh];omega) (by have:=HA.out;have:=HN.out;have:=HM.out;have:=HB.out;have:=HC.out;have:=zf.out;have:=yb.out;have:=zg.out;have:=CT.out;have:=yt.out;rw[Bh];omega) (by have:=HA.out;have:=HN.out;have:=HM.out;have:=HB.out;have:=HC.out;have:=zf.out;have:=yb.out;have:=zg.out;have:=CT.out;have:=yt.out;rw[Bh];omega) (by have:=HA.out;have:=HN.out;have:=HM.out;have:=HB.out;have:=HC.out;have:=zf.out;have:=yb.out;have:=zg.out;have:=CT.out;have:=yt.out;rw[Bh];omega) SA2.out SB2.out HOwe.out
   have e:P++mrg Sr.t A1 B1++mrg Sr.t A2 B2++S=D':=by
    rw[HD.out,HSPL.out];simp
   rw[e]at vq;have MM:=Ah vq;clear vq hk e hML;go_wp2_with fail;refine MM.out.mono ?_;rintro e w2 ⟨rfl,ai,ef⟩;have jm:=Ah ai;clear ai;go_wp2_with fail
   go_end0
   exact⟨rfl,jm.out,Ks XY ef⟩
def Ab2 (base g n cap cc:Nat) (hl:n<=1000000000) (c:Nat):yB base g n cap cc c:=by
 induction c with
 |zero=>
  intro P A B S a m b w hc hA;omega
 |succ c ih=>
  intro P A B S a m b w hc XE GN ha hm hb hn hA hB aa
  match A,XE with
  |[x],_=>
   exact Am7 base g n cap cc P B S x a m b w ha (by simpa using hm) (by simpa using hb) (by simpa using hn) hl hB (by
    have e:Kj P [] x B S=P++[x]++B++S:=by simp[Kj]
    rw[e];exact aa)
  |x1::x2::A',_=>
   match B,GN with
   |[y],_=>
    exact Bd4 base g n cap cc P (x1::x2::A') S y a m b w ha hm (by simpa using hb) (by simpa using hn) Gy hl hA (by
     have e:Kj P (x1::x2::A') y [] S=P++(x1::x2::A')++[y]++S:=by simp[Kj]
     rw[e];exact aa)
   |y1::y2::B',_=>exact Bp8 base g n cap cc c hl ih P (x1::x2::A') (y1::y2::B') S a m b w hc Gy Gy ha hm hb hn hA hB aa
section
variable {α:Type} (t:α->Int)
def blks (bs:Nat):Nat->List α->List α
 |0,_=>[]
 |k+1,E=>srt t (E.take bs)++blks bs k (E.drop bs)
def St1 (a:Nat) (D D':List α):Prop:=∃k,a=20*k/\a<=D.length/\D'=blks t 20 k D++D.drop a
def St2 (bs:Nat) (D D':List α):Prop:=∃K,D.length<=bs*K/\D'=blks t bs K D
def St3 (bs a:Nat) (D D':List α):Prop:=∃k K,a=2*bs*k/\a<=D.length/\D.length<=a+bs*K/\D'=blks t (2*bs) k D++blks t bs K (D.drop a)
end
section
variable {α:Type} {t:α->Int}
def dU (bs k:Nat):blks t bs k []=[]:=by
 induction k with
 |zero=>rfl
 |succ k ih=>simp[blks,srt,ih]
def Sw (bs k:Nat) (D:List α):blks t bs (k+1) D=blks t bs k D++srt t ((D.drop (bs*k)).take bs):=by
 induction k generalizing D with
 |zero=>simp[blks]
 |succ k ih=>
  rw[blks,ih (D.drop bs)]
  conv=>rhs;rw[blks]
  rw[List.drop_drop,Bj,show bs+bs*k=bs*(k+1)by rw[Nat.mul_succ];omega]
def Ym (bs k:Nat) (D:List α) (h:bs*k<=D.length):(blks t bs k D).length=bs*k:=by
 induction k generalizing D with
 |zero=>rfl
 |succ k ih=>
  rw[Nat.mul_succ]at h⊢;rw[blks,Bh,Qq,Bm,ih _ (by rw[Dy];omega)];omega
def Am1 (D:List α):St1 t 0 D D:=⟨0,rfl,Gm _,by simp[blks]⟩
def Bc8 {D D':List α} (h:St1 t a D D') (hn:a+20<=D.length):∃P X S,D'=P++X++S/\P.length=a/\X.length=20/\D.length=a+20+S.length/\St1 t (a+20) D (P++srt t X++S):=by
 obtain⟨k,rfl,ha,rfl⟩:=h;refine⟨blks t 20 k D,(D.drop (20*k)).take 20,D.drop (20*k+20),?_,Ym 20 k D ha,?_,?_,k+1,Gv,hn,?_⟩
 ·rw[Bj,<-List.drop_drop,Fe]
 ·rw[Bm,Dy];omega
 ·rw[Dy];omega
 ·rw[Sw]
def Bp3 {D D':List α} (h:St1 t a D D') (hn:D.length<a+20):∃P X,D'=P++X++[]/\P.length=a/\a+X.length=D.length/\St2 t 20 D (P++srt t X++[]):=by
 obtain⟨k,rfl,ha,rfl⟩:=h;refine⟨blks t 20 k D,D.drop (20*k),Gy,Ym 20 k D ha,by rw[Dy];omega,k+1,Gv,?_⟩;rw[Sw,Bg (by rw[Dy];omega),Ff]
def Am2 {D D':List α} (h:St2 t bs D D'):St3 t bs 0 D D':=by
 obtain⟨K,hK,rfl⟩:=h;exact⟨0,K,Gy,Gy,Gv,by simp[blks]⟩
def rX (bs:Nat) (E:List α):srt t (E.take (2*bs))=mrg t (srt t (E.take bs)) (srt t ((E.drop bs).take bs)):=by
 rw[<-Aa9,Nat.two_mul,List.take_add]
def Bd0 {D D':List α} (hb:0<bs) (h:St3 t bs a D D') (hn:a+2*bs<=D.length):
  ∃P A B S,D'=P++A++B++S/\P.length=a/\A.length=bs/\B.length=bs/\D.length=a+bs+bs+S.length/\Pn t A/\Pn t B/\St3 t bs (a+2*bs) D (P++mrg t A B++S):=by
 obtain⟨k,K,ha,haD,hK,rfl⟩:=h
 match K,hK with
 |0,hK=>simp at hK;omega
 |1,hK=>simp at hK;omega
 |K+2,hK=>
  have e:bs*(K+2)=bs+bs+bs*K:=by rw[Nat.mul_add];omega
  have dr:(blks t (2*bs) k D).length=a:=by rw[Ym _ _ _ Gv,<-ha]
  have hSl:(blks t bs K (D.drop (a+2*bs))).length+(a+2*bs)=D.length:=by
   have fj:∀(K:Nat) (E:List α),E.length<=bs*K->(blks t bs K E).length=E.length:=by
    intro K
    induction K with
    |zero=>intro E hE;simp at hE;subst hE;rfl
    |succ K ih=>
     intro E hE;rw[Nat.mul_succ]at hE;rw[blks,Bh,Qq,ih _ (by rw[Dy];omega),Bm,Dy];omega
   rw[fj K _ (by rw[Dy];omega),Dy];omega
  refine⟨blks t (2*bs) k D,srt t ((D.drop a).take bs),srt t (((D.drop a).drop bs).take bs),blks t bs K (D.drop (a+2*bs)),?_,dr,?_,?_,Gv,Zr _,Zr _,k+1,K,?_,hn,?_,?_⟩
  ·rw[blks,blks,List.drop_drop,List.drop_drop];simp only[Bj];rw[show a+bs+bs=a+2*bs by omega]
  ·rw[Qq,Bm,Dy];omega
  ·rw[Qq,Bm,Dy,Dy];omega
  ·rw[Nat.mul_succ];omega
  ·omega
  ·rw[Sw,<-ha,rX]
def Bc9 {D D':List α} (_hb:0<bs) (h:St3 t bs a D D') (hn:D.length<a+2*bs) (hm:a+bs<D.length):
  ∃P A B,D'=P++A++B++[]/\P.length=a/\A.length=bs/\a+bs+B.length=D.length/\Pn t A/\Pn t B/\St2 t (2*bs) D (P++mrg t A B++[]):=by
 obtain⟨k,K,ha,haD,hK,rfl⟩:=h
 match K,hK with
 |0,hK=>simp at hK;omega
 |1,hK=>simp at hK;omega
 |K+2,hK=>
  have dr:(blks t (2*bs) k D).length=a:=by rw[Ym _ _ _ Gv,<-ha]
  refine⟨blks t (2*bs) k D,srt t ((D.drop a).take bs),srt t (((D.drop a).drop bs).take bs),?_,dr,?_,?_,Zr _,Zr _,k+1,?_,?_⟩
  ·rw[blks,blks,List.drop_drop,List.drop_drop,Cu (show D.length<=a+bs+bs by omega),dU];simp only[Bj,Ff]
  ·rw[Qq,Bm,Dy];omega
  ·rw[Qq,Bm,Dy,Dy];omega
  ·rw[Nat.mul_succ];omega
  ·rw[Sw,<-ha,rX,Ff]
def Bp5 {D D':List α} (h:St3 t bs a D D') (hn:D.length<=a+bs):St2 t (2*bs) D D':=by
 obtain⟨k,K,ha,haD,hK,rfl⟩:=h;refine⟨k+1,by rw[Nat.mul_succ];omega,?_⟩;have hdl:(D.drop a).length<=bs:=by rw[Dy];omega
 rw[Sw,<-ha,Bg (show(D.drop a).length<=2*bs by omega)]
 match K,hK with
 |0,hK=>
  have:D.drop a=[]:=Et.1 (by rw[Dy];simp at hK;omega);rw[this];rfl
 |K+1,hK=>rw[blks,Bg hdl,Cu hdl,dU,Ff]
def Bp4 {D D':List α} (h:St2 t bs D D') (hn:D.length<=bs):D'=srt t D:=by
 obtain⟨K,hK,rfl⟩:=h
 match K,hK with
 |0,hK=>
  have:D=[]:=Et.1 (by simp at hK;rw[hK];rfl);rw[this];rfl
 |K+1,hK=>rw[blks,Bg hn,Cu hn,dU,Ff]
end
def iH (base g n cap cc:Nat) (D:List Sr) (w:Aj) (hn:n=D.length) (hl:n<=100000000)
  (aa:w.ownsRow base 92 4 (Ad (Af ⟨g,0,Ae⟩) n cap) n (recs D)):
  Al Dp 174 #[Ad (Af ⟨g,0,Ae⟩) n cc,n,.func (.func 123) #[] #[]] w (Lm base g n cap (srt Sr.t D) w):=by
 have HN:=Ah hn;have HO:=Ah aa;clear hn aa;go_in;go_wp2
 go_loopw [7,8] (λs7 s8 wr=>∃(a b:Nat) (D':List Sr),b=a+20/\a<=n/\s7= Aa Ab a/\s8= Aa Ab b/\St1 Sr.t a D D'/\wr.ownsRow base 92 4 (Ad (Af ⟨g,0,Ae⟩) n cap) n (recs D')/\w.grownBy wr (Af g)) (λ_ s8 _=>n+20-(intOf s8).toNat)
 case atStart=>exact⟨0,20,D,Gv,Gv,rfl,rfl,Am1 D,HO.out,Jo _ _⟩
 obtain⟨a,b,D',hb,han,rfl,rfl,bo,aa,gn⟩:=hrel;have dx:=Ah bo;have pi:=Ah aa;have HB:=Ah hb;clear bo aa;by_cases ac:b<=n
 ·obtain⟨P,X,S,vb,hP,hX,hS,qh⟩:=Bc8 dx.out (by rw[<-HN.out];omega);have aa:=pi.out;rw[vb]at aa;have NW:=Xb base g n cap cc P X S a b wr hP.symm Gv (by rw[HN.out];omega) Gv aa;have g9:=Ah NW;have zd:=Ah qh;have O9:(b:Int)<=(n:Int):=Gv;clear NW qh aa vb hP hX hS hb pi;go_wp2_with fail;refine g9.out.mono ?_;rintro e w2 ⟨rfl,ai,ef⟩;have jm:=Ah ai;have BB:=Ah (Ks gn ef);clear ai gn ef;go_wp2
  go_roundw
  case rel=>
   refine⟨b,b+20,P++srt Sr.t X++S,rfl,Gv,rfl,by go_num,?_,jm.out,BB.out⟩;rw[HB.out];exact zd.out
  case measure=>simp[intOf];omega
 ·obtain⟨P,X,vb,hP,hX,qh⟩:=Bp3 dx.out (by rw[<-HN.out];omega);have aa:=pi.out;rw[vb]at aa;have NW:=Xb base g n cap cc P X [] a n wr hP.symm (by rw[HN.out];omega) (by rw[HN.out];simp;omega) Gv aa;have g9:=Ah NW;have zd:=Ah qh;have O9:¬(b:Int)<=(n:Int):=Gv;clear NW qh aa vb hP hX hb pi;go_wp2_with fail;refine g9.out.mono ?_;rintro e w2 ⟨rfl,ai,ef⟩;have jm:=Ah ai;have BB:=Ah (Ks gn ef);clear ai gn ef HB;go_wp2_with fail;obtain⟨wo,rfl⟩:∃wo:Aj,wo=wr:=⟨_,rfl⟩
  go_loopw [6,7,8,9] (λs6 _ _ _ wr=>∃(bs:Nat) (D':List Sr),0<bs/\(bs<=20∨bs<2*n)/\s6= Aa Ab bs/\St2 Sr.t bs D D'/\wr.ownsRow base 92 4 (Ad (Af ⟨g,0,Ae⟩) n cap) n (recs D')/\w.grownBy wr (Af g)) (λs6 _ _ _ _=>2*n+20-(intOf s6).toNat)
  case atStart=>exact⟨20,_,Gv,Gv,rfl,zd.out,jm.out,BB.out⟩
  obtain⟨bs,D1,XS,NH,rfl,hst2,km,hgr3⟩:=hrel;have HST2:=Ah hst2;have WH:=Ah km;clear hst2 km;by_cases fw:bs<n
  ·have hlt2':(bs:Int)<(n:Int):=Gv;go_wp2_with fail;obtain⟨wp,rfl⟩:∃wp:Aj,wp=wr:=⟨_,rfl⟩
   go_loopw [7,8] (λs7 s8 wr=>∃(a b:Nat) (D':List Sr),b=a+2*bs/\a<=n/\s7= Aa Ab a/\s8= Aa Ab b/\St3 Sr.t bs a D D'/\wr.ownsRow base 92 4 (Ad (Af ⟨g,0,Ae⟩) n cap) n (recs D')/\w.grownBy wr (Af g)) (λ_ s8 _=>2*n+n-(intOf s8).toNat)
   case atStart=>exact⟨0,2*bs,D1,Gv,Gv,rfl,by go_num,Am2 HST2.out,WH.out,hgr3⟩
   obtain⟨a,b,D2,hb,han,rfl,rfl,hst3,yi,NS⟩:=hrel;have x7:=Ah hst3;have WI:=Ah yi;have HB:=Ah hb;clear hst3 yi;by_cases OB:b<=n
   ·obtain⟨P,A,B,S,vb,hP,hA,hB,hS,hAa,hBa,qh⟩:=Bd0 XS x7.out (by rw[<-HN.out];omega);have aa:=WI.out;rw[vb]at aa;obtain⟨m,hm⟩:=ez (a+bs);have CE:=Ab2 base g n cap cc Gv (A.length+B.length) P A B S a m b wr (Am _) Gv Gv hP.symm Gv Gv (by rw[HN.out];omega) hAa hBa aa;have ze:=Ah CE;have zd:=Ah qh;have hlt3':(b:Int)<=(n:Int):=Gv;have e1:(a:Int)+(bs:Int)=(m:Int):=Gv;clear CE qh aa vb hP hA hB hS hAa hBa hb hm WI;go_wp2_with fail;refine ze.out.mono ?_;rintro e w2 ⟨rfl,ai,ef⟩;have CP:=Ah ai;have HG5:=Ah (Ks NS ef);clear ai NS ef e1
    as_aux_lemma=>
     go_wp2
     go_roundw
     case rel=>
      refine⟨b,b+2*bs,_,rfl,Gv,rfl,by go_num,?_,CP.out,HG5.out⟩;rw[HB.out];exact zd.out
     case measure=>simp[intOf];omega
   ·have hlt3':¬(b:Int)<=(n:Int):=Gv;obtain⟨m,hm⟩:=ez (a+bs);have e1:(a:Int)+(bs:Int)=(m:Int):=Gv;by_cases hmn:m<n
    ·obtain⟨P,A,B,vb,hP,hA,hB,hAa,hBa,qh⟩:=Bc9 XS x7.out (by rw[<-HN.out];omega) (by rw[<-HN.out];omega);have aa:=WI.out;rw[vb]at aa;have CE:=Ab2 base g n cap cc Gv (A.length+B.length) P A B [] a m n wr (Am _) Gv (oHx HN.out) hP.symm Gv (by rw[HN.out];omega) (by rw[HN.out];simp;omega) hAa hBa aa;have ze:=Ah CE;have zd:=Ah qh;have hmn':(m:Int)<(n:Int):=Gv;clear CE qh aa vb hP hA hB hAa hBa hb hm WI;go_wp2_with fail;refine ze.out.mono ?_;rintro e w2 ⟨rfl,ai,ef⟩;have CP:=Ah ai;have HG5:=Ah (Ks NS ef);clear ai NS ef e1
     as_aux_lemma=>
      go_wp2
      go_roundw
      case rel=>exact⟨2*bs,_,Gv,Gv,by go_num,zd.out,CP.out,HG5.out⟩
      case measure=>simp[intOf];omega
    ·have qh:=Bp5 x7.out (by rw[<-HN.out];omega);have zd:=Ah qh;have hmn':¬(m:Int)<(n:Int):=Gv;clear qh hm hb
     as_aux_lemma=>
      go_wp2
      go_roundw
      case rel=>exact⟨2*bs,_,Gv,Gv,by go_num,zd.out,WI.out,NS⟩
      case measure=>simp[intOf];omega
  ·have hlt2':¬(bs:Int)<(n:Int):=Gv;have am:=Bp4 HST2.out (by rw[<-HN.out];omega);have aa:=WH.out;rw[am]at aa;have CP:=Ah aa;clear aa am;go_wp2_with fail
   go_end0
   exact⟨rfl,CP.out,hgr3⟩
def stable_any (base g n cap cc:Nat) (D:List Sr) (w:Aj) (hn:n=D.length) (hl:n<=100000000) (aa:w.ownsRow base 92 4 (Ad (Af ⟨g,0,Ae⟩) n cap) n (recs D)):
  Al Dp 122 #[Ad (Af ⟨g,0,Ae⟩) n cc,.func (.func 123) #[] #[]] w (Lm base g n cap (srt Sr.t D) w):=by
 have H:=Ah (iH base g n cap cc D w hn hl aa);clear hn aa;go_in;go_wp2_with fail;refine H.out.mono ?_;rintro e w2 ⟨rfl,ho,hg⟩;have HO:=Ah ho;clear ho;go_wp2_with fail
 go_end0
 exact⟨rfl,HO.out,hg⟩
def As4 (a b:Sr):Ka ⟨a.x,a.y,a.q⟩ ⟨b.x,b.y,b.q⟩<=0↔a.t<=b.t:=by
 rw[As3];unfold Ik
 split
 ·simp;omega
 ·split
  ·simp;omega
  ·simp;omega
def Bk1 (f:Sr->Stk) (hf:∀r,(f r).c=⟨r.x,r.y,r.q⟩) (x:Sr) (l:List Sr):pJ (f x) (l.map f)=(mrg Sr.t [x] l).map f:=by
 induction l with
 |nil=>rw[Pm];rfl
 |cons y r ih=>
  unfold pJ;rw[Es];dsimp only;rw[hf,hf];by_cases h:x.t<=y.t
  ·rw[Hc ((As4 x y).2 h),Nr h,Ng];rfl
  ·rw[Ha (λhh=>h ((As4 x y).1 hh)),Ms Gv,Es,ih]
def sortC_srt (f:Sr->Stk) (hf:∀r,(f r).c=⟨r.x,r.y,r.q⟩) (l:List Sr):No (l.map f)=(srt Sr.t l).map f:=by
 induction l with
 |nil=>rfl
 |cons x r ih=>
  unfold srt;rw[Es,<-Bk1 f hf,<-ih];rfl
end Go.Proofs.YtlgkpdfieaadaaaGreatDoor.Rs
namespace Go.Proofs.YtlgkpdfieaadaaaGreatDoor
open Go.RowKit
variable {m root:Mv} {O O' g o n cc k M N N4 N5 go gk P:Nat} {w wr w2 w' w3 w4:Aj} {v v':Ak} {cw cs:Array Ak} {t tx ty:Ck} {av av':List Nat} {a b:Int} {l:List Cr} {A:Option Cj} {s s':RS}
def sZ (x y:Int) (q:Nat) (A:Option Cj) (n c:Nat) (w:Aj):
  Al Dp 119 #[.agg #[x,y,Aa Ac q,Ad A n c]] w (Gz (.bool (!okC x y q)) w):=by
 have H:=(Bx.start w).new #[x,y,Aa Ac q,Ad A n c] 92 rfl;go_in;go_upto_region 1 with fail;generalize w.alloc _=W at H⊢;generalize w.heap.size=N at H⊢;obtain⟨⟨a0,a1,a2,a3⟩,_⟩:=Jh (H.b 0);go_wp2_with fail;refine(Jg x y q _).mono ?_;rintro e w2 ⟨rfl,hb⟩;have H2:=H.call hb
 cases hk:okC x y q
 ·rw[Qm];have HK:=Ah hk;clear hk;go_wp2;go_ret;exact⟨by rw[HK.out];rfl,H2.below⟩
 ·rw[Lq];have HK:=Ah hk;clear hk;go_wp2;go_ret;exact⟨by rw[HK.out];rfl,H2.below⟩
def Ac3 (A:Option Cj) (l:List Stk) (n c:Nat) (w:Aj) (hn:n=l.length) (h:Ib w A l) (hl:n<=1000000):
  Al Dp 24 #[Ad A n c,.func (.func 119) #[] #[]] w λe w'=>(∃r:Int,e= .returned (Aa Ab r)/\((l.any λx=> !x.c.ok)=decide (0<=r)))/\Below w.heap.size w w':=by
 have dt:=Ah h;have HN:=Ah hn;clear h hn;go_in;go_wp2
 go_loopw [5,8] (λ_ i wr=>∃k:Nat,k<=n/\i= Aa Ab k/\Below w.heap.size w wr/\Hid (∀j (hj:j<l.length),j<k->l[j].c.ok=true)) (λ_ i _=>n-(intOf i).toNat)
 case atStart=>exact⟨0,Gv,rfl,Ag _ _,Ah λj _ hj=>absurd hj Gv⟩
 obtain⟨k,hk,rfl,hb,HK⟩:=hrel;by_cases ac:k<n
 ·have be:k<l.length:=oHx HN.out;obtain⟨bb,o,A',c',rfl,cj,⟨d0,d1,d2,d3⟩,_⟩:=(dt.out.below hb).get k be;have q1:(k:Int)<(n:Int):=Gv;obtain⟨r,hr⟩:=ey (l[k]);have jn:=Ah hr;rw[hr]at d0 d1 d2 d3;obtain⟨⟨x,y,q⟩,ids⟩:=r;dsimp only at d0 d1 d2 d3;have HC:=Ah λw'=>sZ x y q A' ids.length c' w';have pd:Hid (l[k].c.ok=okC x y q):=Ah (by rw[jn.out];rfl);clear hr;go_wp2_with fail;refine(HC.out _).mono ?_;rintro e w2 ⟨rfl,aj⟩;have bh:=Up hb aj
  cases he:okC x y q
  ·have HA:Hid ((l.any λx=> !x.c.ok)=true):=Ah (by rw[Ew];exact⟨l[k],Ay _,by rw[pd.out,he];rfl⟩);clear he;go_wp2;go_ret;exact⟨⟨k,rfl,by rw[HA.out];simp⟩,bh⟩
  ·have js:=Ah (λj (hj:j<l.length) (h:j<k+1)=>show l[j].c.ok=true by
    by_cases lu:j=k
    ·subst lu;rw[pd.out];exact he
    ·exact HK.out j hj Gv)
   clear he;go_wp2;exact⟨⟨k+1,Gv,by go_num,bh,js⟩,by simp[intOf];omega⟩
 ·have q1:¬(k:Int)<(n:Int):=Gv
  have HA:Hid ((l.any λx=> !x.c.ok)=false):=Ah (by
   rw[Du];intro x hx;obtain⟨j,hj,rfl⟩:=Be.1 hx;simp[HK.out j hj (oHx HN.out)])
  go_wp2;go_ret;exact⟨⟨-1,rfl,by rw[HA.out];rfl⟩,hb⟩
def Ac2 (A:Option Cj) (l:List Stk) (n c:Nat) (w:Aj) (hn:n=l.length) (h:Ib w A l) (hl:n<=1000000):
  Al Dp 118 #[Ad A n c,.func (.func 119) #[] #[]] w (Gz (.bool (l.any λx=> !x.c.ok)) w):=by
 have HC:=Ah (Ac3 A l n c w hn h hl);generalize (l.any λx=> !x.c.ok)=R at HC⊢;clear hn h hl;go_in;go_wp2_with fail;refine HC.out.mono ?_;rintro e w2 ⟨⟨r,rfl,hr⟩,hb⟩;go_wp2;go_ret;exact⟨by rw[hr];rfl,hb⟩
def sP (o:Option (List Stk)) (w:Aj) (e:Ending) (w':Aj):Prop:=
 Below w.heap.size w w'/\((o=Ae/\e= .returned (.tuple #[Ad Ae 0 0,Aa Ab 3]))∨
  ∃l A c zl,o=Af l/\e= .returned (.tuple #[Ad A l.length c,Aa Ab 0])/\Ia w.heap.size w' (Ad A l.length c) zl/\zl.map (·.1)=l)
def mvK (m:Mv) (x:Stk):Stk:=⟨(Lj m x.c).1,x.ls⟩
def Ax8 (m:Mv) (l:List Stk) (k:Nat) (h:k<l.length):(l.take (k+1)).map (mvK m)=(l.take k).map (mvK m)++[mvK m l[k]]:=by
 rw[Bc h,Ez];rfl
def qC {c:Cl} (h:(Lj m c).2=0):(Lj m c).1.ok=true:=by
 unfold Lj at h⊢
 split
 ·assumption
 ·rename_i g;rw[Ha g]at h
  cases h
def Cf9 (x:SkR) (h:x.1.c.ok=true):Rs.Sr:=by
 have h1:=Jq.1 h;exact⟨x.1.c.x,x.1.c.y,x.1.c.q,x.2.1,x.1.ls.length,x.2.2,x.1.ls,⟨h1.1,h1.2.1⟩,⟨h1.2.2.1,h1.2.2.2.1⟩,Gv⟩
def dG (r:Rs.Sr):SkR:=(⟨⟨r.x,r.y,r.q⟩,r.ls⟩,(r.A,r.c))
def Al4 (x:SkR) (h:x.1.c.ok=true):dG (Cf9 x h)=x:=rfl
def Aa8:∀(zl:List SkR),(∀x∈zl,x.1.c.ok=true)->∃D:List Rs.Sr,D.map dG=zl/\Rs.recs D=zl.flatMap Jc/\∀r∈D,r.n=r.ls.length
 |[],_=>⟨[],rfl,rfl,Gy⟩
 |x::r,h=>by
  obtain⟨D,h1,h2,h3⟩:=Aa8 r λy hy=>h y (by simp[hy]);refine⟨Cf9 x (h x Gy)::D,by rw[Es,h1,Al4],?_,?_⟩
  ·unfold Rs.recs at h2⊢;rw[Bf,Bf,h2];rfl
  ·intro y hy;rcases Bk.1 hy with rfl|hy
   ·rfl
   ·exact h3 y hy
def Ak5 {D:List Rs.Sr} (h:∀r∈D,r.n=r.ls.length):Rs.recs D=(D.map dG).flatMap Jc:=by
 induction D with
 |nil=>rfl
 |cons x r ih=>
  have e:Rs.Sr.cells x=Jc (dG x):=by
   unfold Rs.Sr.cells Jc dG;dsimp only;rw[h x Gy]
  unfold Rs.recs at ih⊢;rw[Bf,Es,Bf,ih λy hy=>h y (by simp[hy]),e]
def Bc7 (D:List Rs.Sr):(Rs.srt Rs.Sr.t D).Perm D:=by
 induction D with
 |nil=>exact .refl _
 |cons x r ih=>
  show(Rs.mrg Rs.Sr.t [x] (Rs.srt Rs.Sr.t r)).Perm (x::r);unfold Rs.mrg;exact(List.merge_perm_append _).trans (ih.cons x)
def Ia.base {l:List SkR} (h:Ia O w v l) (hO:O'<=O):Ia O' w v l:=⟨Nn h.1 hO,λx hx=>(h.2.1 x hx).base hO,h.2.2⟩
def vD {l:List Stk} (h:∀x∈l,(Lj m x.c).2=0):Rx m l=Af (No (l.map (mvK m))):=by
 unfold Rx;rw[Hc (by rw[Ed];intro x hx;simp[h x hx])];rfl
def vC {l:List Stk} {x:Stk} (hx:x∈l) (h:(Lj m x.c).2≠0):Rx m l=Ae:=by
 unfold Rx;rw[Ha];intro hh;rw[Ed]at hh;have:=hh x hx;simp at this;exact h this
def vE (A:Option Cj) (l:List Stk) (n cc:Nat) (m:Mv) (w:Aj) (hn:n=l.length) (h:Ib w A l) (hl:n<=100000) (jd:∀x∈l,x.ls.length<=100000) (hm:m.ok=true) (hc:∀x∈l,x.c.ok=true) (ht:m.t<=255) (hQ:Qf w) (hT:Tn w):
  Al Dp 69 #[Ad A n cc,.agg #[Aa Ac m.t,Aa Ab m.x,Aa Ab m.y]] w (sP (Rx m l) w):=by
 have WM:=Zz w (λw' hb=>h.below hb);have ir:=Zz w (λw' hb=>Ac2 A l n cc w' hn (h.below hb) Gv)
 have jx:(l.any λx=> !x.c.ok)=false:=by
  rw[Du];intro x hx;simp[hc x hx]
 rw[jx]at ir;have HN:=Ah hn;have xb:=Ah jd;have HMV:=Ah (λ(c:Cl) (gv:c.ok=true) (w':Aj) (hb:Below w.heap.size w w')=>Uy mA m c w' hm gv (hQ.below hb) (hT.below hb));have GH:=Ah hc;have HS:=Ah (λ(h:∀x∈l,(Lj m x.c).2=0)=>vD h);have KZ:=Ah (λ(x:Stk) (hx:x∈l) (h:(Lj m x.c).2≠0)=>vC hx h);have OD:=λw'=>Jn m.t m.x m.y w' ⟨Gv,Gv⟩;have pm:okM m.t m.x m.y=true:=hm;simp only[pm,Lq]at OD;have c_:=Ah OD;generalize Rx m l=o at HS KZ⊢;have xd:=Ah (λk hk=>Ax8 m l k hk);obtain⟨MK,hMK⟩:=ey (mvK m);have SH:=Ah (λx:Stk=>show MK x=⟨(Lj m x.c).1,x.ls⟩by rw[<-hMK];rfl);rw[hMK]at HS xd;obtain⟨MC,hMC⟩:=ey (Lj m);have DY:=Ah (λ(c:Cl) (hh:(MC c).2=0)=>show(MC c).1.ok=true by subst hMC;exact qC hh);rw[hMC]at HMV HS KZ SH;obtain⟨mt,mx,my⟩:=m;dsimp only at HMV c_⊢;have H:=(Bx.start w).new #[Aa Ac mt,mx,my] 30 rfl;clear hn h jd hm hc ht hQ hT jx OD pm hMK hMC;go_in;go_upto_region 1 with fail;obtain⟨N,ct⟩:=Tw w.heap.size;rw[<-ct.out]at H⊢;generalize w.alloc _=W0 at H⊢;obtain⟨⟨a0,a1,a2⟩,-⟩:=Hg (H.b 0);go_wp2_with fail;refine(c_.out _).mono ?_;rintro ee w1 ⟨rfl,hb⟩;have H1:=H.call hb;clear a0 a1 a2 hb H c_;go_wp2_with fail;refine(ir.out _ H1.below).mono ?_;rintro ee w2 ⟨rfl,hb⟩;have H2:=H1.call hb;clear hb H1 ir;obtain⟨GO,rm⟩:=ey w2.heap.size;have ub:=aT n hl w2;have DA:=Ia.made w2 n hl;have H3:=H2.other (.cells ((Ba n skZ).flatMap Jc).toArray 92);have hGw:w.heap.size<=GO:=oHx H2.below.size;have hNG:N<GO:=oHx (H2.lt 0 rfl);rw[rm]at ub DA;go_upto_region 4 with fail
 try rw[rm]
 generalize w2.alloc _=W4 at H3 DA⊢;have QG:=H3.b 0;have fx:Hid (∃zl:List SkR,zl.map (·.1)=(l.take 0).map MK/\(∀j (hj:j<l.length),j<0->(MC l[j].c).2=0)/\Ia GO W4 (Ad (Af ⟨GO,0,Ae⟩) n n) (zl++Ba (n-0) skZ)):=Ah ⟨[],rfl,λj _ hj=>absurd hj Gv,DA⟩;have KX:Hid (Below w.heap.size w W4/\W4.heap[N]? =Af (Co #[Aa Ac mt,mx,my] 30 (0,0))/\GO<=W4.heap.size):=Ah ⟨H3.below,QG,by have:=(DA.1.lt GO rfl).2;omega⟩;have ZZ:=Ah hGw;have HNG:=Ah hNG;clear ub rm DA H2 H3 QG hGw hNG;go_wp2
 go_loopw [23] (λPH wr=>∃k:Nat,k<=n/\PH= Aa Ab k/\Hid (∃zl:List SkR,zl.map (·.1)=(l.take k).map MK/\(∀j (hj:j<l.length),j<k->(MC l[j].c).2=0)/\Ia GO wr (Ad (Af ⟨GO,0,Ae⟩) n n) (zl++Ba (n-k) skZ))/\Hid (Below w.heap.size w wr/\wr.heap[N]? =Af (Co #[Aa Ac mt,mx,my] 30 (0,0))/\GO<=wr.heap.size)) (λPH _=>n-(intOf PH).toNat)
 case atStart=>exact⟨0,Gv,rfl,fx,KX⟩
 obtain⟨k,hk,rfl,HZ,HJ⟩:=hrel;clear fx KX;by_cases ac:k<n
 ·have be:k<l.length:=oHx HN.out;have q0:(k:Int)<(n:Int):=Gv;obtain⟨bb,o',A',c',TD,cj,⟨d0,d1,d2,d3⟩,du,hle,jb,ba⟩:=(WM.out _ HJ.out.1).get k be;have br:=Ay be;have dq:=xb.out l[k] br;have kg:=xd.out k be;have OE:=SH.out l[k];have qg:=KZ.out l[k] br;have rp:=HMV.out l[k].c (GH.out l[k] br)
  have fp:=λ(h0:(MC l[k].c).2=0) (j:Nat) (hj:j<l.length) (lu:j<k+1)=>show(MC l[j].c).2=0 by
   by_cases hjj:j=k
   ·subst hjj;exact h0
   ·obtain⟨zl,-,hz,-⟩:=HZ.out;exact hz j hj Gv
  obtain⟨⟨⟨x0,x1,x2⟩,ids⟩,hx⟩:∃z,l[k]=z:=⟨_,rfl⟩;simp only[hx]at d0 d1 d2 d3 dq ba du hle kg OE qg rp fp;obtain⟨⟨⟨y0,y1,y2⟩,e9⟩,OD⟩:∃z,MC (⟨x0,x1,x2⟩:Cl)=z:=⟨_,rfl⟩;rw[OD]at OE qg rp fp;unfold clR at rp;dsimp only at OE qg rp fp;obtain⟨m,hm⟩:=ey ids.length;rw[hm]at d3 dq ba du hle;have gj:=Ah hm;have HSN2:=Ah (show(l.take (k+1)).map MK=(l.take k).map MK++[⟨⟨y0,y1,y2⟩,ids⟩]by rw[kg,OE]);have SK:=Ah qg;have HMV2:=Ah rp;have qm:=Ah fp;have CI:=Zz wr (λw' hb=>Rb ⟨y0,y1,y2⟩ A' ids m c' w' hm.symm du (ba.below hb) Gv);have H:=(Bx.start wr).new #[x0,x1,Aa Ac x2,Ad A' m c'] 92 rfl;have EN:=(Au.1 HJ.out.2.1).1;subst TD;clear kg OE qg rp fp ba du hle hx hm OD br;obtain⟨C,hC⟩:=ey wr.heap.size;go_upto_region 7 with fail;rw[hC]at H
  try rw[hC]
  generalize wr.alloc _=W5 at H⊢;clear d0 d1 d2 d3;obtain⟨⟨e0,e1,e2,e3⟩,-⟩:=Jh (H.b 0);obtain⟨⟨a0,a1,a2⟩,-⟩:=Hg ((H.below.block N EN).trans HJ.out.2.1);have hwr:=HJ.out.1.size;go_wp2_with fail;refine(HMV2.out _ (HJ.out.1.trans (H.below.mono hwr))).mono ?_;rintro ee w6 ⟨rfl,hb⟩;have H6:=H.call hb;clear e0 e1 e2 e3 a0 a1 a2 hb H HMV2;obtain⟨D,hD⟩:=ey w6.heap.size;have H7:=H6.new #[y0,y1,Aa Ac y2] 90 hD;by_cases he:e9=0
  ·subst he;have HNX2:=Ah (qm.out rfl);clear qm SK;go_upto_region 10 with fail
   try rw[hD]
   generalize w6.alloc _=W7 at H7⊢;clear hD H6;obtain⟨⟨e0,e1,e2,e3⟩,-⟩:=Jh (H7.b 0);obtain⟨⟨a0,a1,a2⟩,-⟩:=Hg (H7.b 1);have hC7:=H7.lt 0 rfl;go_wp2_with fail;refine(CI.out _ H7.below).mono ?_;rintro ee w8 ⟨A9,rfl,sr,bn,bg⟩;dsimp only;obtain⟨zl,ap,-,bw⟩:=HZ.out
   have ld:zl.length=k:=by
    have:=congrArg List.length ap;simp at this;omega
   have zm:=Up H7.below bg;have lz:=H7.below.size;have jp:Nj wr.heap.size w8 (⟨⟨y0,y1,y2⟩,ids⟩,(A9,ids.length)):=⟨sr,Am _,by show ids.length<=maxLen;have:=gj.out;unfold maxLen;omega,bn.base lz⟩;obtain⟨df,dg,dl⟩:=Zk bw (i:=k) (by simp[ld];omega) zm jp HJ.out.2.2
   have sw:(zl++Ba (n-k) skZ).set k (⟨⟨y0,y1,y2⟩,ids⟩,(A9,ids.length))=(zl++[(⟨⟨y0,y1,y2⟩,ids⟩,(A9,ids.length))])++Ba (n-(k+1)) skZ:=by
    rw[Gh _ _ Gv,ld,Fo];rw[show n-k=(n-(k+1))+1 by omega,List.replicate_succ,Cg];simp
   rw[sw]at dl;rw[gj.out]at dl⊢;dsimp only at dl;obtain⟨v0,g0⟩:=df 0 Gv;obtain⟨v1,g1⟩:=df 1 Gv;obtain⟨v2,g2⟩:=df 2 Gv;obtain⟨v3,g3⟩:=df 3 Gv;rw[Df]at g0;have z0:=dg (k*4);have z1:=dg (k*4+1);have z2:=dg (k*4+2);have z3:=dg (k*4+3);have hne:N≠GO:=oHx HNG.out;have PB:∀(X:Aj) (f:Nat) (u:Ak),(X.setCell ⟨GO,f,Ae⟩ u).heap[N]? =X.heap[N]? :=λX f u=>Dq X ⟨GO,f,Ae⟩ u N (by show N≠GO;exact hne)
   have JJ:Hid (Below w.heap.size w ((((w8.setCell ⟨GO,k*4,Ae⟩ (Aa Ab y0)).setCell ⟨GO,k*4+1,Ae⟩ (Aa Ab y1)).setCell ⟨GO,k*4+2,Ae⟩ (Aa Ac y2)).setCell ⟨GO,k*4+3,Ae⟩ (Ad A9 m m))/\((((w8.setCell ⟨GO,k*4,Ae⟩ (Aa Ab y0)).setCell ⟨GO,k*4+1,Ae⟩ (Aa Ab y1)).setCell ⟨GO,k*4+2,Ae⟩ (Aa Ac y2)).setCell ⟨GO,k*4+3,Ae⟩ (Ad A9 m m)).heap[N]? =Af (Co #[Aa Ac mt,mx,my] 30 (0,0))/\GO<=((((w8.setCell ⟨GO,k*4,Ae⟩ (Aa Ab y0)).setCell ⟨GO,k*4+1,Ae⟩ (Aa Ab y1)).setCell ⟨GO,k*4+2,Ae⟩ (Aa Ac y2)).setCell ⟨GO,k*4+3,Ae⟩ (Ad A9 m m)).heap.size):=Ah (by
    have bc:=HJ.out.1.trans (zm.mono hwr);have lm:=ZZ.out;refine⟨(((bc.setCell (p:=⟨GO,k*4,Ae⟩) lm _).setCell (p:=⟨GO,k*4+1,Ae⟩) lm _).setCell (p:=⟨GO,k*4+2,Ae⟩) lm _).setCell (p:=⟨GO,k*4+3,Ae⟩) lm _,?_,?_⟩
    ·rw[PB,PB,PB,PB];exact(zm.block N EN).trans HJ.out.2.1
    ·have:=HJ.out.2.2;have:=zm.size;simp;omega)
   have hZ2:Hid (∃zl:List SkR,zl.map (·.1)=(l.take (k+1)).map MK/\(∀j (hj:j<l.length),j<k+1->(MC l[j].c).2=0)/\Ia GO ((((w8.setCell ⟨GO,k*4,Ae⟩ (Aa Ab y0)).setCell ⟨GO,k*4+1,Ae⟩ (Aa Ab y1)).setCell ⟨GO,k*4+2,Ae⟩ (Aa Ac y2)).setCell ⟨GO,k*4+3,Ae⟩ (Ad A9 m m)) (Ad (Af ⟨GO,0,Ae⟩) n n) (zl++Ba (n-(k+1)) skZ)):=Ah ⟨_,by rw[Ez,ap,HSN2.out];rfl,HNX2.out,dl⟩;clear df dg sw jp ap bw ld zm lz bg bn sr e0 e1 e2 e3 a0 a1 a2 HZ HJ CI dl PB H7;go_wp2;exact⟨⟨k+1,Gv,by go_num,hZ2,JJ⟩,by simp[intOf];omega⟩
  ·have q1:(e9 != 0)=true:=by simpa using he
   have hoo:=SK.out he;have aw:Hid (∀w',Below w.heap.size w w'->sP o w (.returned (.tuple #[Ad Ae 0 0,Aa Ab 3])) w'):=Ah λw' hb=>⟨hb,.inl ⟨hoo,rfl⟩⟩;have wg:=Ah (HJ.out.1.trans (H7.below.mono hwr));clear hoo;go_wp2_with fail;refine Ai (v:= .tuple #[Ad Ae 0 0,Aa Ab 3]) (by simp[results,Tryz.results69,go_sem]) rfl ?_;exact aw.out _ wg.out
 ·obtain rfl:k=n:=Gv;have q0:¬(k:Int)<(k:Int):=Gv;obtain⟨zl,ap,bw,qi⟩:=HZ.out;have ht:l.take k=l:=Bg (oHx HN.out);rw[ht]at ap;rw[Fo,List.replicate_zero,Ff]at qi
  have fj:∀x∈l,(MC x.c).2=0:=λx hx=>by
   obtain⟨j,hj,rfl⟩:=Be.1 hx;exact bw j hj (oHx HN.out)
  have hzk:∀x∈zl,x.1.c.ok=true:=λx hx=>by
   have:x.1∈l.map MK:=ap▸Dr.2 ⟨x,hx,rfl⟩;obtain⟨y,hy,hyx⟩:=Dr.1 this;rw[<-hyx,SH.out];exact DY.out _ (fj y hy)
  obtain⟨D,hD1,hD2,hD3⟩:=Aa8 zl hzk;have hso:=HS.out fj
  have ld:zl.length=k:=by
   have:=congrArg List.length ap;simp at this;have:=HN.out;omega
  have jg:D.length=k:=by rw[<-ld,<-hD1,Bp]
  have aa:=qi.1;rw[ld,<-hD2]at aa;have dx:=Ah (Rs.stable_any GO GO k k k D wr jg.symm Gv aa)
  have aw:Hid (∀w9,w9.ownsRow GO 92 4 (Ad (Af ⟨GO,0,Ae⟩) k k) k (Rs.recs (Rs.srt Rs.Sr.t D))->wr.grownBy w9 (Af GO)->sP o w (.returned (.tuple #[Ad (Af ⟨GO,0,Ae⟩) k k,Aa Ab 0])) w9):=Ah (by
   intro w9 ru BT;have hpe:=Bc7 D;have UV:((Rs.srt Rs.Sr.t D).map dG).Perm zl:=hD1▸hpe.map dG;have nm:((Rs.srt Rs.Sr.t D).map dG).length=k:=by rw[UV.length_eq,ld]
   have hsl:((Rs.srt Rs.Sr.t D).map dG).map (·.1)=No (l.map MK):=by
    have e:=Rs.sortC_srt (λr=>(dG r).1) (λr=>rfl) D;have e2:D.map (λr=>(dG r).1)=l.map MK:=by rw[<-ap,<-hD1,Ft];rfl
    rw[e2]at e;rw[e,Ft];rfl
   have uw:(No (l.map MK)).length=k:=by rw[<-hsl,Bp,nm]
   have AD:=(qi.perm (w':=w9) UV (by rw[nm,<-Ak5 (λr hr=>hD3 r (hpe.mem_iff.1 hr))];exact ru) BT).base ZZ.out;exact⟨HJ.out.1.grown BT HJ.out.1.size (λx hx=>by injection hx with hx;have:=ZZ.out;omega),.inr ⟨No (l.map MK),Af ⟨GO,0,Ae⟩,k,(Rs.srt Rs.Sr.t D).map dG,hso,by rw[uw],by rw[uw];exact AD,hsl⟩⟩)
  clear ap bw qi ht fj hzk hD1 hD2 hD3 hso ld jg aa HZ HJ;go_wp2_with fail;refine dx.out.mono ?_;rintro ee w9 ⟨rfl,ru,BT⟩;have IV:=Ah (aw.out w9 ru BT);clear ru BT aw dx;go_wp2_with fail;refine Ai (v:= .tuple #[Ad (Af ⟨GO,0,Ae⟩) k k,Aa Ab 0]) (by simp[results,Tryz.results69,go_sem]) rfl ?_;exact IV.out
def Ag1 (F:FuncId) (tl:∀(args:Array Ak) (w:Aj),(callFunc F args).run Dp w= .ok (.enter F args) w) (dd:Array Ak) (p:Nat->Bool) (A:Option Cj) (l:List Nat) (n c:Nat) (w:Aj) (hn:n=l.length) (h:Rd w A 1 n (Ih l)) (hl:n<=1000000)
  (hf:∀(i:Nat) (w':Aj),i∈l->Below w.heap.size w w'->Al Dp F (#[Aa Ab (i:Int)]++dd) w' (Gz (.bool (p i)) w')):
  Al Dp 292 #[Ad A n c,.func (.func F) #[] dd] w λe w'=>(∃r:Int,e= .returned (Aa Ab r)/\((l.any p)=decide (0<=r)))/\Below w.heap.size w w':=by
 have dt:=Ah h;have HN:=Ah hn;have DV:=Ah hf;clear h hn hf;go_in;go_wp2
 go_loopw [5,8] (λ_ i wr=>∃k:Nat,k<=n/\i= Aa Ab k/\Below w.heap.size w wr/\Hid (∀j (hj:j<l.length),j<k->p l[j]=false)) (λ_ i _=>n-(intOf i).toNat)
 case atStart=>exact⟨0,Gv,rfl,Ag _ _,Ah λj _ hj=>absurd hj Gv⟩
 obtain⟨k,hk,rfl,hb,HK⟩:=hrel;by_cases ac:k<n
 ·have be:k<l.length:=oHx HN.out;obtain⟨bb,o,rfl,cj,c0⟩:=Rp (dt.out.below hb) k be;have q1:(k:Int)<(n:Int):=Gv;have br:=Ay be;obtain⟨r,hr⟩:=ey (l[k]);have jn:=Ah hr;rw[hr]at c0 br;have hC:=DV.out r wr br hb;obtain⟨ar,BM⟩:=ey (#[Value.int .i64 (r:Int)]++dd);rw[BM]at hC;have HC:=Ah hC;clear hr br hC;go_wp2_with fail;refine HC.out.mono ?_;rintro e w2 ⟨rfl,aj⟩;have bh:=Up hb aj
  cases he:p r
  ·have js:=Ah (λj (hj:j<l.length) (h:j<k+1)=>show p l[j]=false by
    by_cases lu:j=k
    ·subst lu;rw[jn.out];exact he
    ·exact HK.out j hj Gv)
   go_wp2;exact⟨⟨k+1,Gv,by go_num,bh,js⟩,by simp[intOf];omega⟩
  ·have HA:Hid ((l.any p)=true):=Ah (by rw[Ew];exact⟨l[k],Ay _,by rw[jn.out];exact he⟩);go_wp2;go_ret;exact⟨⟨k,rfl,by rw[HA.out];simp⟩,bh⟩
 ·have q1:¬(k:Int)<(n:Int):=Gv
  have HA:Hid ((l.any p)=false):=Ah (by
   rw[Du];intro x hx;obtain⟨j,hj,rfl⟩:=Be.1 hx;simpa using HK.out j hj (oHx HN.out))
  go_wp2;go_ret;exact⟨⟨-1,rfl,by rw[HA.out];rfl⟩,hb⟩
def Ad3 (F:FuncId) (tl:∀(args:Array Ak) (w:Aj),(callFunc F args).run Dp w= .ok (.enter F args) w) (dd:Array Ak) (p:Nat->Bool) (A:Option Cj) (l:List Nat) (n c:Nat) (w:Aj) (hn:n=l.length) (h:Rd w A 1 n (Ih l)) (hl:n<=1000000)
  (hf:∀(i:Nat) (w':Aj),i∈l->Below w.heap.size w w'->Al Dp F (#[Aa Ab (i:Int)]++dd) w' (Gz (.bool (p i)) w')):
  Al Dp 245 #[Ad A n c,.func (.func F) #[] dd] w (Gz (.bool (l.any p)) w):=by
 have HC:=Ah (Ag1 F tl dd p A l n c w hn h hl hf);generalize l.any p=R at HC⊢;clear hn h hl hf tl;go_in;go_wp2_with fail;refine HC.out.mono ?_;rintro e w2 ⟨⟨r,rfl,hr⟩,hb⟩;go_wp2;go_ret;exact⟨by rw[hr];rfl,hb⟩
def Ad2 (h:w.heap[g]? =Af (Co cw t (0,0))) (hc:w.cell? ⟨g,o,Ae⟩=Af v):cw[o]? =Af v:=by
 rw[Bz w g o cw t (0,0) h]at hc;exact hc
def rC (a b:Int) (A:Option Cj) (n cc k M N N4 N5 go gk:Nat) (s:RS):List (Nat×Array Ak×Ck):=
 [(N,#[a,b,Ad A n cc],28),(N4,#[.map (Af M)],340),(go,(Nm s.out).toArray,30),(N5,#[Ad (Af ⟨go,0,Ae⟩) k k],133),(gk,(If s.known).toArray,4)]
structure Qj (w:Aj) (a b:Int) (l:List Cr) (A:Option Cj) (n cc k M N N4 N5 go gk:Nat) (v:Ak) (wr:Aj) (s:RS):Prop where
 bx:Bx w (rC a b A n cc k M N N4 N5 go gk s) wr
 mp:Kl unK wr M (crM l)
 q:QAt wr w.heap.size [N,N4,N5,go,gk] v s.wait
 ok:Cb6 k s
def QAt.len {base:Nat} {l:List Nat} (h:QAt w base av v l):By2 v=l.length:=by
 obtain⟨g,o,c,cw,rfl,_⟩:=h;rfl
def Qj.mm (h:Qj w a b l A n cc k M N N4 N5 go gk v wr s):lJ wr gk+By2 v=s.mm:=by
 rw[Ad9 (h.bx.b 4),h.q.len];rfl
def Ba5 {id e:Nat} (h:(nbI a b id e).2≠0):Ow a b l id e s=Af s:=by
 unfold Ow;rw[Hc h]
def wH {id e y:Nat} (h:nbI a b id e=((y:Int),0)) (hk:s.known.getD y false=true):Ow a b l id e s=if s.out.getD y mv0=Kf a b l s.out id e then Af s else Ae:=by
 unfold Ow;rw[Ha (by rw[h];simp),h];simp only[Ev,hk,if_true]
def Ba6 {id e y:Nat} (h:nbI a b id e=((y:Int),0)) (hk:s.known.getD y false=false) (hy:y<s.out.length):Ow a b l id e s=Af ⟨s.out.set y (Kf a b l s.out id e),s.known.set y true,s.wait++[y]⟩:=by
 unfold Ow;rw[Ha (by rw[h];simp),h];simp only[Ev,hk,Bool.false_eq_true,if_false];rw[Hc (by simp[List.getD,hy])]
def Qj.call (h:Qj w a b l A n cc k M N N4 N5 go gk v wr s) (hb:Below wr.heap.size wr w2):Qj w a b l A n cc k M N N4 N5 go gk v w2 s:=
 ⟨h.bx.call hb,h.mp.below hb h.mp.lt,h.q.below hb,h.ok⟩
def QAt.avoid {base:Nat} {l:List Nat} (h:QAt w base av v l) (hP:w.heap.size<=P):QAt w base (av++[P]) v l:=by
 obtain⟨g,o,c,cw,h1,h2,h3,h4,h5⟩:=h;refine⟨g,o,c,cw,h1,h2,λx hx=>?_,h4,h5⟩;have:=(Au.1 h4).1;rcases Bl.1 hx with h6|h6
 ·exact h3 x h6
 ·have:x=P:=by simpa using h6
  omega
def QAt.sub {base:Nat} {l:List Nat} (h:QAt w base av v l) (hs:∀x∈av',x∈av):QAt w base av' v l:=by
 obtain⟨g,o,c,cw,h1,h2,h3,h4,h5⟩:=h;exact⟨g,o,c,cw,h1,h2,λx hx=>h3 x (hs x hx),h4,h5⟩
def Qj.put (h:Qj w a b l A n cc k M N N4 N5 go gk v wr s) (y:Nat) (m:Mv) (hm:m.t<=255):
  Qj w a b l A n cc k M N N4 N5 go gk v ((((wr.setCell ⟨go,y*3,Ae⟩ (Aa Ac m.t)).setCell ⟨go,y*3+1,Ae⟩ (Aa Ab m.x)).setCell ⟨go,y*3+2,Ae⟩ (Aa Ab m.y)).setCell ⟨gk,y,Ae⟩ (.bool true)) ⟨s.out.set y m,s.known.set y true,s.wait⟩:=by
 have b1:=(((h.bx.set 2 (y*3) rfl (Aa Ac m.t)).set 2 (y*3+1) rfl (Aa Ab m.x)).set 2 (y*3+2) rfl (Aa Ab m.y)).set 4 y rfl (.bool true);rw[zQ,aI]at b1;refine⟨b1,(((h.mp.setCell _ _).setCell _ _).setCell _ _).setCell _ _,(((h.q.set Gy _ _).set Gy _ _).set Gy _ _).set Gy _ _,⟨by simp[h.ok.out],by simp[h.ok.known],h.ok.wait,λx hx=>?_⟩⟩;rcases List.mem_or_eq_of_mem_set hx with h1|rfl
 ·exact h.ok.t x h1
 ·exact hm
def Qj.push (h:Qj w a b l A n cc k M N N4 N5 go gk v wr s) (y:Nat) (hy:y<k)
  (hq:QAt w' w.heap.size [N,N4,N5,go,gk] v' (s.wait++[y])) (hw:(∃g j,w.heap.size<=g/\(∀x∈[N,N4,N5,go,gk],x≠g)/\w'=wr.setCell ⟨g,j,Ae⟩ (Aa Ab (y:Nat)))∨∃o,w'=wr.drew.alloc o):
  Qj w a b l A n cc k M N N4 N5 go gk v' w' ⟨s.out,s.known,s.wait++[y]⟩:=by
 have dw:Cb6 k ⟨s.out,s.known,s.wait++[y]⟩:=⟨h.ok.out,h.ok.known,λi hi=>by
  rcases Bl.1 hi with h1|h1
  ·exact h.ok.wait i h1
  ·have:i=y:=by simpa using h1
   subst this;exact hy,h.ok.t⟩
 rcases hw with⟨g,j,hg,hne,rfl⟩|⟨o,rfl⟩
 ·refine⟨h.bx.setOther hg (λi x hx=>hne _ ?_) j _,h.mp.setCell _ _,hq,dw⟩
  match i with
  |0=>simp[rC]at hx;subst hx;simp
  |1=>simp[rC]at hx;subst hx;simp
  |2=>simp[rC]at hx;subst hx;simp
  |3=>simp[rC]at hx;subst hx;simp
  |4=>simp[rC]at hx;subst hx;simp
  |i+5=>simp[rC]at hx
 ·exact⟨h.bx.drew.other o,h.mp.drew.below ((Ag wr.drew.heap.size wr.drew).alloc (Am _) o) h.mp.lt,hq,dw⟩
def rG (a b:Int) (A:Option Cj) (l:List Cr) (n cc:Nat) (w:Aj) (hp:Lo a b l) (hn:n=l.length) (h:Rd w A 3 n (crs l)) (hl:n<=1000000) (hQ:Qf w) (hT:Tn w):
  Al Dp 163 #[.agg #[a,b,Ad A n cc]] w (Bu0 (Uh a b l) w):=by
 obtain⟨F,hF⟩:=ey (Uh a b l);rw[hF];unfold Uh at hF;obtain⟨k1,k2,k3⟩:=Lh hp.sheet;have gw:=λw=>Vz a b w hp.sheet;have qr:=λ(w':Aj) (hb:Below w.heap.size w w')=>tK a b A l n cc w' hn (h.below hb) hl;have eh:=λid e w h=>Jj a b id e w hp.sheet h;generalize Hh a b=k at hF k1 k2 k3 gw;have PO:=Ah qr;have LZ:=Ah gw;have JD:=Ah eh;have HF:=Ah hF;have HP:=Ah hp;have HQ:=Ah hQ;have HT:=Ah hT;have CK:=Ah k1;have mk1:=λW=>Aw8 k k3 W;have mk2:=λW=>Xt k k3 W;have H:=(Bx.start w).new #[a,b,Ad A n cc] 28 rfl;clear hp hn h hl hQ hT hF gw qr eh k1;go_in;go_upto_region 1 with fail;generalize w.alloc _=W at H⊢;obtain⟨N,ct⟩:=Tw w.heap.size;rw[<-ct.out]at H⊢;obtain⟨⟨a0,a1,a2⟩,_⟩:=Hg (H.b 0);go_wp2_with fail;refine(PO.out _ H.below).mono ?_;rintro e w2 ⟨M,rfl,JK,AQ,hb⟩;have H2:=H.call hb;clear a0 a1 a2 hb H;obtain⟨N4,hN4⟩:=ey w2.heap.size;have H3:=H2.new #[.map (Af M)] 340 hN4;have lg:=AQ.below ((Ag w2.heap.size w2).alloc (Am _) (.cells #[.map (Af M)] 340)) AQ.lt;go_upto_region 2 with fail;generalize w2.alloc _=W3 at H3 lg⊢;clear hN4 H2 AQ;obtain⟨⟨a0,a1,a2⟩,_⟩:=Hg (H3.b 0);go_wp2_with fail;refine(LZ.out _).mono ?_;rintro e w4 ⟨rfl,hb⟩;have H4:=H3.call hb;have uk:=lg.below hb lg.lt;clear a0 a1 a2 hb H3 lg;have j3:(k:Int).toNat=k:=Ev k;go_upto_region 3 with fail;obtain⟨go,lm⟩:=ey w4.heap.size;obtain⟨N5,LJ⟩:=ey (go+1);have H5:=H4.new (Nm (Ba k mv0)).toArray 30 lm;have td:=uk.below ((Ag w4.heap.size w4).alloc (Am _) (.cells (Nm (Ba k mv0)).toArray 30)) uk.lt;have ZE:(w4.alloc (.cells (Nm (Ba k mv0)).toArray 30)).heap.size=N5:=by rw[<-LJ,<-lm];simp
 rw[lm,LJ];generalize w4.alloc _=W5 at H5 td ZE⊢;have H6:=H5.new #[Ad (Af ⟨go,0,Ae⟩) k k] 133 ZE;have ul:=td.below ((Ag W5.heap.size W5).alloc (Am _) (.cells #[Ad (Af ⟨go,0,Ae⟩) k k] 133)) td.lt;generalize W5.alloc _=W6 at H6 ul⊢;have c5:=Bz W6 N5 0 _ _ (0,0) (H6.b 3);simp only[Fv,Dk]at c5;clear ZE lm LJ H4 H5 uk td mk1;obtain⟨gk,xn⟩:=ey W6.heap.size;have H7:=H6.new (If (Ba k false)).toArray 4 xn;have CY:=ul.below ((Ag W6.heap.size W6).alloc (Am _) (.cells (If (Ba k false)).toArray 4)) ul.lt;go_upto_region 4 with fail;generalize W6.alloc _=W7 at H7 CY⊢;have dc:=H7.b 4
 have c7:W7.cell? ⟨gk,0,Ae⟩=Af (.bool false):=by
  rw[Bz W7 gk 0 _ _ (0,0) dc];obtain⟨j,rfl⟩:∃j,k=j+1:=⟨k-1,Gv⟩;rfl
 have z7:W7.frozen? ⟨gk,0,Ae⟩=false:=by simp[World.frozen?,dc]
 have q7:(0:Int)<k:=Gv;have H8:=H7.set 4 0 rfl (.bool true);have GR:=CY.setCell ⟨gk,0,Ae⟩ (.bool true);rw[aI]at H8
 have ek:(Ba k false).set 0 true=true::Ba (k-1) false:=by
  obtain⟨j,rfl⟩:∃j,k=j+1:=⟨k-1,Gv⟩;rfl
 rw[ek]at H8;have H9:Bx w (rC a b A n cc k M N N4 N5 go gk ⟨Ba k mv0,true::Ba (k-1) false,[0]⟩) (W7.setCell ⟨gk,0,Ae⟩ (.bool true)):=H8;clear H8;clear H6 ul c5 ek dc CY mk2 xn;go_upto_region 6 with fail;generalize W7.setCell _ _=W8 at H9 GR⊢;have wv:=H9.other (.cells #[Aa Ab 0] 3);have hM10:=GR.below ((Ag W8.heap.size W8).alloc (Am _) (.cells #[Aa Ab 0] 3)) GR.lt
 have hq10:QAt (W8.alloc (.cells #[Aa Ab 0] 3)) w.heap.size [N,N4,N5,go,gk] (Ad (Af ⟨W8.heap.size,0,Ae⟩) 1 1) [0]:=
  ⟨W8.heap.size,0,1,#[Aa Ab 0],rfl,H9.below.size,λx hx=>by
   simp at hx;rcases hx with rfl|rfl|rfl|rfl|rfl
   ·exact Nat.ne_of_lt (H9.lt 0 rfl)
   ·exact Nat.ne_of_lt (H9.lt 1 rfl)
   ·exact Nat.ne_of_lt (H9.lt 3 rfl)
   ·exact Nat.ne_of_lt (H9.lt 2 rfl)
   ·exact Nat.ne_of_lt (H9.lt 4 rfl),Ca W8 _,Gy,Gy,λi hi=>by
   have:i=0:=by simpa using hi
   subst this;rfl⟩
 have bo:Qj w a b l A n cc k M N N4 N5 go gk (Ad (Af ⟨W8.heap.size,0,Ae⟩) 1 1) (W8.alloc (.cells #[Aa Ab 0] 3)) ⟨Ba k mv0,true::Ba (k-1) false,[0]⟩:=
  ⟨wv,hM10,hq10,⟨Gy,Hv,λi hi=>by simp at hi;omega,λm hm=>by rw[List.eq_of_mem_replicate hm];exact(by decide:0<=255)⟩⟩
 have ju:(⟨Ba k mv0,true::Ba (k-1) false,[0]⟩:RS).mm<=k+1:=by simp[RS.mm,unk]
 clear H9 GR wv hM10 hq10;obtain⟨g8,GZ⟩:=ey W8.heap.size;rw[GZ]at bo;go_upto_region 7 with fail;clear PO LZ c7 z7 q7 GZ j3;have HOM:=Ah ju;have dx:=Ah bo;clear ju bo H7
 go_loopw [8] (λv wr=>∃(fuel:Nat) (s:RS),Qj w a b l A n cc k M N N4 N5 go gk v wr s/\s.mm<=fuel/\fuel<=k+1/\Hid (Sa a b l fuel s=F)) (λv wr=>lJ wr gk+By2 v)
 case atStart=>exact⟨k+1,_,dx.out,HOM.out,Am _,HF⟩
 obtain⟨fuel,s,hs,ju,hfu,HG⟩:=hrel;obtain⟨out,kn,wt⟩:=s;have FH:=hs.mm
 cases wt with
 |nil=>
  obtain⟨g,o,c,cw,rfl,_⟩:=hs.q
  have hG:Af out=F:=by
   have:=HG.out
   cases fuel with
   |zero=>exact this
   |succ f=>exact this
  have e5:=Bz wr N5 0 _ _ (0,0) (hs.bx.b 3);simp only[Fv,Dk]at e5;have HE:=Ah hs;have hG':=Ah hG;clear hs hG FH ju HG;go_wp2_with fail
  go_ret2
  rw[<-hG'.out];have hk:out.length=k:=HE.out.ok.out;exact⟨HE.out.bx.below,go,by rw[hk];rfl,HE.out.bx.lo 2 _ _ _ rfl,HE.out.bx.b 2⟩
 |cons x r=>
  obtain⟨g,o,c,rfl,hc,bj,U_⟩:=hs.q.head;have hx:x<k:=hs.ok.wait x Gy;obtain⟨f,rfl⟩:∃f,fuel=f+1:=⟨fuel-1,by have:(⟨out,kn,x::r⟩:RS).mm=unk kn+(r.length+1):=rfl;omega⟩;obtain⟨B,hB⟩:=ey (unk kn+r.length);have jf:(⟨out,kn,x::r⟩:RS).mm=B+1:=by rw[<-hB];rfl
  have dm:(⟨out,kn,r⟩:RS).mm=B:=hB;have SE:Hid ((Ui a b l x (3-0) ⟨out,kn,r⟩).bind (Sa a b l f)=F):=Ah (by rw[Nat.sub_zero,<-rE];exact HG.out);have qw:=Ah (λsv (hv:QAt wr w.heap.size [N,N4,N5,go,gk] sv r)=>(⟨hs.bx,hs.mp,hv,⟨hs.ok.out,hs.ok.known,λi hi=>hs.ok.wait i (List.mem_cons_of_mem _ hi),hs.ok.t⟩⟩:Qj w a b l A n cc k M N N4 N5 go gk sv wr ⟨out,kn,r⟩));have HB:=Ah (⟨jf,dm,ju,FH⟩:_/\_/\_/\_);have p1:(0:Int)<(r.length:Int)+1:=Gv;have p2:(1:Int)<=(r.length:Int)+1:=Gv
  have hqA:c=1->QAt wr w.heap.size [N,N4,N5,go,gk] (Ad (Af ⟨g,o,Ae⟩) r.length 0) r:=λjy=>by
   have VC:r=[]:=Et.1 Gv;subst VC;obtain⟨g',o',c',cw,he,h2,h3,h4,h5,h6,h7⟩:=U_;injection he with he1 yd L_;injection he1 with he1;injection he1 with he1 _ _;subst he1
   exact⟨g,o,0,cw,rfl,h2,h3,h4,Am _,by
    have:=(Au.1 (Ad2 h4 bj)).1;omega,λi hi=>absurd hi Gy⟩
  have HQA:=Ah hqA;have HQB:=Ah U_;clear hs HG U_ jf dm ju FH hqA;go_upto_region 9 with fail;go_cut [8]from 27 to 34 (λs8 wx=>wr=wx/\QAt wr w.heap.size [N,N4,N5,go,gk] s8 r)
  case first=>
   go_wp2_with fail
   all_goals go_meet
   all_goals refine⟨rfl,?_⟩
   ·exact HQA.out (by assumption)
   ·exact HQB.out
  case rest=>
  obtain⟨rfl,hv⟩:=hcut;have HS3:=Ah (qw.out _ hv);clear qw hv HQA HQB bj p1 p2;go_wp2
  go_loopw [35,8] (λi v wr=>∃(e:Nat) (s:RS),e<=3/\i= Aa Ac e/\Qj w a b l A n cc k M N N4 N5 go gk v wr s/\s.mm<=B/\Hid ((Ui a b l x (3-e) s).bind (Sa a b l f)=F)) (λi _ _=>3-(intOf i).toNat)
  case atStart=>exact⟨0,_,Gv,rfl,HS3.out,Nat.le_of_eq HB.out.2.1,SE⟩
  obtain⟨e,s,he,rfl,hs,hsB,HG⟩:=hrel;by_cases h3:e<3
  ·have hrem:Ui a b l x (3-e) s=(Ow a b l x e s).bind (Ui a b l x (3-(e+1))):=by
    have:e=0∨e=1∨e=2:=Gv;rcases this with rfl|rfl|rfl
    ·rfl
    ·rfl
    ·rfl
   have hG:=HG.out;rw[hrem]at hG;clear hrem HG;obtain⟨⟨a0,a1,a2⟩,_⟩:=Hg (hs.bx.b 0);have HS:=Ah hs;have lx:=Ah hsB;have q1:(e:Int)<3:=Gv;have q2:(e:Int)<=255:=Gv;have eh:=JD.out x e;have OG:=fR (i:=(x:Int)) (e:=(e:Int)) HP.out.sheet;have jx:=Ba5 (a:=a) (b:=b) (l:=l) (id:=x) (e:=e) (s:=s);have ut:=λy=>wH (a:=a) (b:=b) (l:=l) (id:=x) (e:=e) (y:=y) (s:=s);have jr:=λy=>Ba6 (a:=a) (b:=b) (l:=l) (id:=x) (e:=e) (y:=y) (s:=s);obtain⟨⟨nn,er⟩,YH⟩:=ey (nbI a b x e);rw[YH]at eh OG jx ut jr;have MI:=Ah (⟨jx,ut,jr⟩:_/\_/\_);have qm:=Ah eh;have HG:=Ah hG;clear hs hsB hG eh YH jx ut jr;go_wp2_with fail;refine(qm.out _ Gv (HQ.out.below HS.out.bx.below).qt).mono ?_;rintro en w2 ⟨rfl,aj⟩;have qw:=Ah (HS.out.call aj);clear qm HS aj;by_cases her:er=0
   ·subst her;obtain⟨y,rfl⟩:∃y:Nat,(y:Int)=nn:=⟨nn.toNat,Int.toNat_of_nonneg (OG rfl).1⟩;have KM:y<k:=by have h1:=(OG rfl).2;have h2:=CK.out;omega
    have ut:=MI.out.2.1 y rfl;have jr:=MI.out.2.2 y rfl;have E':=Ah λ(w':Aj) (h:Qj w a b l A n cc k M N N4 N5 go gk u8 w' s)=>sW a b l s.out x e N N4 N5 M go k w' HP.out (HQ.out.below h.bx.below) (HT.out.below h.bx.below) h.ok.out.symm hx Gv h.ok.t (Hg (h.bx.b 0)).1.1 (Hg (h.bx.b 0)).1.2.1 (Bz w' N4 0 _ _ (0,0) (h.bx.b 1)) h.mp (Bz w' N5 0 _ _ (0,0) (h.bx.b 3)) (h.bx.range 2 rfl);have vi:=mZ a b l s.out x e qw.out.ok.t;obtain⟨⟨mt,mx,my⟩,hm⟩:=ey (Kf a b l s.out x e);rw[hm]at ut jr E' vi;have ff:=Ah (⟨ut,jr⟩:_/\_);clear hm OG ut jr MI;unfold fD;dsimp only;clear a0 a1 a2;go_wp2_with fail;refine(E'.out _ qw.out).mono ?_;rintro en3 w3 ⟨rfl,bh⟩;have DL:=(qw.out.call bh).call ((Ag w3.heap.size w3).alloc (Am _) (.cells #[Aa Ac mt,mx,my] 30));have hP:=Ca w3 (.cells #[Aa Ac mt,mx,my] 30);have hqP:=((qw.out.call bh).q.avoid (Am w3.heap.size)).below ((Ag w3.heap.size w3).alloc (Am _) (.cells #[Aa Ac mt,mx,my] 30));have A_:go≠w3.heap.size:=Nat.ne_of_lt ((qw.out.call bh).bx.lt 2 rfl);have hPk:gk≠w3.heap.size:=Nat.ne_of_lt ((qw.out.call bh).bx.lt 4 rfl);clear E' qw bh;unfold Mv.v;go_upto_region 16 with fail;obtain⟨P,hPP⟩:=ey w3.heap.size;obtain⟨W4,QJ⟩:=ez (w3.alloc (.cells #[Aa Ac mt,mx,my] 30));rw[hPP]at hP hqP A_ hPk⊢;rw[<-QJ]at DL hP hqP⊢;clear hPP QJ;have hyo:y<s.out.length:=by rw[DL.ok.out];exact KM
    obtain⟨o0,o1,o2⟩:=Xv (DL.bx.range 2 rfl) y hyo;obtain⟨⟨d0,d1,d2⟩,dz⟩:=Hg hP
    have xn:W4.cell? ⟨gk,y,Ae⟩=Af (.bool (s.known.getD y false)):=by
     have LW:y<s.known.length:=by rw[DL.ok.known];exact KM
     rw[Bz W4 gk y _ _ (0,0) (DL.bx.b 4)];simp[If,List.getD,LW]
    have e5:=Bz W4 N5 0 _ _ (0,0) (DL.bx.b 3);simp only[Fv,Dk]at e5;obtain⟨kb,zw⟩:=ey (s.known.getD y false);rw[zw]at xn;have y1:(y:Int)<(k:Int):=Gv
    cases kb with
    |true=>
     have hR:=ff.out.1 zw;have QR:s.out.getD y mv0=s.out[y]:=by simp[List.getD,hyo]
     rw[QR]at hR;obtain⟨⟨ot,ox,oy⟩,ho⟩:=ey (s.out[y]);rw[ho]at hR o0 o1 o2;have EE:=Ah DL;clear DL hP dz ff zw ho QR vi hqP A_ hPk;go_upto_region 19 with fail;by_cases hq:(⟨ot,ox,oy⟩:Mv)=⟨mt,mx,my⟩
     ·injection hq with YN uu hq3;subst YN uu hq3;rw[Hc rfl]at hR
      have BB:Hid ((Ui a b l x (3-(e+1)) s).bind (Sa a b l f)=F):=Ah (by
       have h:=HG.out;rw[hR]at h;exact h)
      clear hR HG
      go_quiet (fail)
      have KI:=EE.out.call (Ic (Ag W4.heap.size W4) nq);generalize W4.drewN nq=W9 at KI⊢;have i_:=Ah KI;clear d0 d1 d2 o0 o1 o2 xn e5 EE KI;go_wp2;exact⟨⟨e+1,s,Gv,by go_num,i_.out,lx.out,BB⟩,by simp[intOf];omega⟩
     ·have UC:∀(p q:Result Next),(if((ot:Nat):Int)=(mt:Int)then if ox=mx then if oy=my then p else q else q else q)=q:=λp q=>by
       split
       ·rename_i h1
        split
        ·rename_i h2
         split
         ·rename_i h3;exact absurd (by rw[Int.ofNat.inj h1,h2,h3]) hq
         ·rfl
        ·rfl
       ·rfl
      rw[Ha hq]at hR
      have hF:Ae=F:=by
       have h:=HG.out;rw[hR]at h;exact h
      clear hq hR HG
      go_quiet (fail)
      have KI:=EE.out.call (Ic (Ag W4.heap.size W4) nq);generalize W4.drewN nq=W9 at KI⊢;have i_:=Ah KI;clear d0 d1 d2 o0 o1 o2 xn e5 EE KI UC;go_wp2_with fail
      go_ret2
      rw[<-hF];exact⟨i_.out.bx.below,rfl⟩
    |false=>
     have hR:=ff.out.2 zw hyo
     have BB:Hid ((Ui a b l x (3-(e+1)) ⟨s.out.set y ⟨mt,mx,my⟩,s.known.set y true,s.wait++[y]⟩).bind (Sa a b l f)=F):=Ah (by
      have h:=HG.out;rw[hR]at h;exact h)
     clear hR ff HG;have PE:y*3+3<=(Nm s.out).length:=by rw[Ve];omega
     have th:=DL.bx.there 2 rfl;simp only[Fq]at th;have z0:=(th (y*3) Gv).2;have z1:=(th (y*3+1) Gv).2;have z2:=(th (y*3+2) Gv).2;have zk:=(DL.bx.there 4 rfl y (by simp[If];rw[DL.ok.known];exact KM)).2;simp only[Bu]at z0 z1 z2 zk;have EE:=Ah DL;have HKB:=Ah zw;have ngk:go≠gk:=DL.bx.ne 2 4 He rfl rfl;have hmt':(mt:Int)<=255:=Gv;clear DL dz zw th PE;have HQP:=Ah (⟨hqP,hP⟩:_/\_);clear hqP hP;go_upto_region 18 with fail;have KI:=EE.out.put y ⟨mt,mx,my⟩ vi;dsimp only at KI;have hq5:=(((HQP.out.1.set (b:=go) Gy (y*3) (Aa Ac mt)).set (b:=go) Gy (y*3+1) (Aa Ab mx)).set (b:=go) Gy (y*3+2) (Aa Ab my)).set (b:=gk) Gy y (.bool true);have IJ:=(Dq _ ⟨gk,y,Ae⟩ (.bool true) P (Ne.symm hPk)).trans ((Dq _ ⟨go,y*3+2,Ae⟩ (Aa Ab my) P (Ne.symm A_)).trans ((Dq _ ⟨go,y*3+1,Ae⟩ (Aa Ab mx) P (Ne.symm A_)).trans ((Dq W4 ⟨go,y*3,Ae⟩ (Aa Ac mt) P (Ne.symm A_)).trans HQP.out.2)));generalize (((W4.setCell _ _).setCell _ _).setCell _ _).setCell _ _=W5 at KI hq5 IJ⊢;clear HQP A_ hPk d0 d1 d2 o0 o1 o2 xn e5 z0 z1 z2 zk;have YT:=KI.call ((Ag W5.heap.size W5).alloc (Am _) (.cells #[y] 3))
     have hy6:(W5.alloc (.cells #[y] 3)).cell? ⟨W5.heap.size,0,Ae⟩=Af (Aa Ab (y:Nat)):=by
      rw[Bz _ _ 0 _ _ (0,0) (Ca W5 _)];rfl
     have hun:=Ab6 s.known y (by rw[EE.out.ok.known];exact KM) HKB.out;have qu:=lx.out;have FH:s.mm=unk s.known+s.wait.length:=rfl;have jf:=HB.out
     obtain⟨v',w',ah,U_,hw'⟩:=(hq5.below ((Ag W5.heap.size W5).alloc (Am _) (.cells #[y] 3))).push Gv YT.bx.below.size (λx hx=>by
      simp at hx;rcases hx with rfl|rfl|rfl|rfl|rfl|rfl
      ·exact YT.bx.lt 0 rfl
      ·exact YT.bx.lt 1 rfl
      ·exact YT.bx.lt 3 rfl
      ·exact YT.bx.lt 2 rfl
      ·exact YT.bx.lt 4 rfl
      ·exact Br (Au.1 IJ).1 Gy) y W5.heap.size 1 hy6
     have hs7:=YT.push y KM (U_.sub Gy) (hw'.imp (λ⟨g,j,h1,h2,h3⟩=>⟨g,j,h1,λx hx=>h2 x (List.mem_append_left _ hx),h3⟩) id);have Q9:=kept ((Ag W5.heap.size W5).alloc (Am _) (.cells #[y] 3)) IJ (Au.1 IJ).1
     have hp7:w'.heap[P]? =Af (.cells #[Aa Ac mt,mx,my] 30 (0,0)):=by
      rcases hw' with⟨g,j,_,h2,rfl⟩|⟨o,rfl⟩
      ·exact(Dq _ ⟨g,j,Ae⟩ (Aa Ab (y:Nat)) P (h2 P Gy)).trans Q9
      ·exact kept ((Ag _ (W5.alloc (.cells #[y] 3)).drew).alloc (Am _) o) Q9 (Au.1 Q9).1
     obtain⟨⟨d0,d1,d2⟩,dz⟩:=Hg hp7;have hyo':y<(s.out.set y ⟨mt,mx,my⟩).length:=by simpa using hyo
     obtain⟨o0,o1,o2⟩:=Xv (hs7.bx.range 2 rfl) y hyo';simp only[Cq]at o0 o1 o2;have e5:=Bz w' N5 0 _ _ (0,0) (hs7.bx.b 3);simp only[Fv,Dk]at e5;have SV:=Ah hs7;have bf:=Ah ah
     have PR:Hid ((⟨s.out.set y ⟨mt,mx,my⟩,s.known.set y true,s.wait++[y]⟩:RS).mm<=B):=Ah (by
      have e1:(⟨s.out.set y ⟨mt,mx,my⟩,s.known.set y true,s.wait++[y]⟩:RS).mm=unk (s.known.set y true)+(s.wait++[y]).length:=rfl;rw[e1,Bh,List.length_singleton];omega)
     clear KI YT hy6 U_ hw' ah hun FH jf qu EE hs7 Q9 hp7 IJ hq5 dz hyo';go_wp2_with (at_builtin;refine Lib.wpList_append_run _ rfl _ _ _ _ rfl _ _ rfl rfl _ _ bf.out ?_)
     go_quiet (fail)
     have DM:=SV.out.call (Ic (Ag w'.heap.size w') nq);generalize w'.drewN nq=W9 at DM⊢;have pz:=Ah DM;clear d0 d1 d2 o0 o1 o2 e5 SV DM;go_wp2;exact⟨⟨e+1,_,Gv,by go_num,pz.out,PR.out,BB⟩,by simp[intOf];omega⟩
   ·have BB:Hid ((Ui a b l x (3-(e+1)) s).bind (Sa a b l f)=F):=Ah (by
     have h:=HG.out;rw[MI.out.1 her]at h;exact h)
    unfold fD;dsimp only;clear HG MI OG a0 a1 a2;go_wp2;exact⟨⟨e+1,s,Gv,by go_num,qw.out,lx.out,BB⟩,by simp[intOf];omega⟩
  ·have:e=3:=Gv;subst this;have HE:=Ah hs;have lx:=Ah hsB;clear hs hsB;go_wp2_with fail;have h1:=HE.out.mm;have h2:=lx.out;have h3:=HB.out;exact⟨⟨f,s,HE.out,Gv,Gv,HG⟩,Gv⟩
def Nu (l:List Cl):List Ak:=l.flatMap Cl.cells
def Po (c:Cl):c.cells.length=3:=rfl
def Om (l:List Cl):(Nu l).length=l.length*3:=by
 unfold Nu;induction l with|nil=>rfl|cons x l ih=>simp[Bf,ih,Po];omega
def Bh9 (l:List Cl) (n:Nat) (c:Cl):(((Nu l).toArray.setIfInBounds (n*3) (Aa Ab c.x)).setIfInBounds (n*3+1) (Aa Ab c.y)).setIfInBounds (n*3+2) (Aa Ac c.q)=(Nu (l.set n c)).toArray:=by
 have bi:∀(l:List Cl) (i f:Nat),i<l.length->f<3->(Nu l)[i*3+f]? =(match l[i]? with|some m=>m.cells[f]? |none=>Ae):=λl i f hi hf=>by
  rw[Aw hi];exact It Cl.cells 3 Po _ i f hi hf
 apply Array.ext';simp only[Array.toList_setIfInBounds];apply List.ext_getElem?;intro j;by_cases hj:j<l.length*3
 ·obtain⟨i,f,hf,rfl⟩:∃i f,f<3/\j=i*3+f:=⟨j/3,j%3,Gv,Gv⟩;have hi:i<l.length:=Gv;rw[bi (l.set n c) i f (by simpa using hi) hf];simp only[List.getElem?_set,List.length_set,Om];by_cases e:n=i
  ·subst e;rw[Hc rfl,Hc hi];have h3:f=0∨f=1∨f=2:=Gv;rcases h3 with rfl|rfl|rfl
   ·simp[Cl.cells];omega
   ·simp[Cl.cells];omega
   ·simp[Cl.cells];omega
  ·rw[Ha e,Ha Gv,Ha Gv,Ha Gv,bi l i f hi hf]
 ·rw[Ej (by simp[Om];omega),Ej (by simp[Om];omega)]
def Bl9 (k:Nat):madeCells #[Aa Ab 0,Aa Ab 0,Aa Ac 0] (k*3)=(Nu (Ba k cl0)).toArray:=by
 apply Array.ext';apply List.ext_getElem?;intro j;by_cases hj:j<k*3
 ·obtain⟨i,f,hf,rfl⟩:∃i f,f<3/\j=i*3+f:=⟨j/3,j%3,Gv,Gv⟩;have hi:i<k:=Gv;have h1:(Nu (Ba k cl0))[i*3+f]? =(((Ba k cl0)[i]'(by simpa using hi)).cells)[f]? :=It Cl.cells 3 Po _ i f (by simpa using hi) hf;rw[h1];have h3:f=0∨f=1∨f=2:=Gv;have hm:(i*3+f)%3=f:=Gv;simp[madeCells,hj,hm];rcases h3 with rfl|rfl|rfl
  ·rfl
  ·rfl
  ·rfl
 ·rw[Ej (by simp[madeCells];omega),Ej (by simp[Om];omega)]
def Aw7 (k:Nat) (hk:k<=1024) (W:Aj):(Instr.makeSlice 146 (Aa Ab k) (Aa Ab k)).run Dp W= .ok (Ad (Af ⟨W.heap.size,0,Ae⟩) k k) (W.alloc (.cells (Nu (Ba k cl0)).toArray 90)):=by
 have BU:(Tryz.prog.info? 90).map (λi=>(i.zero,i.size,i.bytes))=Af (Af (.agg #[Aa Ab 0,Aa Ab 0,Aa Ac 0]),3,24):=Gx;obtain⟨i,hi,hz,hs,hb⟩:=info_parts BU;have h:=run_make (P:=Dp) W 146 90 i _ Tryz.underlying146 hi hz .i64 .i64 k k Gv Gv (by rw[hb];omega) Gv;rw[h];simp only[Ev,hs];have e:(Value.agg #[Aa Ab 0,Aa Ab 0,Aa Ac 0]).cells= #[Aa Ab 0,Aa Ab 0,Aa Ac 0]:=by rfl
 rw[e,Bl9]
def Af5 (a:Int) (root:Mv) (m:List Mv) (i:Nat):Cl:=(Pr (Lc (m.getD i mv0) root).1 (Hf a i)).1
def Ma (root:Mv) (m:List Mv) (i:Nat):List Mv:=(m.take i).map (λx=>(Lc x root).1)++m.drop i
def Ob (a:Int) (root:Mv) (m:List Mv) (i:Nat):List Cl:=(Ds i).map (Af5 a root m)++Ba (m.length-i) cl0
def Wm (root:Mv) (m:List Mv) (i:Nat):(Ma root m i).length=m.length:=by simp[Ma];omega
def jL (a:Int) (root:Mv) (m:List Mv) (i:Nat) (hi:i<=m.length):(Ob a root m i).length=m.length:=by simp[Ob];omega
def Ay9 (root:Mv) (m:List Mv) (i:Nat) (hi:i<m.length) (h:i<(Ma root m i).length):(Ma root m i)[i]=m[i]:=by
 simp only[Ma];rw[List.getElem_append_right Hv];simp[Nat.min_eq_left (Bw hi)]
def Aj1 (root:Mv) (m:List Mv) (i:Nat) (hi:i<m.length):(Ma root m i).set i (Lc m[i] root).1=Ma root m (i+1):=by
 apply Gk
 ·simp[Ma];omega
 ·intro j h1 h2;have hj:j<m.length:=by simp[Wm]at h1;exact h1
  simp only[Ma,List.getElem_set,List.getElem_append,Bp,Bm,Ge,Dd,List.getElem_drop];by_cases e:i=j
  ·subst e;rw[Hc rfl,dif_pos Gv]
  ·rw[Ha e];by_cases ac:j<i
   ·rw[dif_pos Gv,dif_pos Gv]
   ·rw[dif_neg Gv,dif_neg Gv]
    congr 1;omega
def jM (a:Int) (root:Mv) (m:List Mv) (i:Nat) (hi:i<m.length):(Ob a root m i).set i (Af5 a root m i)=Ob a root m (i+1):=by
 apply Gk
 ·simp[Ob];omega
 ·intro j h1 h2;have hj:j<m.length:=by simp[Ob]at h1;omega
  simp only[Ob,List.getElem_set,List.getElem_append,Bp,List.length_range,Ge,List.getElem_range,List.getElem_replicate];by_cases e:i=j
  ·subst e;rw[Hc rfl,dif_pos Gv]
  ·rw[Ha e];by_cases ac:j<i
   ·rw[dif_pos ac,dif_pos Gv]
   ·rw[dif_neg ac,dif_neg Gv]
def iN (a b:Int) (l:List Cr) (root:Mv) (m:List Mv) (hr:root.ok=true) (hm:Uh a b l=Af m) (h:∀j,j<m.length->Lp a root m j=0):Ie a b l root=((Ma root m m.length,Ob a root m m.length),0):=by
 unfold Ie;rw[hr,hm]
 have hf:(Ds m.length).find? (λi=>decide (Lp a root m i≠0))=Ae:=by
  rw[List.find?_eq_none];intro j hj;simp[h j (by simpa using hj)]
 simp only[Bool.true_eq_false,if_false,hf];simp[Ma,Ob];intro i _;simp[Af5]
def nK (a b:Int) (l:List Cr) (root:Mv) (m:List Mv) (i:Nat) (hr:root.ok=true) (hm:Uh a b l=Af m) (hi:i<m.length) (h:∀j,j<i->Lp a root m j=0) (hb:Lp a root m i≠0):Ie a b l root=(([],[]),Lp a root m i):=by
 unfold Ie;rw[hr,hm]
 have hf:(Ds m.length).find? (λi=>decide (Lp a root m i≠0))=Af i:=by
  rw[List.find?_eq_some_iff_getElem];refine⟨by simp[hb],i,by simpa using hi,Gy,λj hj=>?_⟩;simp[h j hj]
 simp only[Bool.true_eq_false,if_false,hf]
def Xl (a b:Int) (l:List Cr) (root:Mv) (hr:root.ok=false):Ie a b l root=(([],[]),1):=by
 unfold Ie;rw[Hc hr]
def dV (a b:Int) (l:List Cr) (root:Mv) (hr:root.ok=true) (hm:Uh a b l=Ae):Ie a b l root=(([],[]),11):=by
 unfold Ie;rw[hr,hm];rfl
def rY (x y:Mv) (h:(Lc x y).2=0):(Lc x y).1.ok=true:=by
 unfold Lc at h⊢
 split
 ·rename_i hc;rw[Hc hc]at h;unfold Vq gY at h⊢
  split
  ·rename_i ho;exact ho
  ·rename_i ho;rw[Ha ho]at h;cases h
 ·rename_i hc;rw[Ha hc]at h;cases h
def fZ {id e k:Nat} (h:Ow a b l id e s=Af s') (hl:s.out.length=k) (ht:∀m∈s.out,m.t<=255):s'.out.length=k/\∀m∈s'.out,m.t<=255:=by
 unfold Ow at h
 split at h
 ·injection h with h;subst h;exact⟨hl,ht⟩
 ·dsimp only at h
  split at h
  ·split at h
   ·injection h with h;subst h;exact⟨hl,ht⟩
   ·cases h
  ·split at h
   ·injection h with h;subst h;refine⟨by simpa using hl,λm hm=>?_⟩;rcases List.mem_or_eq_of_mem_set hm with h1|rfl
    ·exact ht m h1
    ·exact mZ a b l s.out id e ht
   ·cases h
def rD {id k:Nat} (h:Qn a b l id s=Af s') (hl:s.out.length=k) (ht:∀m∈s.out,m.t<=255):s'.out.length=k/\∀m∈s'.out,m.t<=255:=by
 unfold Qn at h
 cases h0:Ow a b l id 0 s with
 |none=>rw[h0]at h;cases h
 |some s1=>
  rw[h0]at h;simp only[Option.bind_some]at h;obtain⟨q1,q2⟩:=fZ h0 hl ht
  cases h1:Ow a b l id 1 s1 with
  |none=>rw[h1]at h;cases h
  |some s2=>
   rw[h1]at h;simp only[Option.bind_some]at h;obtain⟨q3,q4⟩:=fZ h1 q1 q2;exact fZ h q3 q4
def jS:∀(f:Nat) {s:RS} {m:List Mv},Sa a b l f s=Af m->s.out.length=k->(∀m∈s.out,m.t<=255)->m.length=k/\∀x∈m,x.t<=255
 |0,s,m,h,hl,ht=>by
  injection h with h;subst h;exact⟨hl,ht⟩
 |f+1,s,m,h,hl,ht=>by
  obtain⟨out,kn,wt⟩:=s
  cases wt with
  |nil=>injection h with h;subst h;exact⟨hl,ht⟩
  |cons x r=>
   have h:(Qn a b l x ⟨out,kn,r⟩).bind (Sa a b l f)=Af m:=h
   cases h0:Qn a b l x ⟨out,kn,r⟩with
   |none=>rw[h0]at h;cases h
   |some s1=>
    rw[h0]at h;simp only[Option.bind_some]at h;obtain⟨q1,q2⟩:=rD h0 hl ht;exact jS f h q1 q2
def gC {m:List Mv} (h:Uh a b l=Af m):m.length=Hh a b/\∀x∈m,x.t<=255:=by
 unfold Uh at h;exact jS _ h Gy (λx hx=>by rw[List.eq_of_mem_replicate hx];exact(by decide:0<=255))
def Bf6 (r:(List Mv×List Cl)×Int) (w:Aj) (e:Ending) (w':Aj):Prop:=Below w.heap.size w w'/\
 ((r.2≠0/\e= .returned (.tuple #[Ad Ae 0 0,Ad Ae 0 0,Aa Ab r.2]))∨
  (r.2=0/\∃g h,e= .returned (.tuple #[Ad (Af ⟨g,0,Ae⟩) r.1.1.length r.1.1.length,Ad (Af ⟨h,0,Ae⟩) r.1.2.length r.1.2.length,Aa Ab 0])/\w.heap.size<=g/\w.heap.size<=h/\g≠h/\w'.heap[g]? =Af (Co (Nm r.1.1).toArray 30 (0,0))/\w'.heap[h]? =Af (Co (Nu r.1.2).toArray 90 (0,0))))
def nO (a b:Int) (A:Option Cj) (n cc:Nat) (root:Mv) (N R go gi:Nat) (ms:List Mv) (is:List Cl):List (Nat×Array Ak×Ck):=
 [(N,#[a,b,Ad A n cc],28),(R,#[Aa Ac root.t,Aa Ab root.x,Aa Ab root.y],30),(go,(Nm ms).toArray,30),(gi,(Nu is).toArray,90)]
def Bx.add {l:List (Nat×Array Ak×Ck)} (h:Bx w l w3) (hb:Below w3.heap.size w3 w4) (hg:w3.heap.size<=g) (hblk:w4.heap[g]? =Af (Co cs t (0,0))):Bx w (l++[(g,cs,t)]) w4:=by
 have h4:=h.call hb
 have hk:∀(i g':Nat) (ds:Array Ak) (u:Ck),(l++[(g,cs,t)])[i]? =Af (g',ds,u)->(i<l.length/\l[i]? =Af (g',ds,u))∨(i=l.length/\g'=g/\ds=cs/\u=t):=by
  intro i g' ds u hi;by_cases hl:i<l.length
  ·rw[Fk hl]at hi;exact .inl ⟨hl,hi⟩
  ·have uo:i<(l++[(g,cs,t)]).length:=(Ax.1 hi).1;simp at uo;have:i=l.length:=Gv;subst this;rw[Eg (Am _),Fo]at hi;simp at hi;exact .inr ⟨rfl,hi.1.symm,hi.2.1.symm,hi.2.2.symm⟩
 refine⟨h4.below,λi g' ds u hi=>?_,λi g' ds u hi=>?_,λi j g' ds u es v hi hj=>?_⟩
 ·rcases hk i g' ds u hi with⟨_,h1⟩|⟨_,rfl,rfl,rfl⟩
  ·exact h4.blk i g' ds u h1
  ·exact hblk
 ·rcases hk i g' ds u hi with⟨_,h1⟩|⟨_,rfl,rfl,rfl⟩
  ·exact h.lo i g' ds u h1
  ·exact Bt h.below.size hg
 ·rcases hk i g' ds u hi with⟨_,h1⟩|⟨h1,rfl,_,_⟩
  ·rcases hk j g' es v hj with⟨_,h2⟩|⟨_,rfl,_,_⟩
   ·exact h.inj i j g' ds u es v h1 h2
   ·exact absurd (h.lt i h1) Gv
  ·rcases hk j _ es v hj with⟨_,h2⟩|⟨h2,_,_,_⟩
   ·exact absurd (h.lt j h2) Gv
   ·omega
def As0 {l:List Cl} (h:w.rangeAt g 0 (Nu l)) (i:Nat) (hi:i<l.length):
  w.cell? ⟨g,i*3,Ae⟩=Af (Aa Ab l[i].x)/\w.cell? ⟨g,i*3+1,Ae⟩=Af (Aa Ab l[i].y)/\w.cell? ⟨g,i*3+2,Ae⟩=Af (Aa Ac l[i].q):=by
 have bi:∀f,f<3->(Nu l)[i*3+f]? =(l[i].cells)[f]? :=λf hf=>It Cl.cells 3 Po _ i f hi hf;have h0:=h (i*3+0) _ ((bi 0 Gv).trans rfl);have h1:=h (i*3+1) _ ((bi 1 Gv).trans rfl);have h2:=h (i*3+2) _ ((bi 2 Gv).trans rfl);simp only[Bu,Df]at h0 h1 h2;exact⟨h0,h1,h2⟩
def As2 {n cc N R go gi P C:Nat} {ms:List Mv} {is:List Cl} {x y:Array Ak} (h:Bx w (nO a b A n cc root N R go gi ms is++[(P,x,tx),(C,y,ty)]) wr) (j:Nat) (hj:j<is.length):
  wr.frozen? ⟨gi,j*3,Ae⟩=false/\wr.frozen? ⟨gi,j*3+1,Ae⟩=false/\wr.frozen? ⟨gi,j*3+2,Ae⟩=false:=by
 have th:=h.there 3 rfl;have PE:j*3+3<=(Nu is).length:=by rw[Om];omega
 simp only[Fq]at th;have z0:=(th (j*3) Gv).2;have z1:=(th (j*3+1) Gv).2;have z2:=(th (j*3+2) Gv).2;simp only[Bu]at z0 z1 z2;exact⟨z0,z1,z2⟩
def kT (a b:Int) (A:Option Cj) (l:List Cr) (n cc:Nat) (root:Mv) (w:Aj) (hp:Lo a b l) (hn:n=l.length) (h:Rd w A 3 n (crs l)) (hl:n<=1000000) (ht:root.t<=255) (hQ:Qf w) (hT:Tn w):
  Al Dp 102 #[.agg #[a,b,Ad A n cc],.agg #[Aa Ac root.t,Aa Ab root.x,Aa Ab root.y]] w (Bf6 (Ie a b l root) w):=by
 obtain⟨F,hF⟩:=ey (Ie a b l root);rw[hF];have HFr:=Ah λ(hr:root.ok=false)=>hF.symm.trans (Xl a b l root hr);have HFn:=Ah λ(hr:root.ok=true) (hm:Uh a b l=Ae)=>hF.symm.trans (dV a b l root hr hm);have HFa:=Ah λ(m:List Mv) (hr:root.ok=true) (hm:Uh a b l=Af m) (h:∀j,j<m.length->Lp a root m j=0)=>hF.symm.trans (iN a b l root m hr hm h);have HFe:=Ah λ(m:List Mv) (i:Nat) (hr:root.ok=true) (hm:Uh a b l=Af m) (hi:i<m.length) (h:∀j,j<i->Lp a root m j=0) (hb:Lp a root m i≠0)=>hF.symm.trans (nK a b l root m i hr hm hi h hb);obtain⟨k1,k2,k3⟩:=Lh hp.sheet;have WJ:=Ah λ(w':Aj) (hb:Below w.heap.size w w')=>aZ a b A l n cc w' hn (h.below hb) hp (hQ.below hb).qt;have ED:=Ah λ(w':Aj) (hb:Below w.heap.size w w')=>rG a b A l n cc w' hp hn (h.below hb) hl (hQ.below hb) (hT.below hb);obtain⟨rt,rx,ry⟩:=root;dsimp only at ht;have c_:=Ah λ(w':Aj)=>Jn rt rx ry w' ⟨Int.natCast_nonneg rt,Int.ofNat_le.2 ht⟩;have CK:=Ah k1;have HT:=Ah hT;have HQ:=Ah hQ;have HP:=Ah hp;have v8:=Ah ht;have H:=((Bx.start w).new #[a,b,Ad A n cc] 28 rfl).new #[Aa Ac rt,rx,ry] 30 (N:=w.heap.size+1) Gy;clear hp hn h hl hQ hT hF k1 ht;go_in;go_upto_region 1 with fail;generalize (w.alloc _).alloc _=W at H⊢;obtain⟨N,hN⟩:=ez w.heap.size;rw[<-hN]at H⊢;obtain⟨R,hR⟩:=ez (N+1);rw[<-hR]at H⊢;have ct:=Ah hN;have jn:=Ah hR;clear hN hR;obtain⟨⟨a0,a1,a2⟩,_⟩:=Hg (H.b 0);go_wp2_with fail;refine(WJ.out _ H.below).mono ?_;rintro e w2 ⟨rfl,hb⟩;have H2:=H.call hb;clear a0 a1 a2 hb H;obtain⟨⟨r0,r1,r2⟩,_⟩:=Hg (H2.b 1);go_wp2_with fail;refine(c_.out _).mono ?_;rintro e w3 ⟨rfl,hb⟩;have H3:=H2.call hb;clear r0 r1 r2 hb H2;by_cases KH:(⟨rt,rx,ry⟩:Mv).ok=true
 ·have NP:ec (okM rt rx ry) 1=0:=by
   have:okM rt rx ry=true:=KH;rw[this];rfl
  rw[NP];clear NP;obtain⟨⟨a0,a1,a2⟩,_⟩:=Hg (H3.b 0);go_wp2_with fail;refine(ED.out _ H3.below).mono ?_;rintro e w4 ⟨hb,ij⟩;have H4:=H3.call hb;clear a0 a1 a2
  cases hrel:Uh a b l with
  |none=>
   rw[hrel]at ij;dsimp only at ij;subst ij;have hF:=HFn.out KH hrel;clear hrel;go_wp2_with fail;refine Ai (v:= .tuple #[Ad Ae 0 0,Ad Ae 0 0,Aa Ab 11]) (by simp[results,Tryz.results102,go_sem]) rfl ?_;rw[hF];exact⟨H4.below,.inl ⟨He,rfl⟩⟩
  |some ms=>
   rw[hrel]at ij;dsimp only at ij;obtain⟨go,rfl,lm,hblk⟩:=ij;obtain⟨jc,vi⟩:=gC hrel;obtain⟨k,hk⟩:=ey ms.length;rw[hk]at jc;rw[<-jc]at k2 k3;have mk1:=λW=>Aw7 k k3 W;have CL:=Ah (jc▸CK.out:(k:Int)=4*a*b);have CN:=Ah hk;have d_:=Ah vi;have MJ:=Ah hrel;have H5:Bx w [(N,#[a,b,Ad A n cc],28),(R,#[Aa Ac rt,rx,ry],30),(go,(Nm ms).toArray,30)] w4:=H3.add hb lm hblk;rw[hk];clear H3 H4 hb hblk jc hk vi hrel ED WJ c_ HFn HFr lm CK;go_upto_region 10 with fail;obtain⟨gi,UK⟩:=ey w4.heap.size;have H6:=H5.new (Nu (Ba k cl0)).toArray 90 UK;generalize w4.alloc _=W6 at H6⊢;rw[UK]
   have H7:Bx w (nO a b A n cc ⟨rt,rx,ry⟩ N R go gi (Ma ⟨rt,rx,ry⟩ ms 0) (Ob a ⟨rt,rx,ry⟩ ms 0)) W6:=by
    have e1:Ma ⟨rt,rx,ry⟩ ms 0=ms:=by simp[Ma]
    have e2:Ob a ⟨rt,rx,ry⟩ ms 0=Ba k cl0:=by simp[Ob,CN.out]
    rw[e1,e2];exact H6
   have HS:=Ah H7;clear UK H5 H6 H7 mk1;go_wp2
   go_loopw [36] (λi wr=>∃j:Nat,j<=k/\i= Aa Ab j/\Bx w (nO a b A n cc ⟨rt,rx,ry⟩ N R go gi (Ma ⟨rt,rx,ry⟩ ms j) (Ob a ⟨rt,rx,ry⟩ ms j)) wr/\Hid (∀q,q<j->Lp a ⟨rt,rx,ry⟩ ms q=0)) (λi _=>k-(intOf i).toNat)
   case atStart=>exact⟨0,Gm _,rfl,HS.out,Ah λq hq=>absurd hq Gv⟩
   obtain⟨j,hj,rfl,Hr,HE⟩:=hrel;by_cases ac:j<k
   ·have BW:j<ms.length:=oHx CN.out;have hjp:j<(Ma ⟨rt,rx,ry⟩ ms j).length:=by rw[Wm];exact BW
    obtain⟨o0,o1,o2⟩:=Xv (Hr.range 2 rfl) j hjp;rw[Ay9 _ _ _ BW]at o0 o1 o2
    have hEj:Lp a ⟨rt,rx,ry⟩ ms j=if(Lc ms[j] ⟨rt,rx,ry⟩).2≠0 then (Lc ms[j] ⟨rt,rx,ry⟩).2 else (Pr (Lc ms[j] ⟨rt,rx,ry⟩).1 (Hf a j)).2:=by
     unfold Lp;have:ms.getD j mv0=ms[j]:=by simp[List.getD,BW]
     rw[this]
    have dr:=Aj1 ⟨rt,rx,ry⟩ ms j BW;have hpc:=jM a ⟨rt,rx,ry⟩ ms j BW;have vi:=d_.out ms[j] (Ay _)
    have FD:Af5 a ⟨rt,rx,ry⟩ ms j=(Pr (Lc ms[j] ⟨rt,rx,ry⟩).1 (Hf a j)).1:=by
     unfold Af5;have:ms.getD j mv0=ms[j]:=by simp[List.getD,BW]
     rw[this]
    generalize ms[j]=m at o0 o1 o2 hEj dr vi FD;obtain⟨mt,mx,my⟩:=m;dsimp only at o0 o1 o2 vi;have ZU:=Ah hEj;have na:=Ah dr;have WJ:=Ah hpc;have pu:=Ah FD;have HR:=Ah Hr;have q1:(j:Int)<(k:Int):=Gv;have q2:(mt:Int)<=255:=Gv;clear hEj dr hpc FD Hr;go_upto_region 13 with fail;obtain⟨P,hP⟩:=ey wr.heap.size;have H1:=HR.out.new #[Aa Ac mt,mx,my] 30 hP;generalize wr.alloc _=W1 at H1⊢;rw[hP];clear hP HR o0 o1 o2;obtain⟨⟨a0,a1,a2⟩,_⟩:=Hg (H1.b 0);have hjs:Sz a b j=true:=Oq.2 ⟨Gv,by have:=CL.out;omega⟩;have bj:=λ(w':Aj)=>Sj a b j w' HP.out.sheet
    have vg:Nh (Uo a b j)= .tuple #[(Hf a j).v,Aa Ab 0]:=by
     unfold Uo;rw[Hc hjs];rfl
    rw[vg]at bj;have ni:=nU HP.out.sheet hjs;generalize Hf a j=c at bj ni ZU pu;obtain⟨cx,cy,cq⟩:=c;unfold Cl.v at bj;dsimp only at bj;have AZ:=Ah bj;clear bj vg hjs;go_wp2_with fail;refine(AZ.out _).mono ?_;rintro e w2 ⟨rfl,aj⟩;have H2:=H1.call aj;clear H1 aj a0 a1 a2 AZ;go_upto_region 14 with fail;obtain⟨C,hC⟩:=ey w2.heap.size;have H3:=H2.new #[cx,cy,Aa Ac cq] 90 hC;generalize w2.alloc _=W3 at H3⊢;rw[hC];clear hC H2;obtain⟨⟨a0,a1,a2⟩,_⟩:=Hg (H3.b 1);obtain⟨⟨b0,b1,b2⟩,_⟩:=Hg (H3.b 4);have YV:=λ(w':Aj) (hb:Below w.heap.size w w')=>bM ⟨mt,mx,my⟩ ⟨rt,rx,ry⟩ w' vi v8.out (HT.out.below hb);have U3:=rY ⟨mt,mx,my⟩ ⟨rt,rx,ry⟩;have se:=Ab3 ⟨mt,mx,my⟩ ⟨rt,rx,ry⟩;obtain⟨⟨⟨pt,px,py⟩,te⟩,KJ⟩:∃z,Lc ⟨mt,mx,my⟩ ⟨rt,rx,ry⟩=z:=⟨_,rfl⟩;rw[KJ]at YV U3 se ZU na pu;unfold mvR Mv.v at YV;dsimp only at YV;have y7:=Ah YV;have MO:=Ah U3;clear YV KJ U3;go_wp2_with fail;refine(y7.out _ H3.below).mono ?_;rintro e w4 ⟨rfl,da⟩;have H4:=H3.call da;clear a0 a1 a2 b0 b1 b2 H3 da y7;have th:=H4.there 2 rfl;have PE:j*3+3<=(Nm (Ma ⟨rt,rx,ry⟩ ms j)).length:=by rw[Ve];omega
    simp only[Fq]at th;have z0:=(th (j*3) Gv).2;have z1:=(th (j*3+1) Gv).2;have z2:=(th (j*3+2) Gv).2;simp only[Bu]at z0 z1 z2;obtain⟨o0,o1,o2⟩:=Xv (H4.range 2 rfl) j hjp;clear th PE;have GC:=Ah H4;clear H4;go_upto_region 15 with fail;have H5:=((GC.out.set 2 (j*3) rfl (Aa Ac pt)).set 2 (j*3+1) rfl (Aa Ab px)).set 2 (j*3+2) rfl (Aa Ab py);have e3:=zQ (Ma ⟨rt,rx,ry⟩ ms j) j ⟨pt,px,py⟩;rw[na.out]at e3;dsimp only at e3;rw[e3]at H5;have H6:Bx w (nO a b A n cc ⟨rt,rx,ry⟩ N R go gi (Ma ⟨rt,rx,ry⟩ ms (j+1)) (Ob a ⟨rt,rx,ry⟩ ms j)++[(P,#[Aa Ac mt,mx,my],30),(C,#[cx,cy,Aa Ac cq],90)]) (((w4.setCell ⟨go,j*3,Ae⟩ (Aa Ac pt)).setCell ⟨go,j*3+1,Ae⟩ (Aa Ab px)).setCell ⟨go,j*3+2,Ae⟩ (Aa Ab py)):=H5;generalize ((w4.setCell _ _).setCell _ _).setCell _ _=W5 at H6⊢;clear e3 H5 z0 z1 z2 o0 o1 o2 GC;by_cases KJ:te=0
    ·subst KJ;have R0:=MO.out rfl;have hEJ:=ZU.out;rw[Ha Gy]at hEJ
     have hmg:Pr ⟨pt,px,py⟩ ⟨cx,cy,cq⟩=Lj ⟨pt,px,py⟩ ⟨cx,cy,cq⟩:=by
      unfold Pr;rw[R0,ni];rfl
     have TJ:=pu.out;rw[hmg]at hEJ TJ;have jb:=λ(w':Aj) (hb:Below w.heap.size w w')=>Uy mA ⟨pt,px,py⟩ ⟨cx,cy,cq⟩ w' R0 ni (HQ.out.below hb) (HT.out.below hb);obtain⟨⟨⟨ix,iy,iq⟩,ie⟩,O_⟩:∃z,Lj ⟨pt,px,py⟩ ⟨cx,cy,cq⟩=z:=⟨_,rfl⟩;rw[O_]at hEJ TJ jb;have NM:∀(w':Aj),Below w.heap.size w w'->Al Dp 121 #[.agg #[Aa Ac pt,px,py],.agg #[cx,cy,Aa Ac cq]] w' (Gz (.tuple #[.agg #[ix,iy,Aa Ac iq],ie]) w'):=jb;have HCM:=Ah NM;have SD:Hid (Lp a ⟨rt,rx,ry⟩ ms j=ie):=Ah hEJ;have d9:Hid (Af5 a ⟨rt,rx,ry⟩ ms j=⟨ix,iy,iq⟩):=Ah TJ;clear NM;have hjp1:j<(Ma ⟨rt,rx,ry⟩ ms (j+1)).length:=by rw[Wm];exact BW
     have bi:(Ma ⟨rt,rx,ry⟩ ms (j+1))[j]=⟨pt,px,py⟩:=by
      have h1:(Ma ⟨rt,rx,ry⟩ ms (j+1))[j]? =Af ⟨pt,px,py⟩:=by
       rw[<-na.out];simp[hjp]
      rw[Aw hjp1]at h1;injection h1
     obtain⟨o0,o1,o2⟩:=Xv (H6.range 2 rfl) j hjp1;rw[bi]at o0 o1 o2;dsimp only at o0 o1 o2;obtain⟨⟨b0,b1,b2⟩,_⟩:=Hg (H6.b 5);have qj:=Ah H6;clear jb O_ hmg hEJ TJ ZU pu R0 bi H6 MO;go_upto_region 17 with fail;have hjc:j<(Ob a ⟨rt,rx,ry⟩ ms j).length:=by rw[jL _ _ _ _ (Bw BW)];exact BW
     have HJC:=Ah hjc;have EY:go≠gi:=qj.out.ne 2 3 He rfl rfl;have hcg:C≠gi:=qj.out.ne 5 3 He rfl rfl;obtain⟨S,an⟩:∃S:Aj->Prop,S=λw'=>w'.cell? ⟨go,j*3,Ae⟩=Af (Aa Ac pt)/\w'.cell? ⟨go,j*3+1,Ae⟩=Af (Aa Ab px)/\w'.cell? ⟨go,j*3+2,Ae⟩=Af (Aa Ab py)/\w'.cell? ⟨C,0,Ae⟩=Af (Aa Ab cx)/\w'.cell? ⟨C,1,Ae⟩=Af (Aa Ab cy)/\w'.cell? ⟨C,2,Ae⟩=Af (Aa Ac cq):=⟨_,rfl⟩;have ag:Hid (∀W',Below W5.heap.size W5 W'->S W'):=Ah λW' h=>by subst an;exact⟨Gw h o0,Gw h o1,Gw h o2,Gw h b0,Gw h b1,Gw h b2⟩
     have JG:Hid (∀(W':Aj) (x y z:Ak),S W'->S (((W'.setCell ⟨gi,j*3,Ae⟩ x).setCell ⟨gi,j*3+1,Ae⟩ y).setCell ⟨gi,j*3+2,Ae⟩ z)):=Ah λW' x y z h=>by
      subst an;obtain⟨h0,h1,h2,h3,h4,h5⟩:=h;exact⟨Je EY h0,Je EY h1,Je EY h2,Je hcg h3,Je hcg h4,Je hcg h5⟩
     have HSO:Hid (∀W',S W'->W'.cell? ⟨go,j*3,Ae⟩=Af (Aa Ac pt)/\W'.cell? ⟨go,j*3+1,Ae⟩=Af (Aa Ab px)/\W'.cell? ⟨go,j*3+2,Ae⟩=Af (Aa Ab py)/\W'.cell? ⟨C,0,Ae⟩=Af (Aa Ab cx)/\W'.cell? ⟨C,1,Ae⟩=Af (Aa Ab cy)/\W'.cell? ⟨C,2,Ae⟩=Af (Aa Ac cq)):=Ah λW' h=>by subst an;exact h
     clear an o0 o1 o2 b0 b1 b2;refine wp_region_held_drew (S:=S) Gx (ag.out _ (Ag _ _).drew) (λhS=>?_);have hb:Below W5.heap.size W5 W5.drew:=(Ag _ _).drew;have H:=qj.out.drew;generalize W5.drew=X0 at H hb hS⊢;clear qj;refine Hk 0 1 2 3 ?_;refine Oe 4 5 6 ?_;refine rdy 7 (λK hK=>?_);go_simp;refine(HCM.out _ H.below).mono ?_;rintro e X1 ⟨rfl,ad⟩;have hb:=Up hb ad;have H:=H.call ad;have hS:=ag.out _ hb;refine hK.o hS (λhS=>?_);clear hK K ad;refine Hk 8 9 10 11 ?_;refine rdy 12 (λK hK=>?_);have UK:=H.lt 3 rfl;obtain⟨i0,i1,i2⟩:=As0 (H.range 3 rfl) j HJC.out;obtain⟨z0,z1,z2⟩:=As2 H j HJC.out;have H5:=((H.set 3 (j*3) rfl (Aa Ab ix)).set 3 (j*3+1) rfl (Aa Ab iy)).set 3 (j*3+2) rfl (Aa Ac iq);have e3:=Bh9 (Ob a ⟨rt,rx,ry⟩ ms j) j ⟨ix,iy,iq⟩;rw[<-d9.out,jM a ⟨rt,rx,ry⟩ ms j BW,d9.out]at e3;dsimp only at e3;rw[e3]at H5;have H6:Hid (Bx w (nO a b A n cc ⟨rt,rx,ry⟩ N R go gi (Ma ⟨rt,rx,ry⟩ ms (j+1)) (Ob a ⟨rt,rx,ry⟩ ms (j+1))) (((X1.setCell ⟨gi,j*3,Ae⟩ (Aa Ab ix)).setCell ⟨gi,j*3+1,Ae⟩ (Aa Ab iy)).setCell ⟨gi,j*3+2,Ae⟩ (Aa Ac iq))):=Ah (H5.upto 4);clear e3 H5 H hb;go_simp;refine hK.o (JG.out _ _ _ _ hS) (λhS=>?_);clear hK K i0 i1 i2 z0 z1 z2;generalize ((X1.setCell _ _).setCell _ _).setCell _ _=X2 at H6 hS⊢;refine Ke 13 ?_;refine wpAnyH_done Gx ?_ _;clear hS HSO ag JG;by_cases O_:ie=0
     ·subst O_
      have KU:Hid (∀q,q<j+1->Lp a ⟨rt,rx,ry⟩ ms q=0):=Ah λq hq=>by
       by_cases hqj:q=j
       ·subst hqj;exact SD.out
       ·exact HE.out q Gv
      go_wp2;exact⟨⟨j+1,Gv,by go_num,H6.out,KU⟩,by simp[intOf];omega⟩
     ·have hb:Lp a ⟨rt,rx,ry⟩ ms j≠0:=by rw[SD.out];exact O_
      have hF:=HFe.out ms j KH MJ.out BW HE.out hb;rw[SD.out]at hF;clear hb SD d9 na WJ;go_wp2_with fail;refine Ai (v:= .tuple #[Ad Ae 0 0,Ad Ae 0 0,ie]) (by simp[results,Tryz.results102,go_sem]) rfl ?_;rw[hF];exact⟨H6.out.below,.inl ⟨O_,rfl⟩⟩
    ·have hb:Lp a ⟨rt,rx,ry⟩ ms j≠0:=by
      rw[ZU.out,Hc KJ];exact KJ
     have hF:=HFe.out ms j KH MJ.out BW HE.out hb;rw[ZU.out,Hc KJ]at hF;clear hb ZU pu na WJ;go_wp2_with fail;refine Ai (v:= .tuple #[Ad Ae 0 0,Ad Ae 0 0,te]) (by simp[results,Tryz.results102,go_sem]) rfl ?_;rw[hF];exact⟨H6.below,.inl ⟨KJ,rfl⟩⟩
   ·obtain rfl:j=k:=Gv;have q1:¬(j:Int)<(j:Int):=Gv;have HR:=Ah Hr;have hF:=HFa.out ms KH MJ.out (λq hq=>HE.out q (oHx CN.out));clear Hr;go_wp2_with fail;refine Ai (v:= .tuple #[Ad (Af ⟨go,0,Ae⟩) j j,Ad (Af ⟨gi,0,Ae⟩) j j,Aa Ab 0]) (by simp[results,Tryz.results102,go_sem]) rfl ?_;rw[CN.out];have e1:=Wm ⟨rt,rx,ry⟩ ms j;have e2:=jL a ⟨rt,rx,ry⟩ ms j (oHx CN.out);rw[CN.out]at e1 e2;exact⟨HR.out.below,.inr ⟨rfl,go,gi,by dsimp only;rw[e1,e2],HR.out.lo 2 _ _ _ rfl,HR.out.lo 3 _ _ _ rfl,HR.out.ne 2 3 He rfl rfl,HR.out.b 2,HR.out.b 3⟩⟩
 ·have KG:(⟨rt,rx,ry⟩:Mv).ok=false:=by simpa using KH
  have NP:ec (okM rt rx ry) 1=1:=by
   have:okM rt rx ry=false:=KG;rw[this];rfl
  rw[NP];clear NP;have hF:=HFr.out KG;go_wp2_with fail;refine Ai (v:= .tuple #[Ad Ae 0 0,Ad Ae 0 0,Aa Ab 1]) (by simp[results,Tryz.results102,go_sem]) rfl ?_;rw[hF];exact⟨H3.below,.inl ⟨He,rfl⟩⟩
def sS (cs:List Ak) (n:Nat) (t:Ck) (er:Int) (w:Aj) (e:Ending) (w':Aj):Prop:=Below w.heap.size w w'/\
 ((er≠0/\e= .returned (.tuple #[Ad Ae 0 0,er]))∨
  (er=0/\∃g,e= .returned (.tuple #[Ad (Af ⟨g,0,Ae⟩) n n,Aa Ab 0])/\w.heap.size<=g/\w'.heap[g]? =Af (Co cs.toArray t (0,0))))
def jN (a b:Int) (A:Option Cj) (l:List Cr) (n cc:Nat) (root:Mv) (w:Aj) (hp:Lo a b l) (hn:n=l.length) (h:Rd w A 3 n (crs l)) (hl:n<=1000000) (ht:root.t<=255) (hQ:Qf w) (hT:Tn w):
  Al Dp 54 #[.agg #[a,b,Ad A n cc],.agg #[Aa Ac root.t,Aa Ab root.x,Aa Ab root.y]] w (sS (Nm (Ie a b l root).1.1) (Ie a b l root).1.1.length 30 (Ie a b l root).2 w):=by
 have hB:=λ(w':Aj) (hb:Below w.heap.size w w')=>kT a b A l n cc root w' hp hn (h.below hb) hl ht (hQ.below hb) (hT.below hb);obtain⟨⟨⟨ms,is⟩,er⟩,hF⟩:∃F,Ie a b l root=F:=⟨_,rfl⟩;rw[hF]at hB⊢;dsimp only;obtain⟨rt,rx,ry⟩:=root;dsimp only at hB⊢;have HB:=Ah hB;have H:=((Bx.start w).new #[a,b,Ad A n cc] 28 rfl).new #[Aa Ac rt,rx,ry] 30 (N:=w.heap.size+1) Gy;clear hp hn h hl hQ hT hF ht hB;go_in;go_upto_region 1 with fail;generalize (w.alloc _).alloc _=W at H⊢;obtain⟨N,ct⟩:=Tw w.heap.size;rw[<-ct.out]at H⊢;obtain⟨⟨a0,a1,a2⟩,_⟩:=Hg (H.b 0);obtain⟨⟨b0,b1,b2⟩,_⟩:=Hg (H.b 1);go_wp2_with fail;refine(HB.out _ H.below).mono ?_;rintro e w2 ⟨hb,ij⟩;have H2:=H.call hb;have jo:=H.below.size;clear a0 a1 a2 b0 b1 b2 hb HB H;dsimp only at ij;rcases ij with⟨h0,rfl⟩|⟨rfl,g,hh,rfl,hg,hgh,hne,ci,aj⟩
 ·go_wp2_with fail;refine Ai (v:= .tuple #[Ad Ae 0 0,er]) (by simp[results,Tryz.results54,go_sem]) rfl ?_;exact⟨H2.below,.inl ⟨h0,rfl⟩⟩
 ·go_wp2_with fail;refine Ai (v:= .tuple #[Ad (Af ⟨g,0,Ae⟩) ms.length ms.length,Aa Ab 0]) (by simp[results,Tryz.results54,go_sem]) rfl ?_;exact⟨H2.below,.inr ⟨rfl,g,rfl,Gv,ci⟩⟩
def Wd (a b:Int) (A:Option Cj) (l:List Cr) (n cc:Nat) (root:Mv) (w:Aj) (hp:Lo a b l) (hn:n=l.length) (h:Rd w A 3 n (crs l)) (hl:n<=1000000) (ht:root.t<=255) (hQ:Qf w) (hT:Tn w):
  Al Dp 62 #[.agg #[a,b,Ad A n cc],.agg #[Aa Ac root.t,Aa Ab root.x,Aa Ab root.y]] w (sS (Nu (Ie a b l root).1.2) (Ie a b l root).1.2.length 90 (Ie a b l root).2 w):=by
 have hB:=λ(w':Aj) (hb:Below w.heap.size w w')=>kT a b A l n cc root w' hp hn (h.below hb) hl ht (hQ.below hb) (hT.below hb);obtain⟨⟨⟨ms,is⟩,er⟩,hF⟩:∃F,Ie a b l root=F:=⟨_,rfl⟩;rw[hF]at hB⊢;dsimp only;obtain⟨rt,rx,ry⟩:=root;dsimp only at hB⊢;have HB:=Ah hB;have H:=((Bx.start w).new #[a,b,Ad A n cc] 28 rfl).new #[Aa Ac rt,rx,ry] 30 (N:=w.heap.size+1) Gy;clear hp hn h hl hQ hT hF ht hB;go_in;go_upto_region 1 with fail;generalize (w.alloc _).alloc _=W at H⊢;obtain⟨N,ct⟩:=Tw w.heap.size;rw[<-ct.out]at H⊢;obtain⟨⟨a0,a1,a2⟩,_⟩:=Hg (H.b 0);obtain⟨⟨b0,b1,b2⟩,_⟩:=Hg (H.b 1);go_wp2_with fail;refine(HB.out _ H.below).mono ?_;rintro e w2 ⟨hb,ij⟩;have H2:=H.call hb;have jo:=H.below.size;clear a0 a1 a2 b0 b1 b2 hb HB H;dsimp only at ij;rcases ij with⟨h0,rfl⟩|⟨rfl,g,hh,rfl,hg,hgh,hne,ci,aj⟩
 ·go_wp2_with fail;refine Ai (v:= .tuple #[Ad Ae 0 0,er]) (by simp[results,Tryz.results62,go_sem]) rfl ?_;exact⟨H2.below,.inl ⟨h0,rfl⟩⟩
 ·go_wp2_with fail;refine Ai (v:= .tuple #[Ad (Af ⟨hh,0,Ae⟩) is.length is.length,Aa Ab 0]) (by simp[results,Tryz.results62,go_sem]) rfl ?_;exact⟨H2.below,.inr ⟨rfl,hh,rfl,Gv,aj⟩⟩
def Ax4 (m:Mv) (c:Cl) (h:(Pr m c).2=0):(Pr m c).1.ok=true:=by
 unfold Pr at h⊢
 split
 ·rename_i hc;rw[Hc hc]at h;unfold Lj at h⊢
  split
  ·rename_i ho;exact ho
  ·rename_i ho;rw[Ha ho]at h;cases h
 ·rename_i hc;rw[Ha hc]at h;cases h
def Ny (h:(Ie a b l root).2=0):
  (Ie a b l root).1.1.length=Hh a b/\(Ie a b l root).1.2.length=Hh a b/\(∀m∈(Ie a b l root).1.1,m.ok=true)/\∀c∈(Ie a b l root).1.2,c.ok=true:=by
 cases hr:root.ok with
 |false=>rw[Xl a b l root hr]at h;cases h
 |true=>
  cases hm:Uh a b l with
  |none=>rw[dV a b l root hr hm]at h;cases h
  |some m=>
   by_cases fj:∀j,j<m.length->Lp a root m j=0
   ·obtain⟨h1,_⟩:=gC hm;have e:Ie a b l root=((Ma root m m.length,Ob a root m m.length),0):=iN a b l root m hr hm fj
    have hE:∀j,j<m.length->(Lc (m.getD j mv0) root).2=0/\(Pr (Lc (m.getD j mv0) root).1 (Hf a j)).2=0:=by
     intro j hj;have h2:=fj j hj;unfold Lp at h2;by_cases h3:(Lc (m.getD j mv0) root).2=0
     ·rw[Ha (by simpa using h3)]at h2;exact⟨h3,h2⟩
     ·rw[Hc h3]at h2;exact absurd h2 h3
    rw[e];refine⟨by simp[Ma,h1],by simp[Ob,h1],λx hx=>?_,λc hc=>?_⟩
    ·simp only[Ma,List.take_length,List.drop_length,Ff,Dr]at hx;obtain⟨y,hy,rfl⟩:=hx;obtain⟨j,hj,rfl⟩:=Be.1 hy;have:=(hE j hj).1;rw[List.getD_eq_getElem?_getD,Aw hj]at this;exact rY _ _ this
    ·simp only[Ob,Fo,List.replicate_zero,Ff,Dr,List.mem_range]at hc;obtain⟨j,hj,rfl⟩:=hc;exact Ax4 _ _ (hE j hj).2
   ·have:∃i,i<m.length/\(∀j,j<i->Lp a root m j=0)/\Lp a root m i≠0:=by
     have hex:∃i,i<m.length/\Lp a root m i≠0:=by
      apply Ex;intro hn;exact fj λj hj=>Ex λh3=>hn ⟨j,hj,h3⟩
     obtain⟨n,fk,nt⟩:=hex
     induction n using Nat.strongRecOn with
     |_ n ih=>
      by_cases hq:∀j,j<n->Lp a root m j=0
      ·exact⟨n,fk,hq,nt⟩
      ·have:∃j,j<n/\Lp a root m j≠0:=by
        apply Ex;intro hn;exact hq λj hj=>Ex λh3=>hn ⟨j,hj,h3⟩
       obtain⟨j,QS,P_⟩:=this;exact ih j QS Gv P_
    obtain⟨i,hi,h1,h2⟩:=this;rw[nK a b l root m i hr hm hi h1 h2]at h;exact absurd h h2
def tC (l:List Bool) (n:Nat) (v:Bool):(If l).toArray.setIfInBounds n (.bool v)=(If (l.set n v)).toArray:=by
 simp[If,List.map_set]
def Pv (ms:List Mv) (i:Nat):List Bool:=(ms.take i).map (λm=> !Rc m)++Ba (ms.length-i) false
def Aj2 (ms:List Mv) (i:Nat) (hi:i<=ms.length):(Pv ms i).length=ms.length:=by simp[Pv];omega
def Aj3 (ms:List Mv) (i:Nat) (hi:i<ms.length):(Pv ms i).set i (!Rc ms[i])=Pv ms (i+1):=by
 apply Gk
 ·simp[Pv];omega
 ·intro j h1 h2;have hj:j<ms.length:=by simp[Pv]at h1;omega
  simp only[Pv,List.getElem_set,List.getElem_append,Bp,Bm,Ge,Dd,List.getElem_replicate];by_cases e:i=j
  ·subst e;rw[Hc rfl,dif_pos Gv]
  ·rw[Ha e];by_cases ac:j<i
   ·rw[dif_pos Gv,dif_pos Gv]
   ·rw[dif_neg Gv,dif_neg Gv]
def upL (a b:Int) (A:Option Cj) (n cc:Nat) (root:Mv) (N R g gi:Nat) (ms:List Mv) (us:List Bool):List (Nat×Array Ak×Ck):=
 [(N,#[a,b,Ad A n cc],28),(R,#[Aa Ac root.t,Aa Ab root.x,Aa Ab root.y],30),(g,(Nm ms).toArray,30),(gi,(If us).toArray,4)]
def Bt0 (a b:Int) (A:Option Cj) (l:List Cr) (n cc:Nat) (root:Mv) (w:Aj) (hp:Lo a b l) (hn:n=l.length) (h:Rd w A 3 n (crs l)) (hl:n<=1000000) (ht:root.t<=255) (hQ:Qf w) (hT:Tn w):
  Al Dp 72 #[.agg #[a,b,Ad A n cc],.agg #[Aa Ac root.t,Aa Ab root.x,Aa Ab root.y]] w (sS (If (upF a b l root).1) (upF a b l root).1.length 4 (upF a b l root).2 w):=by
 have hB:=λ(w':Aj) (hb:Below w.heap.size w w')=>kT a b A l n cc root w' hp hn (h.below hb) hl ht (hQ.below hb) (hT.below hb);have hinv:=Ny (a:=a) (b:=b) (l:=l) (root:=root);obtain⟨_,_,k3⟩:=Lh hp.sheet;have hU:upF a b l root=if(Ie a b l root).2≠0 then ([],(Ie a b l root).2)else ((Ie a b l root).1.1.map λm=> !Rc m,0):=rfl;obtain⟨⟨⟨ms,is⟩,er⟩,hF⟩:∃F,Ie a b l root=F:=⟨_,rfl⟩;rw[hF]at hB hinv hU;dsimp only at hinv hU;generalize upF a b l root=U at hU⊢;obtain⟨rt,rx,ry⟩:=root;dsimp only at hB⊢;have HB:=Ah hB;have HU:=Ah hU;have HI:=Ah hinv;have H:=((Bx.start w).new #[a,b,Ad A n cc] 28 rfl).new #[Aa Ac rt,rx,ry] 30 (N:=w.heap.size+1) Gy;clear hp hn h hl hQ hT hF ht hB hU hinv;go_in;go_upto_region 1 with fail;generalize (w.alloc _).alloc _=W at H⊢;obtain⟨N,ct⟩:=Tw w.heap.size;rw[<-ct.out]at H⊢;generalize N+1=R at H⊢;obtain⟨⟨a0,a1,a2⟩,_⟩:=Hg (H.b 0);obtain⟨⟨b0,b1,b2⟩,_⟩:=Hg (H.b 1);go_wp2_with fail;refine(HB.out _ H.below).mono ?_;rintro e w2 ⟨hb,ij⟩;have jo:=H.below.size;clear a0 a1 a2 b0 b1 b2 HB;dsimp only at ij;rcases ij with⟨h0,rfl⟩|⟨rfl,g,hh,rfl,hg,hgh,hne,ci,aj⟩
 ·have hUe:=HU.out;rw[Hc h0]at hUe;subst hUe;have H2:=H.call hb;clear HU HI hb H;go_wp2_with fail;refine Ai (v:= .tuple #[Ad Ae 0 0,er]) (by simp[results,Tryz.results72,go_sem]) rfl ?_;exact⟨H2.below,.inl ⟨h0,rfl⟩⟩
 ·have hUe:=HU.out;rw[Ha Gy]at hUe;subst hUe;obtain⟨i1,_,i3,_⟩:=HI.out rfl;obtain⟨k,hk⟩:=ey ms.length;have IB:k<=1024:=Gv;have mk1:=λW=>Xt k IB W;have HK:=Ah hk;have HI3:=Ah i3;have H2:=H.add hb hg ci;have HG:Hid (w.heap.size<=w2.heap.size):=Ah (Bt jo hb.size);rw[hk];clear HU HI hb H i1 i3 hk ci aj hg hgh hne jo;go_upto_region 5 with fail;obtain⟨gi,UK⟩:=ey w2.heap.size;have H6:=H2.new (If (Ba k false)).toArray 4 UK;generalize w2.alloc _=W6 at H6⊢;rw[UK]
  have H7:Bx w (upL a b A n cc ⟨rt,rx,ry⟩ N R g gi ms (Pv ms 0)) W6:=by
   have e2:Pv ms 0=Ba k false:=by simp[Pv,HK.out]
   rw[e2];exact H6
  have HS:=Ah H7;have HGI:Hid (w.heap.size<=gi):=Ah (UK▸HG.out);clear UK H2 H6 H7 mk1 HG;go_wp2
  go_loopw [27] (λi wr=>∃j:Nat,j<=k/\i= Aa Ab j/\Bx w (upL a b A n cc ⟨rt,rx,ry⟩ N R g gi ms (Pv ms j)) wr) (λi _=>k-(intOf i).toNat)
  case atStart=>exact⟨0,Gm _,rfl,HS.out⟩
  obtain⟨j,hj,rfl,Hr⟩:=hrel;by_cases ac:j<k
  ·have BW:j<ms.length:=oHx HK.out;obtain⟨o0,o1,o2⟩:=Xv (Hr.range 2 rfl) j BW;have mw:=Aj3 ms j BW;have vi:=(Mv.ok_iff.1 (HI3.out ms[j] (Ay _))).1;generalize ms[j]=m at o0 o1 o2 mw vi;obtain⟨mt,mx,my⟩:=m;obtain⟨fb,UG⟩:=ey (Rc ⟨mt,mx,my⟩);have jq:=λw'=>Ae2 ⟨mt,mx,my⟩ w' (by dsimp only at vi⊢;omega);rw[UG]at mw jq;dsimp only at o0 o1 o2 vi jq;have EB:=Ah mw;have KV:=Ah jq;have HR:=Ah Hr;have q1:(j:Int)<(k:Int):=Gv;clear mw Hr UG jq vi;go_upto_region 8 with fail;obtain⟨P,hP⟩:=ey wr.heap.size;have H1:=HR.out.new #[Aa Ac mt,mx,my] 30 hP;generalize wr.alloc _=W1 at H1⊢;rw[hP];clear hP HR o0 o1 o2;obtain⟨⟨a0,a1,a2⟩,_⟩:=Hg (H1.b 4);go_wp2_with fail;refine(KV.out _).mono ?_;rintro e w3 ⟨rfl,bh⟩;have H3:=H1.call bh;clear a0 a1 a2 H1 bh;have zu:j<(Pv ms j).length:=by rw[Aj2 _ _ (Bw BW)];exact BW
   have th:=H3.there 3 rfl;simp only[Fq]at th;obtain⟨z0,z1⟩:=th j (by simp[If];exact zu);simp only[Bu]at z0 z1
   have z2:w3.cell? ⟨gi,j,Ae⟩=Af (.bool (Pv ms j)[j]):=by
    have:=(H3.range 3 rfl) j (.bool (Pv ms j)[j]) (by simp[If,zu]);simpa using this
   have H4:=(H3.set 3 j rfl (.bool (!fb))).upto 4;rw[tC,EB.out]at H4;have GC:Hid (Bx w (upL a b A n cc ⟨rt,rx,ry⟩ N R g gi ms (Pv ms (j+1))) (w3.setCell ⟨gi,j,Ae⟩ (.bool (!fb)))):=Ah H4;clear H3 H4 th;go_wp2;exact⟨⟨j+1,Gv,by go_num,GC.out⟩,by simp[intOf];omega⟩
  ·obtain rfl:j=k:=Gv;have q1:¬(j:Int)<(j:Int):=Gv;have HR:=Ah Hr;clear Hr;go_wp2_with fail;refine Ai (v:= .tuple #[Ad (Af ⟨gi,0,Ae⟩) j j,Aa Ab 0]) (by simp[results,Tryz.results72,go_sem]) rfl ?_
   have e1:Pv ms j=ms.map λm=> !Rc m:=by
    unfold Pv;rw[HK.out,Fo,<-HK.out];simp
   have hblk:=HR.out.b 3;rw[e1]at hblk;exact⟨HR.out.below,.inr ⟨rfl,gi,by rw[HK.out],HGI.out,hblk⟩⟩
end Go.Proofs.YtlgkpdfieaadaaaGreatDoor
