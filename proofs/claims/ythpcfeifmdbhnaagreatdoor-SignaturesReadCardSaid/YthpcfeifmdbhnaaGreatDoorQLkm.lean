import Derived.Test.YthpcfeifmdbhnaaGreatDoorQPim
import Derived.Test.YthpcfeifmdbhnaaGreatDoorQSog
import Derived.Test.YthpcfeifmdbhnaaGreatDoorQSid
import Derived.Lib.AppendZeros
import Derived.Test.YthpcfeifmdbhnaaGreatDoorQRsC
open Array renaming getElem?_eq_some_iff→Au
open Go renaming Calls→Al,Value→Ak,World→Aj,bodyPost_ret→Ai,cell_of_row→By,heap_alloc_new→Bz,wpAnyH_done→An,wpAnyH_ready→Ap,wp_region_held_drew→Ao
open Go.AllReadyH renaming cons→Aq,nil→Ar
open Go.IntKind renaming i64→Ab,u8→Ac
open Go.Lib renaming hid→Ah,wpList_append_run→As
open Go.RowKit.Below renaming refl→Ag
open Go.Value renaming int→Aa,slice→Ad
open List renaming append_assoc→Bj,flatMap_append→Bi,flatMap_cons→Bf,getElem?_eq_some_iff→Ax,getElem_cons_succ→Cd,getElem_cons_zero→Cc,getElem_mem→Ay,getElem_toArray→Ce,length_append→Bh,length_map→Bo,mem_append→Bl,mem_cons→Bk,nodup_append→Bp,setIfInBounds_toArray→Ch,set_cons_succ→Cg,set_cons_zero→Cf,take_of_length_le→Bg,take_succ_eq_append_getElem→Bc
open Nat renaming le_refl→Am,le_trans→Br,lt_of_lt_of_le→Bq,zero_add→Bt
open Option renaming none→Ae,some→Af
set_option maxHeartbeats 8000000
set_option maxRecDepth 100000
namespace Go.Proofs.YthpcfeifmdbhnaaGreatDoor
open Go.RowKit
theorem Dd.setLow {O:Nat} {w:Aj} {v:Ak} {l:List SkR} (h:Dd O w v l) {g:Nat} (hg:g<O) (j:Nat) (u:Ak):Dd O (w.setCell ⟨g,j,Ae⟩ u) v l:=
 ⟨Ec h.1 hg j u,λx hx=>(h.2.1 x hx).same λg' hg'=>Below.heap_setCell w ⟨g,j,Ae⟩ u g' (by show g'≠g;have:=((h.2.1 x hx).lt g' hg').1;omega),h.2.2⟩
def Two (O:Nat) (w:Aj) (v0 v1:Ak) (z0 z1:List SkR):Prop:=Dd O w v0 z0∧Dd O w v1 z1∧∀g,v0.ownBlock=Af g→v1.ownBlock=Af g→False
theorem Two.symm {O:Nat} {w:Aj} {v0 v1:Ak} {z0 z1:List SkR} (h:Two O w v0 v1 z0 z1):Two O w v1 v0 z1 z0:=⟨h.2.1,h.1,λg a b=>h.2.2 g b a⟩
theorem Two.setLow {O:Nat} {w:Aj} {v0 v1:Ak} {z0 z1:List SkR} (h:Two O w v0 v1 z0 z1) {g:Nat} (hg:g<O) (j:Nat) (u:Ak):Two O (w.setCell ⟨g,j,Ae⟩ u) v0 v1 z0 z1:=⟨h.1.setLow hg j u,h.2.1.setLow hg j u,h.2.2⟩
theorem Dd.app {O:Nat} {w W:Aj} {v:Ak} {z:List SkR} {x:SkR} (h:Dd O w v z) (hO:O≤w.heap.size) (hb:Below w.heap.size w W) (hx:Ir w.heap.size W x) (hl:z.length≤1000000):
  ∃A c A' c' w',v= Ad A z.length c∧(Builtin.append_ #[31,31] 31 #[Ad A z.length c,Ad (Af ⟨W.heap.size,0,Ae⟩) 1 1]).run Tryz.prog (W.alloc (.cells #[Aa Ab x.1.c.x,Aa Ab x.1.c.y,Aa Ac (x.1.c.q:Int),Ad x.2.1 x.1.ls.length x.2.2] 89))= .ok (Ad A' (z.length+1) c') w'∧
   Dd O w' (Ad A' (z.length+1) c') (z++[x])∧Below O W w'∧W.grownBy w' v.ownBlock∧O≤w'.heap.size∧(Value.ownBlock (Ad A' (z.length+1) c')=v.ownBlock∨∃g,Value.ownBlock (Ad A' (z.length+1) c')=Af g∧W.heap.size≤g):=by
 obtain⟨A,c,hv,-,-⟩:=Dv h.1;obtain⟨A',c',w',hrun,ho,hbb,hg,hM,-,-,hfr⟩:=Zo (sl:=31) Tryz.underlying31 Su rfl Ct Ct W O z.length v _ (Dj h.1 (Am _) hb) (Br hO hb.size) Ci (Eg x) (Gm x) (by intro u hu;simp[Eg]at hu;rcases hu with rfl|rfl|rfl|rfl<;>rfl);exact⟨A,c,A',c',w',hv,by rw[←hv];exact hrun,h.snoc hb hx ho hg hO,hbb,hg,hM,hfr⟩
theorem Two.app {O:Nat} {w W:Aj} {v0 v1:Ak} {z0 z1:List SkR} {x:SkR} (h:Two O w v0 v1 z0 z1) (hO:O≤w.heap.size) (hb:Below w.heap.size w W) (hx:Ir w.heap.size W x) (hl:z0.length≤1000000):
  ∃A c A' c' w',v0= Ad A z0.length c∧(Builtin.append_ #[31,31] 31 #[Ad A z0.length c,Ad (Af ⟨W.heap.size,0,Ae⟩) 1 1]).run Tryz.prog (W.alloc (.cells #[Aa Ab x.1.c.x,Aa Ab x.1.c.y,Aa Ac (x.1.c.q:Int),Ad x.2.1 x.1.ls.length x.2.2] 89))= .ok (Ad A' (z0.length+1) c') w'∧
   Two O w' (Ad A' (z0.length+1) c') v1 (z0++[x]) z1∧Below O W w'∧W.grownBy w' v0.ownBlock∧O≤w'.heap.size:=by
 obtain⟨A,c,A',c',w',hv,hrun,h0,hbb,hg,hM,hfr⟩:=h.1.app hO hb hx hl;have hlt:=λg (hg:v1.ownBlock=Af g)=>(h.2.1.1.lt g hg).2;have hh:∀g,g<w.heap.size→v0.ownBlock≠Af g→w'.heap[g]? =w.heap[g]? :=λg h1 h2=>(hg.block g (Bq h1 hb.size) (Ne.symm h2)).trans (hb.block g h1);refine⟨A,c,A',c',w',hv,hrun,⟨h0,⟨Dr h.2.1.1 λg hg1=>hh g (hlt g hg1) λe=>h.2.2 g e hg1,λy hy=>?_,h.2.1.2.2⟩,λg g1 g2=>?_⟩,hbb,hg,hM⟩
 ·have hk:=h.2.1.2.1 y hy;exact hk.same λg hgy=>hh g (hk.lt g hgy).2.1 (Ph h.1.1 hk g hgy)
 ·rcases hfr with e|⟨g',e,hge⟩
  ·exact h.2.2 g (e▸g1) g2
  ·rw[e]at g1;injection g1 with g1;subst g1;have:=hlt _ g2;have:=hb.size;omega
theorem Vu (K C:Int) (s:Nat) (l:List Stk) (k:Nat) (h:k<l.length):Dc K C s (l.take (k+1))=if Dy K C l[k].c=s then Dc K C s (l.take k)++[l[k]]else Dc K C s (l.take k):=by
 unfold Dc;rw[Bc h,List.filter_append];by_cases hs:Dy K C l[k].c=s
 ·simp[hs]
 ·simp[hs]
theorem Ac2 (K C:Int) (c:Cl):Dy K C c=0∨Dy K C c=1:=by
 unfold Dy
 split
 ·exact .inr rfl
 ·exact .inl rfl
def wG (K C:Int) (l:List Stk) (w:Aj) (e:Ending) (w':Aj):Prop:=
 ∃A0 A1,e= .returned (.tuple #[Ad A0 (Dc K C 0 l).length (Dc K C 0 l).length,Ad A1 (Dc K C 1 l).length (Dc K C 1 l).length,Aa Ab 0])∧Dh w' A0 (Dc K C 0 l)∧Dh w' A1 (Dc K C 1 l)∧Below w.heap.size w w'
theorem gQ {K C:Int} (h:okL K C=true):On (K,C)=(ofL K C,0):=by unfold On;rw[if_pos h]
theorem oP (K C:Int) (s:Nat) (l:List Stk):(Dc K C s l).length≤l.length:=List.length_filter_le _ _
def rO (w:Aj) (N T O:Nat) (K C:Int) (l:List Stk) (k:Nat) (wr:Aj):Prop:=
 ∃v0 v1 z0 z1,Bx w [(N,#[Aa Ac K,Aa Ab C],72),(T,#[v0,v1],194)] wr∧Two O wr v0 v1 z0 z1∧z0.map (·.1)=Dc K C 0 (l.take k)∧z1.map (·.1)=Dc K C 1 (l.take k)∧O≤wr.heap.size
theorem bQ {w wr Y:Aj} {N T O:Nat} {K C:Int} {v0 v1:Ak} {z0 z1:List SkR} {x:SkR} (HX:Bx w [(N,#[Aa Ac K,Aa Ab C],72),(T,#[v0,v1],194)] wr) (h:Two O wr v0 v1 z0 z1) (hO:O≤wr.heap.size)
  (hN:N<O) (hT:T<O) (hw:w.heap.size≤O) (hb:Below wr.heap.size wr Y) (hx:Ir wr.heap.size Y x) (hl:z0.length≤1000000):
  ∃A c A' c' w8,v0= Ad A z0.length c∧(Builtin.append_ #[31,31] 31 #[Ad A z0.length c,Ad (Af ⟨Y.heap.size,0,Ae⟩) 1 1]).run Tryz.prog (Y.alloc (.cells #[Aa Ab x.1.c.x,Aa Ab x.1.c.y,Aa Ac (x.1.c.q:Int),Ad x.2.1 x.1.ls.length x.2.2] 89))= .ok (Ad A' (z0.length+1) c') w8∧
   (w8.frozen? ⟨T,0,Ae⟩=false∧w8.cell? ⟨T,0,Ae⟩=Af (Ad A z0.length c))∧(∀X,wr.heap.size≤X→X<Y.heap.size→w8.heap[X]? =Y.heap[X]? ∧(w8.setCell ⟨T,0,Ae⟩ (Ad A' (z0.length+1) c')).heap[X]? =Y.heap[X]?)∧
   Bx w [(N,#[Aa Ac K,Aa Ab C],72),(T,#[Ad A' (z0.length+1) c',v1],194)] (w8.setCell ⟨T,0,Ae⟩ (Ad A' (z0.length+1) c'))∧Two O (w8.setCell ⟨T,0,Ae⟩ (Ad A' (z0.length+1) c')) (Ad A' (z0.length+1) c') v1 (z0++[x]) z1∧O≤(w8.setCell ⟨T,0,Ae⟩ (Ad A' (z0.length+1) c')).heap.size:=by
 obtain⟨A,c,A',c',w8,hv,hrun,h8,hb8,hg8,hO8⟩:=h.app hO hb hx hl;have H8:=(HX.call hb).keepN (M:=O) (by simp;exact⟨hN,hT⟩) hw hb8;obtain⟨⟨t0,-⟩,f0,-⟩:=Cy (H8.blk 1 _ _ _ rfl);have hX:∀X,wr.heap.size≤X→X<Y.heap.size→w8.heap[X]? =Y.heap[X]? :=λX h1 h2=>hg8.block X h2 λe=>by have:=(h.1.1.lt X e.symm).2;omega
 exact⟨A,c,A',c',w8,hv,hrun,⟨f0,by rw[t0,hv]⟩,λX h1 h2=>⟨hX X h1 h2,(Below.heap_setCell w8 ⟨T,0,Ae⟩ _ X (by show X≠T;omega)).trans (hX X h1 h2)⟩,H8.set 1 0 rfl _,h8.setLow hT 0 _,by simpa using hO8⟩
theorem bR {w wr Y:Aj} {N T O:Nat} {K C:Int} {v0 v1:Ak} {z0 z1:List SkR} {x:SkR} (HX:Bx w [(N,#[Aa Ac K,Aa Ab C],72),(T,#[v0,v1],194)] wr) (h:Two O wr v0 v1 z0 z1) (hO:O≤wr.heap.size)
  (hN:N<O) (hT:T<O) (hw:w.heap.size≤O) (hb:Below wr.heap.size wr Y) (hx:Ir wr.heap.size Y x) (hl:z1.length≤1000000):
  ∃A c A' c' w8,v1= Ad A z1.length c∧(Builtin.append_ #[31,31] 31 #[Ad A z1.length c,Ad (Af ⟨Y.heap.size,0,Ae⟩) 1 1]).run Tryz.prog (Y.alloc (.cells #[Aa Ab x.1.c.x,Aa Ab x.1.c.y,Aa Ac (x.1.c.q:Int),Ad x.2.1 x.1.ls.length x.2.2] 89))= .ok (Ad A' (z1.length+1) c') w8∧
   (w8.frozen? ⟨T,1,Ae⟩=false∧w8.cell? ⟨T,1,Ae⟩=Af (Ad A z1.length c))∧(∀X,wr.heap.size≤X→X<Y.heap.size→w8.heap[X]? =Y.heap[X]? ∧(w8.setCell ⟨T,1,Ae⟩ (Ad A' (z1.length+1) c')).heap[X]? =Y.heap[X]?)∧
   Bx w [(N,#[Aa Ac K,Aa Ab C],72),(T,#[v0,Ad A' (z1.length+1) c'],194)] (w8.setCell ⟨T,1,Ae⟩ (Ad A' (z1.length+1) c'))∧Two O (w8.setCell ⟨T,1,Ae⟩ (Ad A' (z1.length+1) c')) v0 (Ad A' (z1.length+1) c') z0 (z1++[x])∧O≤(w8.setCell ⟨T,1,Ae⟩ (Ad A' (z1.length+1) c')).heap.size:=by
 obtain⟨A,c,A',c',w8,hv,hrun,h8,hb8,hg8,hO8⟩:=h.symm.app hO hb hx hl;have H8:=(HX.call hb).keepN (M:=O) (by simp;exact⟨hN,hT⟩) hw hb8;obtain⟨⟨-,t0⟩,-,f0⟩:=Cy (H8.blk 1 _ _ _ rfl);have hX:∀X,wr.heap.size≤X→X<Y.heap.size→w8.heap[X]? =Y.heap[X]? :=λX h1 h2=>hg8.block X h2 λe=>by have:=(h.2.1.1.lt X e.symm).2;omega
 exact⟨A,c,A',c',w8,hv,hrun,⟨f0,by rw[t0,hv]⟩,λX h1 h2=>⟨hX X h1 h2,(Below.heap_setCell w8 ⟨T,1,Ae⟩ _ X (by show X≠T;omega)).trans (hX X h1 h2)⟩,H8.set 1 1 rfl _,(h8.setLow hT 1 _).symm,by simpa using hO8⟩
theorem qZ {K C:Int} {l:List Stk} {k:Nat} {z:List SkR} {s:Nat} (h:z.map (·.1)=Dc K C s (l.take k)) (hl:l.length≤100000):z.length≤1000000:=by
 have:=congrArg List.length h;have h2:=oP K C s (l.take k);simp at this h2;omega
theorem vD (A:Option Addr) (l:List Stk) (n cc:Nat) (K C:Int) (w:Aj) (hn:n=l.length) (h:Dh w A l) (hl:n≤100000) (hls:∀x∈l,x.ls.length≤100000) (hL:okL K C=true) (hc:∀x∈l,x.c.ok=true) (hQ:Qf w):
  Al Tryz.prog 49 #[Ad A n cc,.agg #[Aa Ac K,Aa Ab C]] w (wG K C l w):=by
 have HSK:=Ah (λ(w':Aj) (hb:Below w.heap.size w w')=>h.below hb);have HN:=Ah hn;have HLS:=Ah hls;have HSD:=Ah (λ(c:Cl) (hcc:c.ok=true) (w':Aj) (hb:Below w.heap.size w w')=>Vi K C c w' hL hcc (hQ.below hb));have HOK:=Ah hc;have hK:=(Ic.1 hL).1;have hmo:=λw'=>Rm K C w' Ci;rw[gQ hL]at hmo;unfold mvR Mv.v at hmo;dsimp only at hmo;obtain⟨⟨mt,mx,my⟩,hm⟩:=ey (ofL K C);rw[hm]at hmo;dsimp only at hmo;have HMO:=Ah hmo;have H:=((Bx.start w).new #[Aa Ac K,Aa Ab C] 72 rfl).new #[Ad Ae 0 0,Ad Ae 0 0] 194 (N:=w.heap.size+1) Cn;clear hn h hls hL hc hQ hK hmo hm;go_enter Tryz.func49,Tryz.ntmps49;go_upto_region 2 with fail;obtain⟨N,hN⟩:=ez w.heap.size;rw[←hN]at H⊢;have HNN:=Ah hN;clear hN;obtain⟨T,hT⟩:=ey (N+1);rw[hT]at H⊢;have n1:N≠T:=Ci;have n2:T≠N:=Ci;clear hT;obtain⟨W0,hW0⟩:=ez ((w.alloc (.cells #[Aa Ac K,Aa Ab C] 72)).alloc (.cells #[Ad Ae 0 0,Ad Ae 0 0] 194));rw[←hW0]at H⊢;clear hW0;obtain⟨⟨a0,a1⟩,-⟩:=Cy (H.blk 0 _ _ _ rfl);go_wp2_with fail;refine(HMO.out _).mono ?_;rintro ee w1 ⟨rfl,hb⟩;have H1:=H.call hb;clear a0 a1 hb H HMO;have H2:=H1.other (.cells #[Aa Ac (mt:Int),Aa Ab mx,Aa Ab my] 30);obtain⟨O,hO⟩:=ey w1.heap.size;have hNO:N<O:=by have:=H1.lt 0 rfl;omega
 have hTO:T<O:=by have:=H1.lt 1 rfl;omega
 have hWO:w.heap.size≤O:=by have:=H1.below.size;omega
 have h2s:O≤(w1.alloc (.cells #[Aa Ac (mt:Int),Aa Ab mx,Aa Ab my] 30)).heap.size:=by rw[←hO];simp
 go_upto_region 5 with fail
 try rw[hO]
 obtain⟨W2,hW2⟩:=ez (w1.alloc (.cells #[Aa Ac (mt:Int),Aa Ab mx,Aa Ab my] 30));rw[←hW2]at H2 h2s⊢;clear hW2;have HI0:Hid (rO w N T O K C l 0 W2):=Ah ⟨_,_,[],[],H2,⟨Dd.nil _ _,Dd.nil _ _,λg h=>by cases h⟩,rfl,rfl,h2s⟩;have HNO:=Ah hNO;have HTO:=Ah hTO;have HWO:=Ah hWO;clear h2s H1 H2 hO hNO hTO hWO;go_wp2
 go_loopw [23] (λs23 wr=>∃k:Nat,k≤n∧s23= Aa Ab k∧Hid (rO w N T O K C l k wr)) (λs23 _=>n-(intOf s23).toNat)
 case atStart=>exact⟨0,Ci,rfl,HI0⟩
 case round=>
  obtain⟨k,hk,rfl,HZ⟩:=hrel;clear HI0;obtain⟨v0,v1,z0,z1,HX,HT,hz0,hz1,hOW⟩:=HZ.out;clear HZ;by_cases hlt:k<n
  ·have hkl:k<l.length:=by have:=HN.out;omega
   have q0:(k:Int)<(n:Int):=Ci;obtain⟨bb,o',A',c',hAA,hbl,⟨d0,d1,d2,d3⟩,hA',hle,hcm,hrd⟩:=(HSK.out _ HX.below).get k hkl;have hmem:=Ay hkl;have hlk:=HLS.out l[k] hmem;have hs0:=Vu K C 0 l k hkl;have hs1:=Vu K C 1 l k hkl;have hsd:=HSD.out l[k].c (HOK.out l[k] hmem);have hle2:=Ac2 K C l[k].c;obtain⟨⟨⟨x0,x1,x2⟩,ids⟩,hx⟩:∃z,l[k]=z:=⟨_,rfl⟩;simp only[hx]at d0 d1 d2 d3 hlk hrd hA' hle hs0 hs1 hsd hle2;obtain⟨e9,hE9⟩:=ey (Dy K C (⟨x0,x1,x2⟩:Cl));rw[hE9]at hs0 hs1 hsd hle2;obtain⟨m,hm⟩:=ey ids.length;rw[hm]at d3 hlk hrd hA' hle;have HMD:=Ah hm;have HS0:=Ah hs0;have HS1:=Ah hs1;have HSD2:=Ah hsd;have HCP:=Ah (λ(w':Aj) (hb:Below wr.heap.size wr w')=>Lu ⟨x0,x1,x2⟩ A' ids m c' w' hm.symm hA' (hrd.below hb) Ci);obtain⟨X,hX⟩:=ey wr.heap.size;have H:=HX.new #[Aa Ab x0,Aa Ab x1,Aa Ac x2,Ad A' m c'] 89 hX;have hbq:=(Ag wr.heap.size wr).alloc (Am _) (.cells #[Aa Ab x0,Aa Ab x1,Aa Ac x2,Ad A' m c'] 89);have HZ0:=Ah hz0;have HZ1:=Ah hz1;have HTT:=Ah HT;have HXW:=Ah HX.below;have HXH:=Ah HX;have HOW:=Ah hOW;subst hAA;clear hs0 hs1 hsd hrd hA' hle hx hm hmem hE9 hz0 hz1 HT HX hOW;go_upto_region 8 with fail
   try rw[hX]
   obtain⟨W5,hW5⟩:=ez (wr.alloc (.cells #[Aa Ab x0,Aa Ab x1,Aa Ac x2,Ad A' m c'] 89));rw[←hW5]at H hbq⊢;clear hW5;clear d0 d1 d2 d3;obtain⟨⟨e0,e1,e2,e3⟩,-⟩:=Ez (H.blk 2 _ _ _ rfl);obtain⟨⟨a0,a1⟩,-⟩:=Cy (H.blk 0 _ _ _ rfl);go_wp2_with fail;refine(HSD2.out _ (HXW.out.trans (hbq.mono HXW.out.size))).mono ?_;rintro ee w6 ⟨rfl,hb⟩;have H6:=H.call hb;have hb6:=hbq.trans (hb.mono hbq.size);clear e0 e1 e2 e3 a0 a1 hb H HSD2 hbq;obtain⟨⟨e0,e1,e2,e3⟩,-⟩:=Ez (H6.blk 2 _ _ _ rfl);obtain⟨⟨t0,t1⟩,-⟩:=Cy (H6.blk 1 _ _ _ rfl);rcases hle2 with rfl|rfl
   ·go_upto_region 11 with fail;obtain⟨Av,cv,hvv,-,-⟩:=Dv HTT.out.1.1;subst hvv;have hzl:=qZ HZ0.out (by have:=HN.out;omega);obtain⟨mz,hmz⟩:=ey z0.length;rw[hmz]at t0 hzl;have hXl:X<w6.heap.size:=H6.lt 2 rfl;obtain⟨S,hSd⟩:∃S:Aj→Prop,S=λW'=>W'.cell? ⟨X,0,Ae⟩=Af (Aa Ab x0)∧W'.cell? ⟨X,1,Ae⟩=Af (Aa Ab x1)∧W'.cell? ⟨X,2,Ae⟩=Af (Aa Ac x2)∧W'.cell? ⟨X,3,Ae⟩=Af (Ad A' m c'):=⟨_,rfl⟩;have HSO:Hid (∀W',S W'→W'.cell? ⟨X,0,Ae⟩=Af (Aa Ab x0)∧W'.cell? ⟨X,1,Ae⟩=Af (Aa Ab x1)∧W'.cell? ⟨X,2,Ae⟩=Af (Aa Ac x2)∧W'.cell? ⟨X,3,Ae⟩=Af (Ad A' m c')):=Ah λW' h=>by subst hSd;exact h
    have HSA:Hid (∀W',W'.heap[X]? =w6.heap[X]? →S W'):=Ah λW' h=>by
     have hc:∀j v,w6.cell? ⟨X,j,Ae⟩=Af v→W'.cell? ⟨X,j,Ae⟩=Af v:=λj v hv=>by
      unfold World.cell? at hv⊢;rw[h];exact hv
     subst hSd;exact⟨hc _ _ e0,hc _ _ e1,hc _ _ e2,hc _ _ e3⟩
    clear e0 e1 e2 e3 hSd;refine Ao (S:=S) Cm (HSA.out _ rfl) (λhS=>?_);have hb7:Below wr.heap.size wr w6.drew:=hb6.drew;have hXY:w6.drew.heap=w6.heap:=rfl;have hcl:w6.drew.cell? ⟨T,0,Ae⟩=Af (Ad Av mz cv):=t0;have hXd:X<w6.drew.heap.size:=hXl;rw[←hXY]at HSA;clear hXY t0 t1 H6 hb6 hXl;obtain⟨Y,hY⟩:=ez w6.drew;rw[←hY]at hS hb7 hcl hXd HSA⊢;clear hY;have HSA2:Hid (∀(Y2 W':Aj),Below Y.heap.size Y Y2→W'.heap[X]? =Y2.heap[X]? →S W'):=Ah λY2 W' hb h=>HSA.out _ (h.trans (hb.block X hXd));have HB7:=Ah hb7;have HMZ:=Ah hmz;have hXw:wr.heap.size≤X:=Ci;have HXX:=Ah hXw;have HXD:=Ah hXd;have HXQ:=Ah hX;clear hb7 hmz HSA hX hXw hXd;refine Ck 0 ?_;refine Ck 1 ?_;refine Ck 2 ?_;refine Ck 4 ?_;refine Ap (rs:=[3,5]) Cm Cn (Aq rfl (λK hK=>?_) (Aq rfl (λK hK=>?_) Ar))
    ·go_simp;refine hK.out _ _ hS (λhS=>?_);clear hK K hcl;refine rdy 5 (λK hK=>?_);go_simp;refine(HCP.out _ HB7.out).mono ?_;rintro ee Y2 ⟨A9,rfl,hA9,hrow9,hb9⟩;dsimp only;rw[HMD.out]at hA9 hrow9⊢;refine hK.out _ _ (HSA2.out Y2 _ hb9 rfl) (λhS=>?_);clear hK K;have hx9:Ir wr.heap.size Y2 (⟨⟨x0,x1,x2⟩,ids⟩,(A9,m)):=⟨by show AOk A9 ids.length m;rw[HMD.out];exact hA9,by show ids.length≤m;rw[HMD.out];exact Am _,by show m≤maxLen;unfold maxLen;omega,by show En Y2 _ _ _ A9 ids.length _;rw[HMD.out];exact hrow9.base HB7.out.size⟩;have hb79:=HB7.out.trans (hb9.mono HB7.out.size);obtain⟨Bv,dv,A'',c'',w8,hv,hrun,⟨f8,k8⟩,hX8,HX9,HT9,hO9⟩:=bQ HXH.out HTT.out HOW.out HNO.out HTO.out HWO.out hb79 hx9 (by rw[HMZ.out];exact hzl);have hXY2:X<Y2.heap.size:=by have:=hb9.size;have:=HXD.out;omega
     obtain⟨h81,h82⟩:=hX8 X HXX.out hXY2;simp only[HMD.out,HMZ.out]at hrun f8 k8 h82 HX9 HT9 hO9 hv;have HS8:=Ah (HSA2.out Y2 _ hb9 h81);have HS9:=Ah (HSA2.out Y2 _ hb9 h82);have HSB:=Ah (HSA2.out Y2 _ hb9 (Below.heap_alloc Y2 (.cells #[Aa Ab x0,Aa Ab x1,Aa Ac x2,Ad A9 m m] 89) X hXY2));have HRUN:=Ah hrun;have HFIN:Hid (rO w N T O K C l (k+1) (w8.setCell ⟨T,0,Ae⟩ (Ad A'' (mz+1) c''))):=Ah ⟨_,_,_,_,HX9,HT9,by simpa[HS0.out]using HZ0.out,by simpa[HS1.out]using HZ1.out,hO9⟩;clear hx9 hb79 hrun hX8 HX9 HT9 hO9 h81 h82 hXY2 hb9 hrow9 hA9;obtain⟨rfl,rfl⟩:Av=Bv∧cv=dv:=by simpa using hv
     refine rdy 6 (λK hK=>?_);go_simp;refine hK.out _ _ HSB.out (λhS=>?_);clear hK K;refine rdy 7 (λK hK=>?_);refine Dq (by simp[Region.wanted]) (.tmp 39) (.tmp 42) 31 rfl _ _ (by simp[Act.eval]) (by simp[Act.eval]) _ _ HRUN.out ?_;refine hK.out _ _ HS8.out (λhS=>?_);clear hK K;refine Ck 8 ?_;refine rdy 9 (λK hK=>?_);go_simp;refine hK.out _ _ HS9.out (λhS=>?_);clear hK K hS;refine An Cm ?_ _;clear HRUN HS8 HS9 HSB HSO HSA2 f8 k8 HB7 HCP;go_wp2;exact⟨⟨k+1,Ci,by go_num,HFIN⟩,by simp[intOf];omega⟩
    ·go_simp;refine(HCP.out _ HB7.out).mono ?_;rintro ee Y2 ⟨A9,rfl,hA9,hrow9,hb9⟩;dsimp only;rw[HMD.out]at hA9 hrow9⊢;refine hK.out _ _ (HSA2.out Y2 _ hb9 rfl) (λhS=>?_);clear hK K;have hcl:=Cj hb9 hcl;have hx9:Ir wr.heap.size Y2 (⟨⟨x0,x1,x2⟩,ids⟩,(A9,m)):=⟨by show AOk A9 ids.length m;rw[HMD.out];exact hA9,by show ids.length≤m;rw[HMD.out];exact Am _,by show m≤maxLen;unfold maxLen;omega,by show En Y2 _ _ _ A9 ids.length _;rw[HMD.out];exact hrow9.base HB7.out.size⟩;have hb79:=HB7.out.trans (hb9.mono HB7.out.size);obtain⟨Bv,dv,A'',c'',w8,hv,hrun,⟨f8,k8⟩,hX8,HX9,HT9,hO9⟩:=bQ HXH.out HTT.out HOW.out HNO.out HTO.out HWO.out hb79 hx9 (by rw[HMZ.out];exact hzl);have hXY2:X<Y2.heap.size:=by have:=hb9.size;have:=HXD.out;omega
     obtain⟨h81,h82⟩:=hX8 X HXX.out hXY2;simp only[HMD.out,HMZ.out]at hrun f8 k8 h82 HX9 HT9 hO9 hv;have HS8:=Ah (HSA2.out Y2 _ hb9 h81);have HS9:=Ah (HSA2.out Y2 _ hb9 h82);have HSB:=Ah (HSA2.out Y2 _ hb9 (Below.heap_alloc Y2 (.cells #[Aa Ab x0,Aa Ab x1,Aa Ac x2,Ad A9 m m] 89) X hXY2));have HRUN:=Ah hrun;have HFIN:Hid (rO w N T O K C l (k+1) (w8.setCell ⟨T,0,Ae⟩ (Ad A'' (mz+1) c''))):=Ah ⟨_,_,_,_,HX9,HT9,by simpa[HS0.out]using HZ0.out,by simpa[HS1.out]using HZ1.out,hO9⟩;clear hx9 hb79 hrun hX8 HX9 HT9 hO9 h81 h82 hXY2 hb9 hrow9 hA9;obtain⟨rfl,rfl⟩:Av=Bv∧cv=dv:=by simpa using hv
     refine Ap (rs:=[3,6]) Cm Cn (Aq rfl (λK hK=>?_) (Aq rfl (λK hK=>?_) Ar))
     ·go_simp;refine hK.out _ _ hS (λhS=>?_);clear hK K hcl;refine rdy 6 (λK hK=>?_);go_simp;refine hK.out _ _ HSB.out (λhS=>?_);clear hK K;refine rdy 7 (λK hK=>?_);refine Dq (by simp[Region.wanted]) (.tmp 39) (.tmp 42) 31 rfl _ _ (by simp[Act.eval]) (by simp[Act.eval]) _ _ HRUN.out ?_;refine hK.out _ _ HS8.out (λhS=>?_);clear hK K;refine Ck 8 ?_;refine rdy 9 (λK hK=>?_);go_simp;refine hK.out _ _ HS9.out (λhS=>?_);clear hK K hS;refine An Cm ?_ _;clear HRUN HS8 HS9 HSB HSO HSA2 f8 k8 HB7 HCP;go_wp2;exact⟨⟨k+1,Ci,by go_num,HFIN⟩,by simp[intOf];omega⟩
     ·have hcl:=Cj ((Ag Y2.heap.size Y2).alloc (Am _) (.cells #[Aa Ab x0,Aa Ab x1,Aa Ac x2,Ad A9 m m] 89)) hcl;go_simp;refine hK.out _ _ HSB.out (λhS=>?_);clear hK K;refine rdy 3 (λK hK=>?_);go_simp;refine hK.out _ _ hS (λhS=>?_);clear hK K hcl;refine rdy 7 (λK hK=>?_);refine Dq (by simp[Region.wanted]) (.tmp 39) (.tmp 42) 31 rfl _ _ (by simp[Act.eval]) (by simp[Act.eval]) _ _ HRUN.out ?_;refine hK.out _ _ HS8.out (λhS=>?_);clear hK K;refine Ck 8 ?_;refine rdy 9 (λK hK=>?_);go_simp;refine hK.out _ _ HS9.out (λhS=>?_);clear hK K hS;refine An Cm ?_ _;clear HRUN HS8 HS9 HSB HSO HSA2 f8 k8 HB7 HCP;go_wp2;exact⟨⟨k+1,Ci,by go_num,HFIN⟩,by simp[intOf];omega⟩
   ·go_upto_region 11 with fail;obtain⟨Av,cv,hvv,-,-⟩:=Dv HTT.out.2.1.1;subst hvv;have hzl:=qZ HZ1.out (by have:=HN.out;omega);obtain⟨mz,hmz⟩:=ey z1.length;rw[hmz]at t1 hzl;have hXl:X<w6.heap.size:=H6.lt 2 rfl;obtain⟨S,hSd⟩:∃S:Aj→Prop,S=λW'=>W'.cell? ⟨X,0,Ae⟩=Af (Aa Ab x0)∧W'.cell? ⟨X,1,Ae⟩=Af (Aa Ab x1)∧W'.cell? ⟨X,2,Ae⟩=Af (Aa Ac x2)∧W'.cell? ⟨X,3,Ae⟩=Af (Ad A' m c'):=⟨_,rfl⟩;have HSO:Hid (∀W',S W'→W'.cell? ⟨X,0,Ae⟩=Af (Aa Ab x0)∧W'.cell? ⟨X,1,Ae⟩=Af (Aa Ab x1)∧W'.cell? ⟨X,2,Ae⟩=Af (Aa Ac x2)∧W'.cell? ⟨X,3,Ae⟩=Af (Ad A' m c')):=Ah λW' h=>by subst hSd;exact h
    have HSA:Hid (∀W',W'.heap[X]? =w6.heap[X]? →S W'):=Ah λW' h=>by
     have hc:∀j v,w6.cell? ⟨X,j,Ae⟩=Af v→W'.cell? ⟨X,j,Ae⟩=Af v:=λj v hv=>by
      unfold World.cell? at hv⊢;rw[h];exact hv
     subst hSd;exact⟨hc _ _ e0,hc _ _ e1,hc _ _ e2,hc _ _ e3⟩
    clear e0 e1 e2 e3 hSd;refine Ao (S:=S) Cm (HSA.out _ rfl) (λhS=>?_);have hb7:Below wr.heap.size wr w6.drew:=hb6.drew;have hXY:w6.drew.heap=w6.heap:=rfl;have hcl:w6.drew.cell? ⟨T,1,Ae⟩=Af (Ad Av mz cv):=t1;have hXd:X<w6.drew.heap.size:=hXl;rw[←hXY]at HSA;clear hXY t0 t1 H6 hb6 hXl;obtain⟨Y,hY⟩:=ez w6.drew;rw[←hY]at hS hb7 hcl hXd HSA⊢;clear hY;have HSA2:Hid (∀(Y2 W':Aj),Below Y.heap.size Y Y2→W'.heap[X]? =Y2.heap[X]? →S W'):=Ah λY2 W' hb h=>HSA.out _ (h.trans (hb.block X hXd));have HB7:=Ah hb7;have HMZ:=Ah hmz;have hXw:wr.heap.size≤X:=Ci;have HXX:=Ah hXw;have HXD:=Ah hXd;have HXQ:=Ah hX;clear hb7 hmz HSA hX hXw hXd;refine Ck 0 ?_;refine Ck 1 ?_;refine Ck 2 ?_;refine Ck 4 ?_;refine Ap (rs:=[3,5]) Cm Cn (Aq rfl (λK hK=>?_) (Aq rfl (λK hK=>?_) Ar))
    ·go_simp;refine hK.out _ _ hS (λhS=>?_);clear hK K hcl;refine rdy 5 (λK hK=>?_);go_simp;refine(HCP.out _ HB7.out).mono ?_;rintro ee Y2 ⟨A9,rfl,hA9,hrow9,hb9⟩;dsimp only;rw[HMD.out]at hA9 hrow9⊢;refine hK.out _ _ (HSA2.out Y2 _ hb9 rfl) (λhS=>?_);clear hK K;have hx9:Ir wr.heap.size Y2 (⟨⟨x0,x1,x2⟩,ids⟩,(A9,m)):=⟨by show AOk A9 ids.length m;rw[HMD.out];exact hA9,by show ids.length≤m;rw[HMD.out];exact Am _,by show m≤maxLen;unfold maxLen;omega,by show En Y2 _ _ _ A9 ids.length _;rw[HMD.out];exact hrow9.base HB7.out.size⟩;have hb79:=HB7.out.trans (hb9.mono HB7.out.size);obtain⟨Bv,dv,A'',c'',w8,hv,hrun,⟨f8,k8⟩,hX8,HX9,HT9,hO9⟩:=bR HXH.out HTT.out HOW.out HNO.out HTO.out HWO.out hb79 hx9 (by rw[HMZ.out];exact hzl);have hXY2:X<Y2.heap.size:=by have:=hb9.size;have:=HXD.out;omega
     obtain⟨h81,h82⟩:=hX8 X HXX.out hXY2;simp only[HMD.out,HMZ.out]at hrun f8 k8 h82 HX9 HT9 hO9 hv;have HS8:=Ah (HSA2.out Y2 _ hb9 h81);have HS9:=Ah (HSA2.out Y2 _ hb9 h82);have HSB:=Ah (HSA2.out Y2 _ hb9 (Below.heap_alloc Y2 (.cells #[Aa Ab x0,Aa Ab x1,Aa Ac x2,Ad A9 m m] 89) X hXY2));have HRUN:=Ah hrun;have HFIN:Hid (rO w N T O K C l (k+1) (w8.setCell ⟨T,1,Ae⟩ (Ad A'' (mz+1) c''))):=Ah ⟨_,_,_,_,HX9,HT9,by simpa[HS0.out]using HZ0.out,by simpa[HS1.out]using HZ1.out,hO9⟩;clear hx9 hb79 hrun hX8 HX9 HT9 hO9 h81 h82 hXY2 hb9 hrow9 hA9;obtain⟨rfl,rfl⟩:Av=Bv∧cv=dv:=by simpa using hv
     refine rdy 6 (λK hK=>?_);go_simp;refine hK.out _ _ HSB.out (λhS=>?_);clear hK K;refine rdy 7 (λK hK=>?_);refine Dq (by simp[Region.wanted]) (.tmp 39) (.tmp 42) 31 rfl _ _ (by simp[Act.eval]) (by simp[Act.eval]) _ _ HRUN.out ?_;refine hK.out _ _ HS8.out (λhS=>?_);clear hK K;refine Ck 8 ?_;refine rdy 9 (λK hK=>?_);go_simp;refine hK.out _ _ HS9.out (λhS=>?_);clear hK K hS;refine An Cm ?_ _;clear HRUN HS8 HS9 HSB HSO HSA2 f8 k8 HB7 HCP;go_wp2;exact⟨⟨k+1,Ci,by go_num,HFIN⟩,by simp[intOf];omega⟩
    ·go_simp;refine(HCP.out _ HB7.out).mono ?_;rintro ee Y2 ⟨A9,rfl,hA9,hrow9,hb9⟩;dsimp only;rw[HMD.out]at hA9 hrow9⊢;refine hK.out _ _ (HSA2.out Y2 _ hb9 rfl) (λhS=>?_);clear hK K;have hcl:=Cj hb9 hcl;have hx9:Ir wr.heap.size Y2 (⟨⟨x0,x1,x2⟩,ids⟩,(A9,m)):=⟨by show AOk A9 ids.length m;rw[HMD.out];exact hA9,by show ids.length≤m;rw[HMD.out];exact Am _,by show m≤maxLen;unfold maxLen;omega,by show En Y2 _ _ _ A9 ids.length _;rw[HMD.out];exact hrow9.base HB7.out.size⟩;have hb79:=HB7.out.trans (hb9.mono HB7.out.size);obtain⟨Bv,dv,A'',c'',w8,hv,hrun,⟨f8,k8⟩,hX8,HX9,HT9,hO9⟩:=bR HXH.out HTT.out HOW.out HNO.out HTO.out HWO.out hb79 hx9 (by rw[HMZ.out];exact hzl);have hXY2:X<Y2.heap.size:=by have:=hb9.size;have:=HXD.out;omega
     obtain⟨h81,h82⟩:=hX8 X HXX.out hXY2;simp only[HMD.out,HMZ.out]at hrun f8 k8 h82 HX9 HT9 hO9 hv;have HS8:=Ah (HSA2.out Y2 _ hb9 h81);have HS9:=Ah (HSA2.out Y2 _ hb9 h82);have HSB:=Ah (HSA2.out Y2 _ hb9 (Below.heap_alloc Y2 (.cells #[Aa Ab x0,Aa Ab x1,Aa Ac x2,Ad A9 m m] 89) X hXY2));have HRUN:=Ah hrun;have HFIN:Hid (rO w N T O K C l (k+1) (w8.setCell ⟨T,1,Ae⟩ (Ad A'' (mz+1) c''))):=Ah ⟨_,_,_,_,HX9,HT9,by simpa[HS0.out]using HZ0.out,by simpa[HS1.out]using HZ1.out,hO9⟩;clear hx9 hb79 hrun hX8 HX9 HT9 hO9 h81 h82 hXY2 hb9 hrow9 hA9;obtain⟨rfl,rfl⟩:Av=Bv∧cv=dv:=by simpa using hv
     refine Ap (rs:=[3,6]) Cm Cn (Aq rfl (λK hK=>?_) (Aq rfl (λK hK=>?_) Ar))
     ·go_simp;refine hK.out _ _ hS (λhS=>?_);clear hK K hcl;refine rdy 6 (λK hK=>?_);go_simp;refine hK.out _ _ HSB.out (λhS=>?_);clear hK K;refine rdy 7 (λK hK=>?_);refine Dq (by simp[Region.wanted]) (.tmp 39) (.tmp 42) 31 rfl _ _ (by simp[Act.eval]) (by simp[Act.eval]) _ _ HRUN.out ?_;refine hK.out _ _ HS8.out (λhS=>?_);clear hK K;refine Ck 8 ?_;refine rdy 9 (λK hK=>?_);go_simp;refine hK.out _ _ HS9.out (λhS=>?_);clear hK K hS;refine An Cm ?_ _;clear HRUN HS8 HS9 HSB HSO HSA2 f8 k8 HB7 HCP;go_wp2;exact⟨⟨k+1,Ci,by go_num,HFIN⟩,by simp[intOf];omega⟩
     ·have hcl:=Cj ((Ag Y2.heap.size Y2).alloc (Am _) (.cells #[Aa Ab x0,Aa Ab x1,Aa Ac x2,Ad A9 m m] 89)) hcl;go_simp;refine hK.out _ _ HSB.out (λhS=>?_);clear hK K;refine rdy 3 (λK hK=>?_);go_simp;refine hK.out _ _ hS (λhS=>?_);clear hK K hcl;refine rdy 7 (λK hK=>?_);refine Dq (by simp[Region.wanted]) (.tmp 39) (.tmp 42) 31 rfl _ _ (by simp[Act.eval]) (by simp[Act.eval]) _ _ HRUN.out ?_;refine hK.out _ _ HS8.out (λhS=>?_);clear hK K;refine Ck 8 ?_;refine rdy 9 (λK hK=>?_);go_simp;refine hK.out _ _ HS9.out (λhS=>?_);clear hK K hS;refine An Cm ?_ _;clear HRUN HS8 HS9 HSB HSO HSA2 f8 k8 HB7 HCP;go_wp2;exact⟨⟨k+1,Ci,by go_num,HFIN⟩,by simp[intOf];omega⟩
  ·obtain rfl:k=n:=Ci;have q0:¬(k:Int)<(k:Int):=Ci;have ht:l.take k=l:=Bg (by have:=HN.out;omega);rw[ht]at hz0 hz1;obtain⟨A0,c0,hv0,h01,h02⟩:=Dv HT.1.1;obtain⟨A1,c1,hv1,h11,h12⟩:=Dv HT.2.1.1;subst hv0 hv1;have hs0:=HT.1.stks;have hs1:=HT.2.1.stks;have hl0:z0.length=(Dc K C 0 l).length:=by rw[←hz0,Bo]
   have hl1:z1.length=(Dc K C 1 l).length:=by rw[←hz1,Bo]
   rw[hz0]at hs0;rw[hz1]at hs1;rw[hl0]at h01 HX;rw[hl1]at h11 HX;obtain⟨⟨t0,t1⟩,-⟩:=Cy (HX.blk 1 _ _ _ rfl);obtain⟨m0,hm0⟩:=ey ((Dc K C 0 l).length);obtain⟨m1,hm1⟩:=ey ((Dc K C 1 l).length);have HFIN:Hid (∀w',Below wr.heap.size wr w'→wG K C l w (.returned (.tuple #[Ad A0 m0 m0,Ad A1 m1 m1,Aa Ab 0])) w'):=Ah λw' hb=>⟨A0,A1,by rw[hm0,hm1],hs0.below hb,hs1.below hb,HX.below.trans (hb.mono HX.below.size)⟩;rw[hm0]at h01 t0;rw[hm1]at h11 t1;have C0:=Ah (λw'=>cQ A0 m0 c0 w' h01 h02);have C1:=Ah (λw'=>cQ A1 m1 c1 w' h11 h12);clear hz0 hz1 ht HT HX hs0 hs1 hl0 hl1 h01 h02 h11 h12 hm0 hm1 hOW;go_upto_region 13 with fail;obtain⟨S,hSd⟩:∃S:Aj→Prop,S=λW'=>W'.cell? ⟨T,0,Ae⟩=Af (Ad A0 m0 c0)∧W'.cell? ⟨T,1,Ae⟩=Af (Ad A1 m1 c1):=⟨_,rfl⟩;have HSO:Hid (∀W',S W'→W'.cell? ⟨T,0,Ae⟩=Af (Ad A0 m0 c0)∧W'.cell? ⟨T,1,Ae⟩=Af (Ad A1 m1 c1)):=Ah λW' h=>by subst hSd;exact h
   have HSA:Hid (∀W',Below wr.heap.size wr W'→S W'):=Ah λW' h=>by
    subst hSd;exact⟨Cj h t0,Cj h t1⟩
   refine Ao (S:=S) Cm (HSA.out _ (Ag _ _).drew) (λhS=>?_);have hb:Below wr.heap.size wr wr.drew:=(Ag _ _).drew;clear t0 t1 hSd;obtain⟨Y,hY⟩:=ez wr.drew;rw[←hY]at hS hb⊢;clear hY;refine Ck 0 ?_;refine Ck 1 ?_;refine Ck 3 ?_;refine Ck 4 ?_;refine rdy 2 (λK hK=>?_);go_simp;refine(C0.out _).mono ?_;rintro e X1 ⟨rfl,hbm⟩;have hb:=hb.trans (hbm.mono hb.size);refine hK.out _ _ (HSA.out _ hb) (λhS=>?_);clear hK K hbm;refine rdy 5 (λK hK=>?_);go_simp;refine(C1.out _).mono ?_;rintro e X2 ⟨rfl,hbm⟩;have hb:=hb.trans (hbm.mono hb.size);refine hK.out _ _ (HSA.out _ hb) (λhS=>?_);clear hK K hbm;refine Ck 6 ?_;refine Ck 7 ?_;refine Ck 8 ?_;refine An Cm ?_ _;go_wp2_with fail;refine Ai (v:= .tuple #[Ad A0 m0 m0,Ad A1 m1 m1,Aa Ab 0]) (by simp[results,Tryz.results49,go_sem]) rfl ?_;exact HFIN.out _ hb
theorem uG {w:Aj} {g base n c:Nat} {e:TypeId} {cs:Array Ak} {sz:Nat} (hb:base≤g) (hg:w.heap[g]? =Af (.cells cs e (0,0))) (_hn:n≤c) (hc:c≤maxLen) (hcs:cs.size=c*sz):w.ownsRow base e sz (Ad (Af ⟨g,0,Ae⟩) 0 c) 0 []:=
 ⟨Cn,.inr ⟨g,c,cs,rfl,hb,hg,Ci,hc,hcs,Cn⟩⟩
theorem fR (n:Nat) (w:Aj) (hn:n≤1000000):
  Al Tryz.prog 128 #[Ad Ae 0 0,Aa Ab n] w (Mo 89 4 0 [] w):=by
 obtain⟨i0,hi0,hz0,hz1,hz2⟩:=info_parts Su;go_enter Tryz.func128,Tryz.ntmps128;by_cases h0:n=0
 ·subst h0;go_wp2;go_ret;exact⟨_,rfl,World.ownsRow_nil _ _ _ _,Ag _ _⟩
 ·have hr:=Lib.run_append_nil_zeros (P:=Tryz.prog) w 31 3 31 89 i0 _ .i64 .i64 Tryz.underlying31 Tryz.underlying3 hi0 hz0 n Ci Ci Ci (by rw[hz2];omega);have hge:=grownCap_ge w n 0 89;have hcm:=grownCap_le_maxLen w n 0 89 (by simp[maxLen];omega);obtain⟨C,hC⟩:=ey (grownCap w n 0 89);rw[hC]at hr hge hcm;have HR:=Ah hr;have hnp:(0:Int)<(n:Int):=Ci;unfold maxLen at hcm;clear hr hC;go_wp2_with (at_builtin;refine As _ rfl _ _ _ _ rfl _ _ rfl rfl _ _ HR.out ?_);go_wp2;go_ret;refine⟨_,rfl,uG (cs:=Builtin.zeroCells (Value.agg #[Aa Ab 0,Aa Ab 0,Aa Ac 0,Ad Ae 0 0]).cells n++Builtin.zeroCells (Value.agg #[Aa Ab 0,Aa Ab 0,Aa Ac 0,Ad Ae 0 0]).cells (C-n)) (n:=0) (Am _) (Bz w.drew _) (Nat.zero_le _) (by unfold maxLen;exact hcm) ?_,(Ag _ _).drew.alloc (Am _) _⟩;rw[Array.size_append,size_zeroCells,size_zeroCells];simp[Value.cells];omega
def vX (l:List Stk) (w:Aj) (e:Ending) (w':Aj):Prop:=
 ∃A c,e= .returned (Ad A l.length c)∧Dh w' A l∧Below w.heap.size w w'
theorem Ad2 {x:SkR}:∀u∈Eg x,u.oneCell'=true:=by
 intro u hu;simp[Eg]at hu;rcases hu with rfl|rfl|rfl|rfl<;>rfl
theorem Zj (l:List SkR):∀u∈l.flatMap Eg,u.oneCell'=true:=by
 intro u hu;obtain⟨x,-,hx⟩:=List.mem_flatMap.1 hu;exact Ad2 u hx
theorem Dh.cat {w1 w2 w3:Aj} {A3:Option Addr} {l1 l2:List Stk} {hs1 hs2:List (Option Addr×Nat)} (e1:hs1.length=l1.length) (e2:hs2.length=l2.length)
  (g1:∀(i:Nat) (h:i<l1.length) (h':i<hs1.length),AOk hs1[i].1 l1[i].ls.length hs1[i].2∧l1[i].ls.length≤hs1[i].2∧hs1[i].2≤maxLen∧Rd w1 hs1[i].1 1 l1[i].ls.length (Di l1[i].ls))
  (g2:∀(i:Nat) (h:i<l2.length) (h':i<hs2.length),AOk hs2[i].1 l2[i].ls.length hs2[i].2∧l2[i].ls.length≤hs2[i].2∧hs2[i].2≤maxLen∧Rd w2 hs2[i].1 1 l2[i].ls.length (Di l2[i].ls))
  (b1:Below w1.heap.size w1 w3) (b2:Below w2.heap.size w2 w3) (h:Rd w3 A3 4 (l1++l2).length ((l1.zip hs1).flatMap Eg++(l2.zip hs2).flatMap Eg)):Dh w3 A3 (l1++l2):=by
 refine⟨hs1++hs2,by simp[e1,e2],by rw[List.zip_append Ci,Bi];exact h,λi hi hi'=>?_⟩;by_cases h1:i<l1.length
 ·rw[List.getElem_append_left Ci,List.getElem_append_left h1];obtain⟨a,b,c,d⟩:=g1 i h1 Ci;exact⟨a,b,c,d.below b1⟩
 ·rw[List.getElem_append_right Ci,List.getElem_append_right Ci];simp only[e1];simp at hi hi';obtain⟨a,b,c,d⟩:=g2 (i-l1.length) Ci Ci;exact⟨a,b,c,d.below b2⟩
theorem Zq (sb so:Nat) (A1 A2:Option Addr) (l1 l2:List Stk) (n1 n2 c1 c2 cc:Nat) (w:Aj) (hs:sb<w.heap.size) (h1:w.cell? ⟨sb,so,Ae⟩=Af (Ad A1 n1 c1)) (h2:w.cell? ⟨sb,so+1,Ae⟩=Af (Ad A2 n2 c2))
  (r1:Dh w A1 l1) (r2:Dh w A2 l2) (e1:n1=l1.length) (e2:n2=l2.length) (b1:n1≤100000) (b2:n2≤100000):
  Al Tryz.prog 73 #[Ad (Af ⟨sb,so,Ae⟩) 2 cc] w (vX (l1++l2) w):=by
 obtain⟨i0,hi0,hz0,hz1,hz2⟩:=info_parts Su;obtain⟨hs1,f1,q1,g1⟩:=r1;obtain⟨hs2,f2,q2,g2⟩:=r2;rw[←e1]at q1;rw[←e2]at q2
 have a1:A1=Ae→n1=0:=λh=>by
  subst h;by_cases h0:0<n1
  ·obtain⟨_,_,e,-⟩:=q1.2 h0
   cases e
  ·omega
 have a2:A2=Ae→n2=0:=λh=>by
  subst h;by_cases h0:0<n2
  ·obtain⟨_,_,e,-⟩:=q2.2 h0
   cases e
  ·omega
 have HFIN:Hid (∀v w3,w3.ownsRow w.heap.size 89 4 v (n1+n2) ((l1.zip hs1).flatMap Eg++(l2.zip hs2).flatMap Eg)→Below w.heap.size w w3→vX (l1++l2) w (.returned v) w3):=Ah λv w3 ho hb=>by
  obtain⟨A,c,rfl,-,-⟩:=Dv ho;have hl:(l1++l2).length=n1+n2:=by rw[Bh,e1,e2]
  exact⟨A,c,by rw[hl],Dh.cat f1 f2 g1 g2 hb hb (by rw[hl];exact Rd.of_own ho),hb⟩
 have R1:=Ah q1;have R2:=Ah q2;have A1':=Ah a1;have A2':=Ah a2;clear q1 q2 a1 a2 g1 g2 f1 f2 e1 e2;have O1:=Ah (Zj (l1.zip hs1));have O2:=Ah (Zj (l2.zip hs2))
 generalize (l1.zip hs1).flatMap Eg=X1 at R1 HFIN O1
 generalize (l2.zip hs2).flatMap Eg=X2 at R2 HFIN O2
 go_enter Tryz.func73,Tryz.ntmps73;go_wp2_with fail;refine wp_loop_rounds 3 ?_;rw[rounds_succ];go_wp2_with fail;rw[rounds_succ];go_wp2_with fail;rw[rounds_succ];go_wp2_with fail;have hgr:=fR (n1+n2) w Ci;rw[Int.natCast_add]at hgr;refine hgr.mono ?_;clear hgr;rintro e w1 ⟨v1,rfl,hown1,hb1⟩;have e1:=Cj hb1 h1;have e2:=Cj hb1 h2;have hs1:sb<w1.heap.size:=Bq hs hb1.size;obtain⟨v2,w2,hr2,hown2,hg2⟩:=Dx (P:=Tryz.prog) w1 w.heap.size 31 31 89 i0 _ 4 48 Tryz.underlying31 hi0 hz0 hz1 hz2 rfl Ci v1 0 [] hown1 A1 n1 c1 X1 O1.out (R1.out.below hb1) A1'.out Ci Ci hb1.size;have hb2:Below w.heap.size w w2:=hb1.grown hg2 hb1.size (λq hq=>(hown1.lt q hq).1);have e3:w2.cell? ⟨sb,so+1,Ae⟩=Af (Ad A2 n2 c2):=Cj hb2 h2;obtain⟨v3,w3,hr3,hown3,hg3⟩:=Dx (P:=Tryz.prog) w2 w.heap.size 31 31 89 i0 _ 4 48 Tryz.underlying31 hi0 hz0 hz1 hz2 rfl Ci v2 _ _ hown2 A2 n2 c2 X2 O2.out (R2.out.below hb2) A2'.out Ci Ci hb2.size;have hb3:Below w.heap.size w w3:=hb2.grown hg3 hb2.size (λq hq=>(hown2.lt q hq).1);have HR2:=Ah hr2;have HR3:=Ah hr3;have HF:=Ah (HFIN.out v3 w3 (by rw[Bt,List.nil_append]at hown3;exact hown3) hb3);clear hr2 hr3 hown1 hown2 hown3 hg2 hg3 h1 h2 HFIN;go_wp2_with fail;refine wp_loop_rounds 3 ?_;rw[rounds_succ];go_wp2_with (at_builtin;refine As _ rfl _ _ _ _ rfl _ _ rfl rfl _ _ HR2.out ?_);clear HR2;go_wp2_with fail;rw[rounds_succ];go_wp2_with (at_builtin;refine As _ rfl _ _ _ _ rfl _ _ rfl rfl _ _ HR3.out ?_);go_wp2_with fail;rw[rounds_succ];go_wp2;go_ret;exact HF.out
theorem Wu (p q:Cl) (w:Aj):(Op.equal 87 (clK p) (clK q)).run Tryz.prog w= .ok (decide (p=q)) w:=Xd p q w 9998
theorem pO:cF (κ:=Cl) 87 clK where
 now:=⟨_,Tryz.underlying87,λp q=>rfl⟩
 eq:=Wu
 check:=λb p w=>Cm
 bits:=λp=>by
  have h:∀n,Instr.sameBits (n+1+1) (clK p) (clK p)=true:=by intro n;simp[Instr.sameBits,clK]
  exact h 9998
def No (c:Cl):List Stk→Nat→Option Nat
 |[],_=>Ae
 |y::r,n=>if c=y.c then Af n else No c r (n+1)
def Hn:List Stk→Nat→List (Cl×Ak)
 |[],_=>[]
 |y::r,n=>(y.c,Aa Ab (n:Int))::Hn r (n+1)
theorem Xv (c:Cl):∀(l:List Stk) (n:Nat),Ld c (Hn l n) n=(No c l n).map λ(i:Nat)=>(i,Aa Ab (i:Int))
 |[],n=>rfl
 |y::r,n=>by
  unfold Hn Ld No;by_cases h:c=y.c
  ·simp[h]
  ·simp only[if_neg h];exact Xv c r (n+1)
theorem xX (c:Cl) (l:List Stk):Ji c (Hn l 0)=(No c l 0).map λ(i:Nat)=> Aa Ab (i:Int):=by
 unfold Ji;rw[Xv,Option.map_map];rfl
theorem Vq (x:Stk):∀(l:List Stk) (n:Nat),Hn (l++[x]) n=Hn l n++[(x.c,Aa Ab ((n+l.length:Nat):Int))]
 |[],n=>rfl
 |y::r,n=>by
  have:=Vq x r (n+1);simp only[List.cons_append,Hn,this,List.length_cons];rw[show n+1+r.length=n+(r.length+1)by omega]
theorem Aa3 (x:Stk) (l:List Stk) (h:No x.c l 0=Ae):Ma x.c (Aa Ab (l.length:Int)) (Hn l 0)=Hn (l++[x]) 0:=by
 unfold Ma;rw[Xv,h,Vq,Bt];rfl
theorem Yj (x:Stk):∀(l:List Stk) (n i:Nat) (h:i<l.length),l[i].c=x.c→Hn (l.set i x) n=Hn l n
 |[],_,_,h,_=>absurd h (Nat.not_lt_zero _)
 |y::r,n,0,_,hc=>by
  have hc:y.c=x.c:=hc;simp[Hn,hc]
 |y::r,n,i+1,h,hc=>by
  simp only[Cg,Hn];rw[Yj x r (n+1) i (by simpa using h) (by simpa using hc)]
theorem Qi {c:Cl}:∀{l:List Stk} {n i:Nat},No c l n=Af i→n≤i∧∃h:i-n<l.length,l[i-n].c=c
 |[],_,_,h=>by simp[No]at h
 |y::r,n,i,h=>by
  unfold No at h;by_cases hc:c=y.c
  ·rw[if_pos hc]at h;obtain rfl:n=i:=by simpa using h
   exact⟨Am _,Cn,by simp[hc]⟩
  ·rw[if_neg hc]at h;obtain⟨h1,h2,h3⟩:=Qi h;refine⟨Ci,by simp;omega,?_⟩;have e:i-n=(i-(n+1))+1:=Ci;simp only[e,Cd];exact h3
theorem My {x:Stk}:∀{l:List Stk} {n:Nat},No x.c l n=Ae→Il x l=l++[x]∧x.c∉l.map (·.c)
 |[],_,_=>⟨rfl,Cn⟩
 |y::r,n,h=>by
  unfold No at h;by_cases hc:x.c=y.c
  ·rw[if_pos hc]at h;cases h
  ·rw[if_neg hc]at h;obtain⟨h1,h2⟩:=My h;refine⟨?_,by simp only[List.map_cons,Bk,not_or];exact⟨hc,h2⟩⟩;unfold Il;rw[if_neg (λe=>hc e.symm),h1];rfl
theorem Mz {x:Stk}:∀{l:List Stk} {n i:Nat},No x.c l n=Af i→∃h:i-n<l.length,Il x l=l.set (i-n) ⟨x.c,l[i-n].ls++x.ls⟩
 |[],_,_,h=>by simp[No]at h
 |y::r,n,i,h=>by
  have hh:=h;unfold No at h;by_cases hc:x.c=y.c
  ·rw[if_pos hc]at h;obtain rfl:n=i:=by simpa using h
   refine⟨Cn,?_⟩;unfold Il;rw[if_pos hc.symm];simp[hc]
  ·rw[if_neg hc]at h;obtain⟨h1,h2⟩:=Mz h;obtain⟨h3,-⟩:=Qi h;refine⟨by simp;omega,?_⟩;have e:i-n=(i-(n+1))+1:=Ci;unfold Il;rw[if_neg (λe=>hc e.symm),h2];simp only[e,Cg,Cd]
def Gk (l:List Stk):List Stk:=l.foldl (λo x=>if x.ls.isEmpty then o else Il x o) []
theorem nA (l:List Stk) (k:Nat) (h:k<l.length):Gk (l.take (k+1))=if l[k].ls.isEmpty then Gk (l.take k)else Il l[k] (Gk (l.take k)):=by
 unfold Gk;rw[Bc h,List.foldl_append];rfl
theorem Re (x:Stk) (l:List Stk):(Il x l).map (·.c)=l.map (·.c)∨((Il x l).map (·.c)=l.map (·.c)++[x.c]∧x.c∉l.map (·.c)):=by
 cases h:No x.c l 0 with
 |none=>
  obtain⟨h1,h2⟩:=My h;exact .inr ⟨by rw[h1];simp,h2⟩
 |some i=>
  obtain⟨h1,h2⟩:=Mz h;obtain⟨_,h3,h4⟩:=Qi h;refine .inl ?_;rw[h2,List.map_set];have e:x.c=(l.map (λy:Stk=>y.c))[i-0]'(by simpa using h1):=by rw[List.getElem_map];exact h4.symm
  show(l.map (λy:Stk=>y.c)).set (i-0) x.c=l.map (λy:Stk=>y.c);rw[e,List.set_getElem_self]
theorem mQ {x:Stk} {l:List Stk} (h:(l.map (·.c)).Nodup):((Il x l).map (·.c)).Nodup:=by
 rcases Re x l with e|⟨e,hn⟩
 ·rw[e];exact h
 ·rw[e,Bp];refine⟨h,Cn,λa ha b hb e=>?_⟩;simp at hb;subst hb;subst e;exact hn ha
theorem Uj {α β:Type} (f:β→α→β) (P:β→Prop) (h:∀b a,P b→P (f b a)):∀(l:List α) (b:β),P b→P (l.foldl f b)
 |[],_,hb=>hb
 |x::r,b,hb=>Uj f P h r _ (h b x hb)
theorem Pd (l:List Stk):((Gk l).map (·.c)).Nodup:=
 Uj (λo (x:Stk)=>if x.ls.isEmpty then o else Il x o) (λo:List Stk=>(o.map (·.c)).Nodup) (λb a hb=>by split;exact hb;exact mQ hb) l [] Cn
theorem yU (x:Stk) (l:List Stk):(Il x l).length≤l.length+1:=by
 have:=congrArg List.length (rfl:(Il x l).map (·.c)=(Il x l).map (·.c));rcases Re x l with e|⟨e,-⟩
 ·have:=congrArg List.length e;simp at this;omega
 ·have:=congrArg List.length e;simp at this;omega
theorem tM (l:List Stk):(Gk l).length≤l.length:=by
 have:∀(l:List Stk) (o:List Stk),(l.foldl (λo x=>if x.ls.isEmpty then o else Il x o) o).length≤o.length+l.length:=by
  intro l
  induction l with
  |nil=>intro o;simp
  |cons x r ih=>
   intro o;rw[List.foldl_cons,List.length_cons];refine Br (ih _) ?_
   split
   ·omega
   ·have:=yU x o;omega
 have h:=this l [];rw[List.length_nil,Bt]at h;exact h
def Fc (l:List Stk):Nat:=(l.map λx=>x.ls.length).sum
theorem jQ:∀(l:List Stk) (i:Nat) (h:i<l.length) (c:Cl) (ys:List Nat),Fc (l.set i ⟨c,l[i].ls++ys⟩)=Fc l+ys.length
 |[],_,h,_,_=>absurd h (Nat.not_lt_zero _)
 |y::r,0,_,c,ys=>by simp[Fc];omega
 |y::r,i+1,h,c,ys=>by
  have:=jQ r i (by simpa using h) c ys;simp[Fc]at this⊢;omega
theorem vQ (x:Stk) (l:List Stk):Fc (Il x l)=Fc l+x.ls.length:=by
 cases h:No x.c l 0 with
 |none=>rw[(My h).1];simp[Fc]
 |some i=>
  obtain⟨h1,h2⟩:=Mz h;rw[h2,jQ]
theorem Ry (l:List Stk):Fc (Gk l)=Fc l:=by
 have:∀(l o:List Stk),Fc (l.foldl (λo x=>if x.ls.isEmpty then o else Il x o) o)=Fc o+Fc l:=by
  intro l
  induction l with
  |nil=>intro o;simp[Fc]
  |cons x r ih=>
   intro o;rw[List.foldl_cons,ih]
   split
   ·rename_i h;have:x.ls=[]:=by simpa using h
    simp[Fc,this]
   ·rw[vQ];simp[Fc];omega
 have h:=this l [];rw[show Fc []=0 from rfl,Bt]at h;exact h
theorem Lw:∀{l:List Stk} {x:Stk},x∈l→x.ls.length≤Fc l
 |y::r,x,h=>by
  rcases Bk.1 h with rfl|h
  ·simp[Fc]
  ·have:=Lw h;simp[Fc]at this⊢;omega
theorem Am6 {x:Stk} {l:List Stk} (hx:x.ls≠[]) (h:∀y∈l,y.ls≠[]):∀y∈Il x l,y.ls≠[]:=by
 cases hp:No x.c l 0 with
 |none=>
  rw[(My hp).1];intro y hy;rcases Bl.1 hy with hy|hy
  ·exact h y hy
  ·simp at hy;subst hy;exact hx
 |some i=>
  obtain⟨h1,h2⟩:=Mz hp;rw[h2];intro y hy;rcases List.mem_or_eq_of_mem_set hy with hy|rfl
  ·exact h y hy
  ·simp[hx]
theorem gX (l:List Stk):∀x∈Gk l,x.ls≠[]:=
 Uj (λo (x:Stk)=>if x.ls.isEmpty then o else Il x o) (λo:List Stk=>∀x∈o,x.ls≠[]) (λb a hb=>by
  split
  ·exact hb
  ·rename_i h;exact Am6 (by simpa using h) hb) l [] Cn
theorem vS (l:List Stk) (k:Nat):Fc (l.take k)≤Fc l:=by
 have h:Fc l=Fc (l.take k)+Fc (l.drop k):=by
  unfold Fc;rw[←List.sum_append,←List.map_append,List.take_append_drop]
 omega
theorem Qj {α:Type} (R:α→α→Prop):∀(l1 l2:List α),l1.Perm l2→l1.Pairwise R→l2.Pairwise R→(∀a∈l1,∀b∈l1,R a b→R b a→a=b)→l1=l2
 |[],l2,h,_,_,_=>(List.Perm.nil_eq h)
 |a::r,[],h,_,_,_=>absurd h.symm Cn
 |a::r,b::s,h,h1,h2,ha=>by
  rw[List.pairwise_cons]at h1 h2
  have hab:a=b:=by
   have m1:a∈b::s:=h.mem_iff.1 Cn;have m2:b∈a::r:=h.mem_iff.2 Cn;rcases Bk.1 m1 with e|m1
   ·exact e
   rcases Bk.1 m2 with e|m2'
   ·exact e.symm
   exact ha a Cn b m2 (h1.1 b m2') (h2.1 a m1)
  subst hab;rw[Qj R r s ((List.perm_cons a).1 h) h1.2 h2.2 λx hx y hy=>ha x (by simp[hx]) y (by simp[hy])]
theorem aQ (x:Stk) (l:List Stk):(gB x l).Perm (x::l):=by
 induction l with
 |nil=>exact .refl _
 |cons y r ih=>
  unfold gB
  split
  ·exact .refl _
  ·exact(ih.cons y).trans (List.Perm.swap x y r)
theorem Ei (l:List Stk):(Iw l).Perm l:=by
 induction l with
 |nil=>exact .refl _
 |cons x r ih=>exact(aQ x _).trans (ih.cons x)
theorem Se {a b:Cl}:Fg a b≤0↔¬Fg b a<0:=by
 rw[Eo];have n1:=If (a:=a.y) (b:=b.y);have z1:=Ek (a:=a.y) (b:=b.y);have n2:=If (a:=a.x) (b:=b.x);have z2:=Ek (a:=a.x) (b:=b.x);have n3:=If (a:=(a.q:Int)) (b:=(b.q:Int));have z3:=Ek (a:=(a.q:Int)) (b:=(b.q:Int));unfold Fg
 generalize Dm a.y b.y=t1 at*
 generalize Dm a.x b.x=t2 at*
 generalize Dm (a.q:Int) (b.q:Int)=t3 at*
 split
 ·omega
 ·split
  ·omega
  ·omega
theorem Ai9 (x:Stk) (l:List Stk) (h:l.Pairwise λp q=>¬Fg q.c p.c<0):(gB x l).Pairwise λp q=>¬Fg q.c p.c<0:=by
 induction l with
 |nil=>exact List.pairwise_singleton _ _
 |cons y r ih=>
  unfold gB;have hh:=h;rw[List.pairwise_cons]at h
  split
  ·rename_i hc;rw[List.pairwise_cons];refine⟨λz hz=>?_,hh⟩;have h1:=Se.1 hc;rcases Bk.1 hz with rfl|hz
   ·exact h1
   ·have h2:=h.1 z hz;rw[Eo]at*;omega
  ·rename_i hc;rw[List.pairwise_cons];refine⟨λz hz=>?_,ih h.2⟩;rcases Bk.1 ((aQ x r).mem_iff.1 hz)with rfl|hz
   ·have:Fg y.c z.c<0:=by
     have:=mt Se.2 hc;omega
    rw[Eo]at*;omega
   ·exact h.1 z hz
theorem jJ (l:List Stk):(Iw l).Pairwise λp q=>¬Fg q.c p.c<0:=by
 induction l with
 |nil=>exact .nil
 |cons x r ih=>exact Ai9 x _ ih
theorem aH:∀{l:List Stk},(l.map (·.c)).Nodup→∀a∈l,∀b∈l,a.c=b.c→a=b
 |[],_,a,ha,_,_,_=>absurd ha Cn
 |y::r,h,a,ha0,b,hb0,e=>by
  rw[List.map_cons,List.nodup_cons]at h;rcases Bk.1 ha0 with e1|ha
  ·rcases Bk.1 hb0 with e2|hb
   ·rw[e1,e2]
   ·exact absurd (List.mem_map.2 ⟨b,hb,by rw[←e,e1]⟩) h.1
  ·rcases Bk.1 hb0 with e2|hb
   ·exact absurd (List.mem_map.2 ⟨a,ha,by rw[e,e2]⟩) h.1
   ·exact aH h.2 a ha b hb e
theorem dZ {L l':List Stk} (hp:l'.Perm L) (hs:l'.Pairwise λp q=>¬Fg q.c p.c<0) (hn:(L.map (·.c)).Nodup):l'=Iw L:=by
 refine Qj _ l' (Iw L) (hp.trans (Ei L).symm) hs (jJ L) λa ha b hb h1 h2=>?_;refine aH hn a (hp.mem_iff.1 ha) b (hp.mem_iff.1 hb) ?_;rw[Eo]at h1 h2;obtain⟨⟨ax,ay,aq⟩,al⟩:=a;obtain⟨⟨bx,by',bq⟩,bl⟩:=b;dsimp only at h1 h2⊢;have e1:ax=bx:=Ci;have e2:ay=by':=Ci;have e3:aq=bq:=Ci;rw[e1,e2,e3]
theorem Ow (l:List Stk) (P:Cl→Prop) (h:∀x∈l,P x.c):∀x∈Gk l,P x.c:=by
 have:∀(l o:List Stk),(∀x∈l,P x.c)→(∀x∈o,P x.c)→∀x∈l.foldl (λo x=>if x.ls.isEmpty then o else Il x o) o,P x.c:=by
  intro l
  induction l with
  |nil=>intro o _ h;exact h
  |cons y r ih=>
   intro o h1 h2;refine ih _ (λx hx=>h1 x (by simp[hx])) ?_;dsimp only
   split
   ·exact h2
   ·intro x hx;have hm:x.c∈(Il y o).map (·.c):=List.mem_map.2 ⟨x,hx,rfl⟩;rcases Re y o with e|⟨e,-⟩
    ·rw[e]at hm;obtain⟨z,hz,e⟩:=List.mem_map.1 hm;exact e▸h2 z hz
    ·rw[e]at hm;rcases Bl.1 hm with hm|hm
     ·obtain⟨z,hz,e⟩:=List.mem_map.1 hm;exact e▸h2 z hz
     ·simp at hm;exact hm▸h1 y Cn
 exact this l [] h Cn
def Oi (w:Aj) (x:SkR):Prop:=∀g,x.2.1.map (·.block)=Af g→∃cur,w.heap[g]? =Af (.cells cur 3 (0,0))∧x.2.2≤cur.size
theorem Oi.same {w w':Aj} {x:SkR} (h:Oi w x) (hb:∀g∈Fp x,w'.heap[g]? =w.heap[g]?):Oi w' x:=λg hg=>by
 obtain⟨cur,h1,h2⟩:=h g hg;exact⟨cur,(hb g (by unfold Fp;rw[hg];simp)).trans h1,h2⟩
theorem Oi.clip {O:Nat} {w:Aj} {c:Cl} {l:List Nat} {A:Option Addr} (h:En w O 3 1 A l.length (Di l)):Oi w (⟨c,l⟩,(A,l.length)):=λg hg=>by
 rcases h.2 with⟨rfl,_⟩|⟨g',cur,rfl,r2,r3,r4,-⟩
 ·cases hg
 ·obtain rfl:g'=g:=by simpa using hg
  exact⟨cur,r3,by simpa using r4⟩
theorem Vp (a b:List Nat):Di (a++b)=Di a++Di b:=by simp[Di]
theorem wL {w:Aj} {O:Nat} {x:SkR} (hx:Ir O w x) (hc:Oi w x) (hO:O≤w.heap.size) (hne:0<x.1.ls.length) (a:Addr) (m cm:Nat) (ys:List Nat) (hl:ys.length=m) (hr:Rd w (Af a) 1 m (Di ys)) (hm:x.1.ls.length+m≤1000000):
  ∃A' c' w',(Builtin.append_ #[46,46] 46 #[Ad x.2.1 x.1.ls.length x.2.2,Ad (Af a) m cm]).run Tryz.prog w= .ok (Ad A' (x.1.ls.length+m) c') w'∧
   Ir O w' (⟨x.1.c,x.1.ls++ys⟩,(A',c'))∧Oi w' (⟨x.1.c,x.1.ls++ys⟩,(A',c'))∧w.grownBy w' (x.2.1.map (·.block))∧(A'.map (·.block)=x.2.1.map (·.block)∨A'.map (·.block)=Af w.heap.size):=by
 obtain⟨i,hi,hz,hs,hb⟩:=info_parts Ss;obtain⟨⟨c,l⟩,A,cap⟩:=x;obtain⟨h1,h2,h3,h4,h5⟩:=hx;dsimp only at h1 h2 h3 h4 h5 hne hm⊢;rcases h5 with⟨-,h0⟩|⟨g,cur,rfl,r2,r3,r4,r5⟩
 ·omega
 obtain⟨cur',r3',r6⟩:=hc g rfl;rw[r3]at r3';obtain rfl:cur=cur':=by simpa using r3'
 dsimp only at r6;rw[Nat.mul_one]at r4 r5;have hil:(Di ys).length=m*i.size:=by rw[hs,Ha,hl,Nat.mul_one]
 have hia:(Di (l++ys)).length=(l.length+m)*1:=by rw[Ha,Bh,hl,Nat.mul_one]
 by_cases hroom:l.length+m≤cap
 ·have hrun:=run_append_room (P:=Tryz.prog) w 46 46 3 i Tryz.underlying46 hi g l.length cap cur r3 a m cm (Di ys) hil hr.allK (Sk ys) hroom (by rw[hs,Ha,hl];omega);rw[hs,Nat.mul_one,Ha,hl]at hrun;refine⟨_,_,_,hrun,⟨.inr ⟨g,0,rfl⟩,?_,h3,?_,.inr ⟨g,_,rfl,r2,setRow_heap w g cur _ 3 _ r3,?_,?_⟩⟩,?_,⟨rfl,rfl,rfl,Cn,λk _ hk=>setRow_other w g k _ (λe=>hk (by simp[e]))⟩,.inl rfl⟩
  ·simp[hl];exact hroom
  ·simpa[hl]using hia
  ·simp[Ha,hl];omega
  ·have e:(l++ys).length*1=(cur.toList.take l.length++Di ys).length:=by simp[Ha,hl];omega
   rw[Vp,e,←r5];exact List.take_left
  ·intro g' hg';obtain rfl:g=g':=by simpa using hg'
   exact⟨_,setRow_heap w g cur _ 3 _ r3,by simp[Ha,hl];omega⟩
 ·have holds:∀j v,(Di l)[j]? =Af v→w.cell? ((⟨g,0,Ae⟩:Addr).add j)=Af v:=λj v hj=>by
   have hadd:(⟨g,0,Ae⟩:Addr).add j=⟨g,j,Ae⟩:=by unfold Addr.add;split<;>simp_all
   rw[hadd,By w g j cur 3 (0,0) r3];rw[←r5,List.getElem?_take]at hj
   split at hj
   ·simpa using hj
   ·cases hj
  have hrun:=run_append_grow (P:=Tryz.prog) w 46 46 3 i _ Tryz.underlying46 hi hz ⟨g,0,Ae⟩ l.length cap (Di l) (by rw[hs,Ha,Nat.mul_one]) holds a m cm (Di ys) hil hr.allK Ci Ci (growslice_fits Ci (by rw[hb];omega));have hge:=grownCap_ge w (l.length+m) cap 3;have hcm:=grownCap_le_maxLen w (l.length+m) cap 3 (by simp[maxLen];omega);obtain⟨C,hC⟩:=ey (grownCap w (l.length+m) cap 3);rw[hC]at hrun hge hcm
  have hsz:((Di l).toArray++(Di ys).toArray++Builtin.zeroCells (Value.int .i64 0).cells (C-(l.length+m))).size=C:=by
   rw[Array.size_append,Array.size_append,size_zeroCells];simp[Ha,hl,Value.cells];omega
  refine⟨_,_,_,hrun,⟨.inr ⟨_,0,rfl⟩,?_,hcm,?_,.inr ⟨_,_,rfl,hO,Bz w.drew _,?_,?_⟩⟩,?_,⟨rfl,rfl,rfl,Cn,λk hk _=>Below.heap_alloc w.drew _ k hk⟩,.inr rfl⟩
  ·simp[hl];exact hge
  ·simpa[hl]using hia
  ·rw[hsz];simp[hl];exact hge
  ·have e:(l++ys).length*1=(Di l++Di ys).length:=by simp[Ha,hl]
   simp only[Array.toList_append,Bj];rw[←Bj,e,←Vp];exact List.take_left
  ·intro g' hg';obtain rfl:w.heap.size=g':=by simpa using hg'
   exact⟨_,Bz w.drew _,by rw[hsz];exact Am _⟩
def SmB.key (x:SmB):Cl×Cl:=(x.s.a,x.s.b)
def SmB.ptr (x:SmB):Ak:= .pointer (Af ⟨x.p,0,Ae⟩)
def Js (l:List SmB):List ((Cl×Cl)×Ak):=l.map λx=>(x.key,x.ptr)
theorem lG (p:Cl×Cl) (l:List SmB):(∃l1 x l2,l=l1++x::l2∧x.key=p∧Ji p (Js l)=Af x.ptr∧∀y∈l1,y.key≠p)∨(p∉l.map SmB.key∧Ji p (Js l)=Ae):=by
 induction l with
 |nil=>exact .inr ⟨Cn,rfl⟩
 |cons x r ih=>
  have e:Ji p (Js (x::r))=if p=x.key then Af x.ptr else Ji p (Js r):=Lo p (x.key,x.ptr) (Js r);by_cases h:p=x.key
  ·exact .inl ⟨[],x,r,rfl,h.symm,by rw[e,if_pos h],Cn⟩
  ·rw[if_neg h]at e;rcases ih with⟨l1,y,l2,rfl,h1,h2,h3⟩|⟨h1,h2⟩
   ·exact .inl ⟨x::l1,y,l2,rfl,h1,e.trans h2,λz hz=>(Bk.1 hz).elim (λe=>e▸Ne.symm h) (h3 z)⟩
   ·exact .inr ⟨by simp only[List.map_cons,Bk,not_or];exact⟨h,h1⟩,e.trans h2⟩
theorem Aa4 (p:Cl×Cl) (v:Ak) (l:List SmB) (h:p∉l.map SmB.key):Ma p v (Js l)=Js l++[(p,v)]:=by
 rcases lG p l with⟨l1,x,l2,rfl,h1,_⟩|⟨_,h2⟩
 ·exact absurd (by simp[←h1]) h
 ·unfold Ji at h2;unfold Ma
  cases hi:Ld p (Js l) 0 with
  |none=>rfl
  |some r=>rw[hi]at h2;simp at h2
theorem Qg (o:Option Nat):o.toList.Nodup:=by cases o<;>simp
def Kc (O:Nat) (w:Aj) (kv:Ak) (l:List SmB):Prop:=∃ks:List (Cl×Cl),ks.Perm (l.map SmB.key)∧w.ownsRow O 239 6 kv ks.length (ks.flatMap pkC)
theorem Kc.lt {O:Nat} {w:Aj} {kv:Ak} {l:List SmB} (h:Kc O w kv l):∀g,kv.ownBlock=Af g→O≤g∧g<w.heap.size:=by
 obtain⟨ks,-,h⟩:=h;exact h.lt
theorem Kc.same {O:Nat} {w w':Aj} {kv:Ak} {l:List SmB} (h:Kc O w kv l) (hb:∀g,kv.ownBlock=Af g→w'.heap[g]? =w.heap[g]?):Kc O w' kv l:=by
 obtain⟨ks,h1,h2⟩:=h;exact⟨ks,h1,Dr h2 hb⟩
theorem Kc.keys {O:Nat} {w:Aj} {kv:Ak} {l l':List SmB} (h:Kc O w kv l) (e:l'.map SmB.key=l.map SmB.key):Kc O w kv l':=by
 obtain⟨ks,h1,h2⟩:=h;exact⟨ks,e▸h1,h2⟩
def Cz (B M:Nat) (kv:Ak) (l:List SmB):List Nat:=B::M::(kv.ownBlock.toList++l.flatMap SmB.blks)
def Dn (O B:Nat) (F:List Nat) (fix:List Ak) (w:Aj) (l:List SmB):Prop:=
 ∃M kv,fix.length=6∧w.heap[B]? =Af (.cells (fix++[.map (Af M),kv]).toArray 236 (0,0))∧Fq pkK w M (Js l)∧Kc O w kv l∧Jk O w l∧
  (l.map SmB.key).Nodup∧(Cz B M kv l).Nodup∧O≤B∧O≤M∧∀g∈F,g<w.heap.size∧g∉Cz B M kv l
theorem Hu {B M:Nat} {w:Aj} {fix:List Ak} {kv:Ak} (hf:fix.length=6) (h:w.heap[B]? =Af (.cells (fix++[.map (Af M),kv]).toArray 236 (0,0))):
  w.cell? ⟨B,6,Ae⟩=Af (.map (Af M))∧w.cell? ⟨B,7,Ae⟩=Af kv∧(∀j,w.frozen? ⟨B,j,Ae⟩=false)∧(∀kv',(w.setCell ⟨B,7,Ae⟩ kv').heap[B]? =Af (.cells (fix++[.map (Af M),kv']).toArray 236 (0,0)))∧∀(j:Nat) (v:Ak),fix[j]? =Af v→w.cell? ⟨B,j,Ae⟩=Af v:=by
 have hc:=λj=>By w B j _ _ (0,0) h;refine⟨?_,?_,λj=>by simp[World.frozen?,h],λkv'=>?_,λj v hv=>?_⟩
 ·rw[hc];simp[hf]
 ·rw[hc];simp[hf]
 ·rw[Ey _ h]
  congr 2
  apply Array.ext';simp[hf]
 ·rw[hc];have hj:=(Ax.1 hv).1;simp[List.getElem?_append_left hj,hv]
def Frm (O:Nat) (F:List Nat) (w w':Aj):Prop:=Below O w w'∧∀g∈F,w'.heap[g]? =w.heap[g]?
theorem Frm.trans {O:Nat} {F:List Nat} {a b c:Aj} (h:Frm O F a b) (k:Frm O F b c):Frm O F a c:=⟨h.1.trans k.1,λg hg=>(k.2 g hg).trans (h.2 g hg)⟩
theorem SmB.ok.lt {O:Nat} {w:Aj} {x:SmB} (h:x.ok O w):∀g∈x.blks,O≤g∧g<w.heap.size:=by
 obtain⟨h0,h1,h2,h3,h4⟩:=h;intro g hg;unfold SmB.blks at hg;simp only[Bk,Bl,Option.mem_toList]at hg;rcases hg with rfl|(hg|hg)|hg
 ·exact⟨h0,(Au.1 h1).1⟩
 ·exact h2.lt g hg
 ·exact h3.lt g hg
 ·exact h4.lt g hg
theorem Jk.lt {O:Nat} {w:Aj} {l:List SmB} (h:Jk O w l):∀g∈l.flatMap SmB.blks,O≤g∧g<w.heap.size:=λg hg=>by
 obtain⟨x,hx,hg⟩:=List.mem_flatMap.1 hg;exact(h.1 x hx).lt g hg
theorem Ud {O B M:Nat} {w:Aj} {kv:Ak} {l:List SmB} {c:Array Ak} {t:TypeId} (h1:w.heap[B]? =Af (.cells c t (0,0))) (h2:Fq pkK w M (Js l)) (h3:Kc O w kv l) (h4:Jk O w l) (hB:O≤B) (hM:O≤M):
  ∀g∈Cz B M kv l,O≤g∧g<w.heap.size:=λg hg=>by
 unfold Cz at hg;simp only[Bk,Bl,Option.mem_toList]at hg;rcases hg with rfl|rfl|hg|hg
 ·exact⟨hB,(Au.1 h1).1⟩
 ·exact⟨hM,h2.lt⟩
 ·exact h3.lt g hg
 ·exact h4.lt g hg
theorem Dn.below {O B:Nat} {F:List Nat} {fix:List Ak} {w w':Aj} {l:List SmB} (h:Dn O B F fix w l) (hb:Below w.heap.size w w'):Dn O B F fix w' l:=by
 obtain⟨M,kv,h1,h2,h3,h4,h5,h6,h7,h8,h9,h10⟩:=h;exact⟨M,kv,h1,kept hb h2 (Au.1 h2).1,h3.below hb h3.lt,h4.same λg hg=>hb.block g (h4.lt g hg).2,h5.same λg hg=>hb.block g (h5.lt g hg).2,h6,h7,h8,h9,λg hg=>⟨Bq (h10 g hg).1 hb.size,(h10 g hg).2⟩⟩
theorem Dn.frm {O B:Nat} {F:List Nat} {fix:List Ak} {w w':Aj} {l:List SmB} (h:Dn O B F fix w l) (hb:Below w.heap.size w w'):Frm O F w w':=by
 obtain⟨M,kv,h1,h2,h3,h4,h5,h6,h7,h8,h9,h10⟩:=h;exact⟨hb.mono (by have:=(Au.1 h2).1;omega),λg hg=>hb.block g (h10 g hg).1⟩
theorem wT {O B M:Nat} {F:List Nat} {fix:List Ak} {w w':Aj} {l:List SmB} {kv kv':Ak} {y:SmB} (hfl:fix.length=6) (hms:Jk O w l) (hk:(l.map SmB.key).Nodup) (hnd:(Cz B M kv l).Nodup) (hOB:O≤B) (hOM:O≤M)
  (hF:∀g∈F,g<w.heap.size∧g∉Cz B M kv l) (hlt:∀g∈Cz B M kv l,O≤g∧g<w.heap.size)
  (hB':w'.heap[B]? =Af (.cells (fix++[.map (Af M),kv']).toArray 236 (0,0))) (hM':Fq pkK w' M (Js (l++[y]))) (ho':Kc O w' kv' (l++[y])) (hy:y.ok O w') (hnew:y.key∉l.map SmB.key)
  (hkv:kv'.ownBlock=kv.ownBlock∨∃g,kv'.ownBlock=Af g∧w.heap.size≤g) (hyb:y.blks.Nodup) (hyf:∀g∈y.blks,w.heap.size≤g∧kv'.ownBlock≠Af g)
  (hs:∀g,g<w.heap.size→g≠B→g≠M→kv.ownBlock≠Af g→w'.heap[g]? =w.heap[g]?) (hsz:w.heap.size≤w'.heap.size):
  Dn O B F fix w' (l++[y])∧∀g∈F,w'.heap[g]? =w.heap[g]? :=by
 have hnd0:=hnd;unfold Cz at hnd;simp only[List.nodup_cons,Bp,Bk,Bl,Option.mem_toList,not_or]at hnd;obtain⟨⟨b1,b2,b3⟩,⟨m1,m2⟩,k1,k2,k3⟩:=hnd;have hsame:∀g∈l.flatMap SmB.blks,w'.heap[g]? =w.heap[g]? :=λg hg=>hs g (hms.lt g hg).2 (λe=>b3 (e▸hg)) (λe=>m2 (e▸hg)) λe=>k3 g e g hg rfl;have hms':Jk O w' (l++[y]):=hms.snoc hy hsame hyb λg hg h=>by have:=(hms.lt g h).2;have:=(hyf g hg).1;omega
 have hkn:∀g,kv'.ownBlock=Af g→g≠B∧g≠M∧g∉l.flatMap SmB.blks:=by
  intro g hg;rcases hkv with h|⟨g',h,h'⟩
  ·rw[h]at hg;exact⟨λe=>b2 (e▸hg),λe=>m1 (e▸hg),λh=>k3 g hg g h rfl⟩
  ·obtain rfl:g'=g:=by rw[h]at hg;injection hg
   refine⟨?_,?_,λh=>?_⟩
   ·rintro rfl;have:=(hlt g' (by simp[Cz])).2;omega
   ·rintro rfl;have:=(hlt g' (by simp[Cz])).2;omega
   ·have:=(hms.lt g' h).2;omega
 have hmem:∀g,g∈Cz B M kv' (l++[y])→g∈Cz B M kv l∨w.heap.size≤g:=by
  intro g hg;unfold Cz at hg⊢;simp only[Bk,Bl,Option.mem_toList,Bi,Bf,List.flatMap_nil,List.append_nil]at hg⊢;rcases hg with hg|hg|hg|hg|hg
  ·exact .inl (.inl hg)
  ·exact .inl (.inr (.inl hg))
  ·rcases hkv with h|⟨g',h,h'⟩
   ·exact .inl (.inr (.inr (.inl (h▸hg))))
   ·rw[h]at hg;injection hg with hg;exact .inr (hg▸h')
  ·exact .inl (.inr (.inr (.inr hg)))
  ·exact .inr (hyf g hg).1
 refine⟨⟨M,kv',hfl,hB',hM',ho',hms',?_,?_,hOB,hOM,λg hg=>⟨Bq (hF g hg).1 hsz,λh=>?_⟩⟩,λg hg=>?_⟩
 ·rw[List.map_append,Bp];exact⟨hk,Cn,λa ha b hb e=>hnew (by(obtain rfl:b=y.key:=by simpa using hb);exact e▸ha)⟩
 ·have e:(l++[y]).flatMap SmB.blks=l.flatMap SmB.blks++y.blks:=Cn;unfold Cz;simp only[List.nodup_cons,Bp,Bk,Bl,Option.mem_toList,not_or,e];have hyB:∀g∈Cz B M kv l,g∉y.blks:=λg hg h=>by have:=(hlt g hg).2;have:=(hyf g h).1;omega
  refine⟨⟨b1,λh=>(hkn B h).1 rfl,b3,hyB B (by simp[Cz])⟩,⟨λh=>(hkn M h).2.1 rfl,m2,hyB M (by simp[Cz])⟩,Qg _,⟨k2,hyb,λa ha b hb e=>?_⟩,λa ha b hb e=>?_⟩
  ·subst e;exact hyB a (by simp only[Cz,Bk,Bl];exact .inr (.inr (.inr ha))) hb
  ·subst e;rcases hb with hb|hb
   ·exact(hkn a ha).2.2 hb
   ·exact(hyf a hb).2 ha
 ·rcases hmem g h with h|h
  ·exact(hF g hg).2 h
  ·have:=(hF g hg).1;omega
 ·obtain⟨h1,h2⟩:=hF g hg;unfold Cz at h2;simp only[Bk,Bl,Option.mem_toList,not_or]at h2;exact hs g h1 h2.1 h2.2.1 h2.2.2.1
def qH (x y:Cl):Cl×Cl:=if 0<Fg x y then (y,x)else (x,y)
def As5 (O B:Nat) (F:List Nat) (fix:List Ak) (k:Cl×Cl) (l:List SmB) (w:Aj) (e:Ending) (w':Aj):Prop:=
 ∃l1 x l2,e= .returned x.ptr∧x.key=k∧(l=l1++x::l2∨(l=l1∧l2=[]∧k∉l.map SmB.key∧x.s=Sm.none k.1 k.2))∧Dn O B F fix w' (l1++x::l2)∧Frm O F w w'
theorem vU {a b:Cl} {f:Sm→Sm} {l:List Sm} (h:∀s∈l,¬(s.a=a∧s.b=b)):Ln a b f l=l++[f (Sm.none a b)]:=by
 induction l with
 |nil=>rfl
 |cons s r ih=>simp[Ln,h s Cn,ih λt ht=>h t (by simp[ht])]
theorem vV {a b:Cl} {f:Sm→Sm} {l1 l2:List Sm} {s:Sm} (h:∀s∈l1,¬(s.a=a∧s.b=b)) (hs:s.a=a∧s.b=b):Ln a b f (l1++s::l2)=l1++f s::l2:=by
 induction l1 with
 |nil=>simp[Ln,hs]
 |cons t r ih=>simp[Ln,h t Cn,ih λu hu=>h u (by simp[hu])]
theorem Dn.change {O B:Nat} {F:List Nat} {fix:List Ak} {w w':Aj} {l1 l2:List SmB} {x y:SmB} (h:Dn O B F fix w (l1++x::l2)) (hy:y.ok O w') (hp:y.p=x.p) (hkey:y.key=x.key) (hyb:y.blks.Nodup)
  (hyf:∀g∈y.blks,g∈x.blks∨w.heap.size≤g) (hs:∀g,g<w.heap.size→g∉x.blks→w'.heap[g]? =w.heap[g]?) (hsz:w.heap.size≤w'.heap.size):Dn O B F fix w' (l1++y::l2)∧∀g∈F,w'.heap[g]? =w.heap[g]? :=by
 obtain⟨M,kv,h1,h2,h3,h4,h5,h6,h7,h8,h9,h10⟩:=h;have hlt:=Ud h2 h3 h4 h5 h8 h9;have hB:B<w.heap.size:=(Au.1 h2).1;have hmp:Js (l1++y::l2)=Js (l1++x::l2):=by simp[Js,hkey,SmB.ptr,hp]
 have hks:(l1++y::l2).map SmB.key=(l1++x::l2).map SmB.key:=by simp[hkey]
 have hnd:=h7;unfold Cz at hnd;simp only[List.nodup_cons,Bp,Bk,Bl,Option.mem_toList,not_or,Bi,Bf]at hnd;obtain⟨⟨b1,b2,b3,b4,b5⟩,⟨m1,m2,m3,m4⟩,k1,⟨k2,⟨k3,k4,k5⟩,k6⟩,k7⟩:=hnd
 have hms:Jk O w' (l1++y::l2):=by
  refine h5.change hy (λg hg=>?_) hyb λg hg=>?_
  ·have hg':g∈(l1++x::l2).flatMap SmB.blks:=by
    simp only[Bi,Bf,Bl]at hg⊢;rcases hg with hg|hg
    ·exact .inl hg
    ·exact .inr (.inr hg)
   refine hs g (h5.lt g hg').2 λhx=>?_;rcases Bl.1 hg with hg|hg
   ·exact k6 g hg g (.inl hx) rfl
   ·exact k5 g hx g hg rfl
  ·rcases hyf g hg with h|h
   ·exact .inl h
   ·refine .inr λhg=>?_
    have hg':g∈(l1++x::l2).flatMap SmB.blks:=by
     simp only[Bi,Bf,Bl]at hg⊢;rcases hg with hg|hg
     ·exact .inl hg
     ·exact .inr (.inr hg)
    have:=(h5.lt g hg').2;omega
 have hmem:∀g,g∈Cz B M kv (l1++y::l2)→g∈Cz B M kv (l1++x::l2)∨w.heap.size≤g:=by
  intro g hg;unfold Cz at hg⊢;simp only[Bk,Bl,Option.mem_toList,Bi,Bf]at hg⊢;rcases hg with hg|hg|hg|hg|hg|hg
  ·exact .inl (.inl hg)
  ·exact .inl (.inr (.inl hg))
  ·exact .inl (.inr (.inr (.inl hg)))
  ·exact .inl (.inr (.inr (.inr (.inl hg))))
  ·rcases hyf g hg with h|h
   ·exact .inl (.inr (.inr (.inr (.inr (.inl h)))))
   ·exact .inr h
  ·exact .inl (.inr (.inr (.inr (.inr (.inr hg)))))
 have hMb:w'.heap[M]? =w.heap[M]? :=hs M h3.lt m3;refine⟨⟨M,kv,h1,(hs B hB b4).trans h2,?_,?_,hms,hks▸h6,?_,h8,h9,λg hg=>⟨Bq (h10 g hg).1 hsz,λh=>?_⟩⟩,λg hg=>?_⟩
 ·rw[hmp];obtain⟨es,clock,e1,e2⟩:=h3;exact⟨es,clock,hMb.trans e1,e2⟩
 ·exact(h4.same λg hg=>hs g (h4.lt g hg).2 λhx=>k7 g hg g (.inr (.inl hx)) rfl).keys hks
 ·have hyn:∀g,g∈y.blks→g≠B∧g≠M∧kv.ownBlock≠Af g:=λg hg=>by
   rcases hyf g hg with h|h
   ·exact⟨λe=>b4 (e▸h),λe=>m3 (e▸h),λe=>k7 g e g (.inr (.inl h)) rfl⟩
   ·refine⟨λe=>Ci,λe=>by have:=h3.lt;omega,λe=>by have:=(h4.lt g e).2;omega⟩
  unfold Cz;simp only[List.nodup_cons,Bk,Bl,Option.mem_toList,not_or,Bi,Bf];refine⟨⟨b1,b2,b3,λh=>(hyn B h).1 rfl,b5⟩,⟨m1,m2,λh=>(hyn M h).2.1 rfl,m4⟩,?_⟩;have hn:=hms.2;simp only[Bi,Bf]at hn;rw[Bp];refine⟨k1,hn,λu hu v hv e=>?_⟩;subst e;have hu':=Option.mem_toList.1 hu;simp only[Bl]at hv;rcases hv with hv|hv|hv
  ·exact k7 u hu' u (.inl hv) rfl
  ·exact(hyn u hv).2.2 hu'
  ·exact k7 u hu' u (.inr (.inr hv)) rfl
 ·rcases hmem g h with h|h
  ·exact(h10 g hg).2 h
  ·have:=(h10 g hg).1;omega
 ·refine hs g (h10 g hg).1 λhx=>(h10 g hg).2 ?_;unfold Cz;simp only[Bk,Bl,Option.mem_toList,Bi,Bf];exact .inr (.inr (.inr (.inr (.inl hx))))
theorem Ag9 {x:SmB} {s:Sm} {v:Ak} {N:Nat} (hn:x.blks.Nodup) (hl:∀g∈x.blks,g<N) (hv:v.ownBlock=x.ve.ownBlock∨∃g,v.ownBlock=Af g∧N≤g):(⟨s,x.p,x.vp,x.vl,v⟩:SmB).blks.Nodup∧∀g∈(⟨s,x.p,x.vp,x.vl,v⟩:SmB).blks,g∈x.blks∨N≤g:=by
 unfold SmB.blks at hn hl⊢;rcases hv with hv|⟨g,hv,hg⟩
 ·simp only[hv];exact⟨hn,λg hg=> .inl hg⟩
 ·simp only[hv,List.nodup_cons,Bp,Bk,Bl,Option.mem_toList,Option.some.injEq,not_or]at hn hl⊢;obtain⟨⟨a1,a2⟩,⟨c1,c2,c3⟩,c4,c5⟩:=hn;refine⟨⟨⟨a1,λe=>by have:=hl x.p (.inl rfl);omega⟩,⟨c1,c2,c3⟩,Qg _,λu hu v hv e=>by have:=hl u (.inr (.inl hu));omega⟩,λu hu=>?_⟩;rcases hu with hu|hu|hu
  ·exact .inl (.inl hu)
  ·exact .inl (.inr (.inl hu))
  ·exact .inr (hu▸hg)
theorem Ah0 {x:SmB} {s:Sm} {v:Ak} {N:Nat} (hn:x.blks.Nodup) (hl:∀g∈x.blks,g<N) (hv:v.ownBlock=x.vl.ownBlock∨∃g,v.ownBlock=Af g∧N≤g):(⟨s,x.p,x.vp,v,x.ve⟩:SmB).blks.Nodup∧∀g∈(⟨s,x.p,x.vp,v,x.ve⟩:SmB).blks,g∈x.blks∨N≤g:=by
 unfold SmB.blks at hn hl⊢;rcases hv with hv|⟨g,hv,hg⟩
 ·simp only[hv];exact⟨hn,λg hg=> .inl hg⟩
 ·simp only[hv,List.nodup_cons,Bp,Bk,Bl,Option.mem_toList,Option.some.injEq,not_or]at hn hl⊢;obtain⟨⟨⟨a1,a2⟩,a3⟩,⟨c1,c2,c3⟩,c4,c5⟩:=hn;refine⟨⟨⟨⟨a1,λe=>by have:=hl x.p (.inl rfl);omega⟩,a3⟩,⟨c1,Qg _,λu hu v hv e=>by have:=hl u (.inr (.inl (.inl hu)));omega⟩,c4,λu hu v hv e=>?_⟩,λu hu=>?_⟩
  ·rcases hu with hu|hu
   ·exact c5 u (.inl hu) v hv e
   ·have:=hl v (.inr (.inr hv));omega
  ·rcases hu with hu|(hu|hu)|hu
   ·exact .inl (.inl hu)
   ·exact .inl (.inr (.inl (.inl hu)))
   ·exact .inr (hu▸hg)
   ·exact .inl (.inr (.inr hu))
theorem Ah1 {x:SmB} {s:Sm} {v:Ak} {N:Nat} (hn:x.blks.Nodup) (hl:∀g∈x.blks,g<N) (hv:v.ownBlock=x.vp.ownBlock∨∃g,v.ownBlock=Af g∧N≤g):(⟨s,x.p,v,x.vl,x.ve⟩:SmB).blks.Nodup∧∀g∈(⟨s,x.p,v,x.vl,x.ve⟩:SmB).blks,g∈x.blks∨N≤g:=by
 unfold SmB.blks at hn hl⊢;rcases hv with hv|⟨g,hv,hg⟩
 ·simp only[hv];exact⟨hn,λg hg=> .inl hg⟩
 ·simp only[hv,List.nodup_cons,Bp,Bk,Bl,Option.mem_toList,Option.some.injEq,not_or]at hn hl⊢;obtain⟨⟨⟨a1,a2⟩,a3⟩,⟨c1,c2,c3⟩,c4,c5⟩:=hn;refine⟨⟨⟨⟨λe=>by have:=hl x.p (.inl rfl);omega,a2⟩,a3⟩,⟨Qg _,c2,λu hu v hv e=>by have:=hl v (.inr (.inl (.inr hv)));omega⟩,c4,λu hu v hv e=>?_⟩,λu hu=>?_⟩
  ·rcases hu with hu|hu
   ·have:=hl v (.inr (.inr hv));omega
   ·exact c5 u (.inr hu) v hv e
  ·rcases hu with hu|(hu|hu)|hu
   ·exact .inl (.inl hu)
   ·exact .inr (hu▸hg)
   ·exact .inl (.inr (.inl (.inr hu)))
   ·exact .inl (.inr (.inr hu))
end Go.Proofs.YthpcfeifmdbhnaaGreatDoor
namespace Go.Proofs.YthpcfeifmdbhnaaGreatDoor
theorem yD {a b:Int} {id:Nat} (h:id<Cq a b):Nd a b id=true:=by
 unfold Cq at h;rw[Jr];omega
theorem wW {a b:Int} {id:Nat} (h:id<Cq a b):Ol a b id=((Cp a id).x,(Cp a id).y,((Cp a id).q:Int),0):=by
 unfold Ol;rw[if_pos (yD h)];simp[Cp]
theorem eW {a b:Int} {c:Nat} (hs:okS a b=true) (hh:c<Cq a b):0≤(Cp a c).x∧(Cp a c).x≤256∧0≤(Cp a c).y∧(Cp a c).y≤256∧(Cp a c).q≤3:=by
 obtain⟨m1,m2,m3,m4,m5,m6⟩:=Ho hs;obtain⟨i1,i2⟩:=Jr.1 (yD hh);have e0:4*a*b=4*(a*b):=Int.mul_assoc _ _ _;have d3:=Int.emod_nonneg ((c:Int)/4) (show a≠0 by omega);have d4:=Int.emod_lt_of_pos ((c:Int)/4) (show 0<a by omega);have d5:0≤(c:Int)/4/a:=Int.ediv_nonneg Ci Ci;have d6:(c:Int)/4/a≤(c:Int)/4:=Int.ediv_le_self _ Ci;unfold Cp;dsimp only;refine⟨Ci,Ci,Ci,Ci,Ci⟩
theorem Aw1 {a b:Int} {id e:Nat} (hs:okS a b=true) (h:id<Cq a b) (he:e≤2):
  nbr (Cp a id).x (Cp a id).y (Cp a id).q e=((Mq (Cp a id) e).1.x,(Mq (Cp a id) e).1.y,((Mq (Cp a id) e).1.q:Int),0)∧(Mq (Cp a id) e).1.ok=true:=by
 obtain⟨c1,c2,c3,c4,c5⟩:=eW hs h;obtain⟨n1,n2,n3,n4,n5,n6⟩:=Ym (Cp a id).q e;have ok0:okC (Cp a id).x (Cp a id).y (Cp a id).q=true:=Eu.2 ⟨Ci,Ci,Ci,Ci,Ci⟩;have ok1:okC ((Cp a id).x+(nxt (Cp a id).q e).1) ((Cp a id).y+(nxt (Cp a id).q e).2.1) (nxt (Cp a id).q e).2.2=true:=Eu.2 ⟨Ci,Ci,Ci,Ci,Ci⟩
 have hn:nbr (Cp a id).x (Cp a id).y (Cp a id).q e=((Cp a id).x+(nxt (Cp a id).q e).1,(Cp a id).y+(nxt (Cp a id).q e).2.1,(nxt (Cp a id).q e).2.2,0):=by
  unfold nbr;rw[if_neg (by rw[ok0];simp;omega)];simp only[Int.toNat_natCast,ok1,if_true]
 have hq:(((nxt (Cp a id).q e).2.2.toNat:Nat):Int)=(nxt (Cp a id).q e).2.2:=Ci;unfold Mq;rw[hn];dsimp only;exact⟨by rw[hq],by unfold Cl.ok;dsimp only;rw[hq];exact ok1⟩
theorem qN (m:Mv) (c:Cl):(Gp m c).1.q≤3:=by
 unfold Gp
 split
 ·rename_i h;unfold Cl.ok at h;have:=(Eu.1 h).2.2.2.2;dsimp only;omega
 ·decide
theorem Am1 {a b:Int} {id e:Nat} (h0:(nbI a b id e).2=0) (h1:(id:Int)≤(nbI a b id e).1):Dl a b id e=((id:Int),(e:Int),0):=by
 unfold Dl;rw[if_pos h0,Int.min_eq_left h1]
theorem Nc {a b:Int} (hs:okS a b=true):Cq a b≤1024:=by
 obtain⟨m1,m2,m3,m4,m5,m6⟩:=Ho hs;have e0:4*a*b=4*(a*b):=Int.mul_assoc _ _ _;unfold Cq;omega
end Go.Proofs.YthpcfeifmdbhnaaGreatDoor
namespace Go.Proofs.YthpcfeifmdbhnaaGreatDoor
open Go.RowKit
theorem Bb5 {w:Aj} {A:Option Addr} {l:List Mv} {n:Nat} (h:Rd w A 3 n (Iq l)) (i:Nat) (hi:i<l.length):
  ∃b o,A=Af ⟨b,o,Ae⟩∧b<w.heap.size∧w.cell? ⟨b,o+i*3,Ae⟩=Af (Aa Ac l[i].t)∧w.cell? ⟨b,o+i*3+1,Ae⟩=Af (Aa Ab l[i].x)∧w.cell? ⟨b,o+i*3+2,Ae⟩=Af (Aa Ab l[i].y):=by
 have hl:=h.1;rw[Pa]at hl;obtain⟨b,o,e,hb,hc⟩:=h.2 Ci;have hat:∀f,f<3→(Iq l)[i*3+f]? =(l[i].cells)[f]? :=λf hf=>Dz Mv.cells 3 Je _ i f hi hf;exact⟨b,o,e,hb,hc (i*3+0) _ ((hat 0 Ci).trans rfl),hc (i*3+1) _ ((hat 1 Ci).trans rfl),hc (i*3+2) _ ((hat 2 Ci).trans rfl)⟩
theorem Aa5 {w:Aj} {A:Option Addr} {l:List Cl} {n:Nat} (h:Rd w A 3 n (Is l)) (i:Nat) (hi:i<l.length):
  ∃b o,A=Af ⟨b,o,Ae⟩∧b<w.heap.size∧w.cell? ⟨b,o+i*3,Ae⟩=Af (Aa Ab l[i].x)∧w.cell? ⟨b,o+i*3+1,Ae⟩=Af (Aa Ab l[i].y)∧w.cell? ⟨b,o+i*3+2,Ae⟩=Af (Aa Ac l[i].q):=by
 have hl:=h.1;rw[Jn]at hl;obtain⟨b,o,e,hb,hc⟩:=h.2 Ci;have hat:∀f,f<3→(Is l)[i*3+f]? =(l[i].cells)[f]? :=λf hf=>Dz Cl.cells 3 Kn _ i f hi hf;exact⟨b,o,e,hb,hc (i*3+0) _ ((hat 0 Ci).trans rfl),hc (i*3+1) _ ((hat 1 Ci).trans rfl),hc (i*3+2) _ ((hat 2 Ci).trans rfl)⟩
structure kA (k:Lk) (N:Nat):Prop where
 n:N=Cq k.a k.b
 ms:k.ms.length=N
 is:k.is.length=N
 hs:k.hs.length=N
 mok:∀m∈k.ms,m.ok=true
 cok:∀c∈k.is,c.ok=true
 pat:Gx k.a k.b k.cr
structure LkV where
 cA:Option Addr
 nc:Nat
 cc:Nat
 pA:Option Addr
 pc:Nat
 iA:Option Addr
 ic:Nat
 hA:Option Addr
 hc:Nat
def LkV.fix (v:LkV) (k:Lk) (N:Nat):List Ak:=[Aa Ab k.a,Aa Ab k.b,Ad v.cA v.nc v.cc,Ad v.pA N v.pc,Ad v.iA N v.ic,Ad v.hA N v.hc]
def Sa (O:Nat) (F:List Nat) (w:Aj) (k:Lk) (N:Nat) (v:LkV):Prop:=
 ∀w',Frm O F w w'→v.nc=k.cr.length∧Rd w' v.cA 3 v.nc (crs k.cr)∧Rd w' v.pA 3 N (Iq k.ms)∧Rd w' v.iA 3 N (Is k.is)∧Rd w' v.hA 1 N (Di k.hs)∧Qf w'∧Tn w'
theorem Sa.frm {O:Nat} {F:List Nat} {w w':Aj} {k:Lk} {N:Nat} {v:LkV} (h:Sa O F w k N v) (hf:Frm O F w w'):Sa O F w' k N v:=λw2 h2=>h w2 (hf.trans h2)
theorem Frm.refl (O:Nat) (F:List Nat) (w:Aj):Frm O F w w:=⟨Ag _ _,λ_ _=>rfl⟩
def pD (O B:Nat) (F:List Nat) (fix:List Ak) (l':List Sm) (w:Aj) (e:Ending) (w':Aj):Prop:=
 e= .returned (.tuple #[])∧∃l2,l2.map (·.s)=l'∧Dn O B F fix w' l2∧Frm O F w w'
theorem Dn.keys {O B:Nat} {F:List Nat} {fix:List Ak} {w:Aj} {l:List SmB} (h:Dn O B F fix w l):(l.map SmB.key).Nodup:=by
 obtain⟨M,kv,_,_,_,_,_,h6,_⟩:=h;exact h6
theorem Dn.sms {O B:Nat} {F:List Nat} {fix:List Ak} {w:Aj} {l:List SmB} (h:Dn O B F fix w l):Jk O w l:=by
 obtain⟨M,kv,_,_,_,_,h5,_⟩:=h;exact h5
theorem Al3 {k:Lk} {id e:Nat} {l l1 l2:List SmB} {x y:SmB} (hk:x.key=k.key id e) (hc:l=l1++x::l2∨(l=l1∧l2=[]∧k.key id e∉l.map SmB.key∧x.s=Sm.none (k.key id e).1 (k.key id e).2)) (hnd:((l1++x::l2).map SmB.key).Nodup)
  (hy:y.s=k.add id e x.s):(l1++y::l2).map (·.s)=k.meet id e (l.map (·.s)):=by
 have hkk:∀z:SmB,z.s.a=(k.key id e).1∧z.s.b=(k.key id e).2↔z.key=k.key id e:=λz=>by
  unfold SmB.key;rw[Prod.ext_iff]
 unfold Lk.meet;rcases hc with rfl|⟨rfl,rfl,hne,hx⟩
 ·rw[List.map_append,List.map_cons,List.map_append,List.map_cons,hy];refine(vV ?_ ((hkk x).2 hk)).symm;intro s hs hh;obtain⟨z,hz,rfl⟩:=List.mem_map.1 hs;have hzk:=(hkk z).1 hh;rw[List.map_append,List.map_cons,Bp]at hnd;exact hnd.2.2 _ (List.mem_map.2 ⟨z,hz,rfl⟩) _ (List.mem_cons_self) (hzk.trans hk.symm)
 ·rw[List.map_append,vU]
  ·simp only[List.map_cons,List.map_nil,hy,hx]
  ·intro s hs hh;obtain⟨z,hz,rfl⟩:=List.mem_map.1 hs;exact hne (List.mem_map.2 ⟨z,hz,(hkk z).1 hh⟩)
end Go.Proofs.YthpcfeifmdbhnaaGreatDoor
