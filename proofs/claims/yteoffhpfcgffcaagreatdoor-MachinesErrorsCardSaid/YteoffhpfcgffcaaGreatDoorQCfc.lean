import Derived.Test.YteoffhpfcgffcaaGreatDoorQPim
import Derived.Test.YteoffhpfcgffcaaGreatDoorQSog
import Derived.Test.YteoffhpfcgffcaaGreatDoorQSid
import Derived.Lib.AppendZeros
import Derived.Test.YteoffhpfcgffcaaGreatDoorQRsC
open Array renaming getElem?_eq_some_iff→Aq
open Go renaming Calls→Ai,Value→Ah,World→Ag,bodyPost_ret→Af,cell_of_row→Bs,heap_alloc_new→Bt,wpAnyH_done→Ak,wpAnyH_ready→Am,wp_region_held_drew→Al
open Go.AllReadyH renaming cons→An,nil→Ao
open Go.IntKind renaming i64→Ab,u8→Ac
open Go.Lib renaming hid→Ae,wpList_append_run→Ap
open Go.Value renaming int→Aa,slice→Ad
open List renaming append_assoc→Bg,flatMap_append→Bf,flatMap_cons→Ba,getElem?_eq_some_iff→As,getElem_cons_succ→Bz,getElem_cons_zero→By,getElem_mem→Au,getElem_toArray→Ca,length_append→Be,length_map→Bk,mem_append→Bi,mem_cons→Bh,mem_iff_getElem→Ay,nodup_append→Bl,setIfInBounds_toArray→Cd,set_cons_succ→Cc,set_cons_zero→Cb,take_of_length_le→Bc,take_succ_eq_append_getElem→Ax
open Nat renaming le_refl→Aj,le_trans→Bo,lt_of_lt_of_le→Bm,zero_add→Bp
set_option maxHeartbeats 8000000
set_option maxRecDepth 100000
namespace Go.Proofs.YteoffhpfcgffcaaGreatDoor
open Go.RowKit
theorem Cv.setLow {O:Nat} {w:Ag} {v:Ah} {l:List SkR} (h:Cv O w v l) {g:Nat} (hg:g<O) (j:Nat) (u:Ah):Cv O (w.setCell ⟨g,j,none⟩ u) v l:=
 ⟨Cn h.1 hg j u,fun x hx=>(h.2.1 x hx).same fun g' hg'=>Below.heap_setCell w ⟨g,j,none⟩ u g' (by show g'≠g;have:=((h.2.1 x hx).lt g' hg').1;omega),h.2.2⟩
def Two (O:Nat) (w:Ag) (v0 v1:Ah) (z0 z1:List SkR):Prop:=Cv O w v0 z0∧Cv O w v1 z1∧∀g,v0.ownBlock=some g→v1.ownBlock=some g→False
theorem Two.symm {O:Nat} {w:Ag} {v0 v1:Ah} {z0 z1:List SkR} (h:Two O w v0 v1 z0 z1):Two O w v1 v0 z1 z0:=⟨h.2.1,h.1,fun g a b=>h.2.2 g b a⟩
theorem Two.below {O:Nat} {w w':Ag} {v0 v1:Ah} {z0 z1:List SkR} (h:Two O w v0 v1 z0 z1) (hb:Below w.heap.size w w'):Two O w' v0 v1 z0 z1:=⟨h.1.below hb,h.2.1.below hb,h.2.2⟩
theorem Two.setLow {O:Nat} {w:Ag} {v0 v1:Ah} {z0 z1:List SkR} (h:Two O w v0 v1 z0 z1) {g:Nat} (hg:g<O) (j:Nat) (u:Ah):Two O (w.setCell ⟨g,j,none⟩ u) v0 v1 z0 z1:=⟨h.1.setLow hg j u,h.2.1.setLow hg j u,h.2.2⟩
theorem Cv.app {O:Nat} {w W:Ag} {v:Ah} {z:List SkR} {x:SkR} (h:Cv O w v z) (hO:O≤w.heap.size) (hb:Below w.heap.size w W) (hx:Gx w.heap.size W x) (hl:z.length≤1000000):
  ∃A c A' c' w',v= Ad A z.length c∧(Builtin.append_ #[41,41] 41 #[Ad A z.length c,Ad (some ⟨W.heap.size,0,none⟩) 1 1]).run Tryz.prog (W.alloc (.cells #[Aa Ab x.1.c.x,Aa Ab x.1.c.y,Aa Ac (x.1.c.q:Int),Ad x.2.1 x.1.ls.length x.2.2] 125))= .ok (Ad A' (z.length+1) c') w'∧
   Cv O w' (Ad A' (z.length+1) c') (z++[x])∧Below O W w'∧W.grownBy w' v.ownBlock∧O≤w'.heap.size∧(Value.ownBlock (Ad A' (z.length+1) c')=v.ownBlock∨∃g,Value.ownBlock (Ad A' (z.length+1) c')=some g∧W.heap.size≤g):=by
 obtain⟨A,c,hv,-,-⟩:=Dy h.1;obtain⟨A',c',w',hrun,ho,hbb,hg,hM,-,-,hfr⟩:=Pa (sl:=41) Tryz.underlying41 Ql rfl (by decide) (by decide) W O z.length v _ (Ck h.1 (Aj _) hb) (Bo hO hb.size) (by omega) (Ds x) (Fj x) (by intro u hu;simp[Ds]at hu;rcases hu with rfl|rfl|rfl|rfl<;>rfl);exact⟨A,c,A',c',w',hv,by rw[←hv];exact hrun,h.snoc hb hx ho hg hO,hbb,hg,hM,hfr⟩
theorem Two.app {O:Nat} {w W:Ag} {v0 v1:Ah} {z0 z1:List SkR} {x:SkR} (h:Two O w v0 v1 z0 z1) (hO:O≤w.heap.size) (hb:Below w.heap.size w W) (hx:Gx w.heap.size W x) (hl:z0.length≤1000000):
  ∃A c A' c' w',v0= Ad A z0.length c∧(Builtin.append_ #[41,41] 41 #[Ad A z0.length c,Ad (some ⟨W.heap.size,0,none⟩) 1 1]).run Tryz.prog (W.alloc (.cells #[Aa Ab x.1.c.x,Aa Ab x.1.c.y,Aa Ac (x.1.c.q:Int),Ad x.2.1 x.1.ls.length x.2.2] 125))= .ok (Ad A' (z0.length+1) c') w'∧
   Two O w' (Ad A' (z0.length+1) c') v1 (z0++[x]) z1∧Below O W w'∧W.grownBy w' v0.ownBlock∧O≤w'.heap.size:=by
 obtain⟨A,c,A',c',w',hv,hrun,h0,hbb,hg,hM,hfr⟩:=h.1.app hO hb hx hl;have hlt:=fun g (hg:v1.ownBlock=some g)=>(h.2.1.1.lt g hg).2;have hh:∀g,g<w.heap.size→v0.ownBlock≠some g→w'.heap[g]? =w.heap[g]? :=fun g h1 h2=>(hg.block g (Bm h1 hb.size) (Ne.symm h2)).trans (hb.block g h1);refine⟨A,c,A',c',w',hv,hrun,⟨h0,⟨Dj h.2.1.1 fun g hg1=>hh g (hlt g hg1) fun e=>h.2.2 g e hg1,fun y hy=>?_,h.2.1.2.2⟩,fun g g1 g2=>?_⟩,hbb,hg,hM⟩
 ·have hk:=h.2.1.2.1 y hy;exact hk.same fun g hgy=>hh g (hk.lt g hgy).2.1 (Nd h.1.1 hk g hgy)
 ·rcases hfr with e|⟨g',e,hge⟩
  ·exact h.2.2 g (e▸g1) g2
  ·rw[e]at g1;injection g1 with g1;subst g1;have:=hlt _ g2;have:=hb.size;omega
theorem Sl (K C:Int) (s:Nat) (l:List Stk) (k:Nat) (h:k<l.length):Dh K C s (l.take (k+1))=if Gb K C l[k].c=s then Dh K C s (l.take k)++[l[k]]else Dh K C s (l.take k):=by
 unfold Dh;rw[Ax h,List.filter_append];by_cases hs:Gb K C l[k].c=s
 ·simp[hs]
 ·simp[hs]
theorem tH (K C:Int) (c:Cl):Gb K C c=0∨Gb K C c=1:=by
 unfold Gb
 split
 ·exact .inr rfl
 ·exact .inl rfl
def oM (K C:Int) (l:List Stk) (w:Ag) (e:Ending) (w':Ag):Prop:=
 ∃A0 A1,e= .returned (.tuple #[Ad A0 (Dh K C 0 l).length (Dh K C 0 l).length,Ad A1 (Dh K C 1 l).length (Dh K C 1 l).length,Aa Ab 0])∧Cs w' A0 (Dh K C 0 l)∧Cs w' A1 (Dh K C 1 l)∧Below w.heap.size w w'
theorem aO {K C:Int} (h:okL K C=true):Na (K,C)=(ofL K C,0):=by unfold Na;rw[if_pos h]
theorem gL (K C:Int) (s:Nat) (l:List Stk):(Dh K C s l).length≤l.length:=List.length_filter_le _ _
def jV (w:Ag) (N T O:Nat) (K C:Int) (l:List Stk) (k:Nat) (wr:Ag):Prop:=
 ∃v0 v1 z0 z1,Bx w [(N,#[Aa Ac K,Aa Ab C],51),(T,#[v0,v1],189)] wr∧Two O wr v0 v1 z0 z1∧z0.map (·.1)=Dh K C 0 (l.take k)∧z1.map (·.1)=Dh K C 1 (l.take k)∧O≤wr.heap.size
theorem Xa {w wr Y:Ag} {N T O:Nat} {K C:Int} {v0 v1:Ah} {z0 z1:List SkR} {x:SkR} (HX:Bx w [(N,#[Aa Ac K,Aa Ab C],51),(T,#[v0,v1],189)] wr) (h:Two O wr v0 v1 z0 z1) (hO:O≤wr.heap.size)
  (hN:N<O) (hT:T<O) (hw:w.heap.size≤O) (hb:Below wr.heap.size wr Y) (hx:Gx wr.heap.size Y x) (hl:z0.length≤1000000):
  ∃A c A' c' w8,v0= Ad A z0.length c∧(Builtin.append_ #[41,41] 41 #[Ad A z0.length c,Ad (some ⟨Y.heap.size,0,none⟩) 1 1]).run Tryz.prog (Y.alloc (.cells #[Aa Ab x.1.c.x,Aa Ab x.1.c.y,Aa Ac (x.1.c.q:Int),Ad x.2.1 x.1.ls.length x.2.2] 125))= .ok (Ad A' (z0.length+1) c') w8∧
   (w8.frozen? ⟨T,0,none⟩=false∧w8.cell? ⟨T,0,none⟩=some (Ad A z0.length c))∧(∀X,wr.heap.size≤X→X<Y.heap.size→w8.heap[X]? =Y.heap[X]? ∧(w8.setCell ⟨T,0,none⟩ (Ad A' (z0.length+1) c')).heap[X]? =Y.heap[X]?)∧
   Bx w [(N,#[Aa Ac K,Aa Ab C],51),(T,#[Ad A' (z0.length+1) c',v1],189)] (w8.setCell ⟨T,0,none⟩ (Ad A' (z0.length+1) c'))∧Two O (w8.setCell ⟨T,0,none⟩ (Ad A' (z0.length+1) c')) (Ad A' (z0.length+1) c') v1 (z0++[x]) z1∧O≤(w8.setCell ⟨T,0,none⟩ (Ad A' (z0.length+1) c')).heap.size:=by
 obtain⟨A,c,A',c',w8,hv,hrun,h8,hb8,hg8,hO8⟩:=h.app hO hb hx hl;have H8:=(HX.call hb).keepN (M:=O) (by simp;exact⟨hN,hT⟩) hw hb8;obtain⟨⟨t0,-⟩,f0,-⟩:=Cu (H8.blk 1 _ _ _ rfl);have hX:∀X,wr.heap.size≤X→X<Y.heap.size→w8.heap[X]? =Y.heap[X]? :=fun X h1 h2=>hg8.block X h2 fun e=>by have:=(h.1.1.lt X e.symm).2;omega
 exact⟨A,c,A',c',w8,hv,hrun,⟨f0,by rw[t0,hv]⟩,fun X h1 h2=>⟨hX X h1 h2,(Below.heap_setCell w8 ⟨T,0,none⟩ _ X (by show X≠T;omega)).trans (hX X h1 h2)⟩,H8.set 1 0 rfl _,h8.setLow hT 0 _,by simpa using hO8⟩
theorem Xb {w wr Y:Ag} {N T O:Nat} {K C:Int} {v0 v1:Ah} {z0 z1:List SkR} {x:SkR} (HX:Bx w [(N,#[Aa Ac K,Aa Ab C],51),(T,#[v0,v1],189)] wr) (h:Two O wr v0 v1 z0 z1) (hO:O≤wr.heap.size)
  (hN:N<O) (hT:T<O) (hw:w.heap.size≤O) (hb:Below wr.heap.size wr Y) (hx:Gx wr.heap.size Y x) (hl:z1.length≤1000000):
  ∃A c A' c' w8,v1= Ad A z1.length c∧(Builtin.append_ #[41,41] 41 #[Ad A z1.length c,Ad (some ⟨Y.heap.size,0,none⟩) 1 1]).run Tryz.prog (Y.alloc (.cells #[Aa Ab x.1.c.x,Aa Ab x.1.c.y,Aa Ac (x.1.c.q:Int),Ad x.2.1 x.1.ls.length x.2.2] 125))= .ok (Ad A' (z1.length+1) c') w8∧
   (w8.frozen? ⟨T,1,none⟩=false∧w8.cell? ⟨T,1,none⟩=some (Ad A z1.length c))∧(∀X,wr.heap.size≤X→X<Y.heap.size→w8.heap[X]? =Y.heap[X]? ∧(w8.setCell ⟨T,1,none⟩ (Ad A' (z1.length+1) c')).heap[X]? =Y.heap[X]?)∧
   Bx w [(N,#[Aa Ac K,Aa Ab C],51),(T,#[v0,Ad A' (z1.length+1) c'],189)] (w8.setCell ⟨T,1,none⟩ (Ad A' (z1.length+1) c'))∧Two O (w8.setCell ⟨T,1,none⟩ (Ad A' (z1.length+1) c')) v0 (Ad A' (z1.length+1) c') z0 (z1++[x])∧O≤(w8.setCell ⟨T,1,none⟩ (Ad A' (z1.length+1) c')).heap.size:=by
 obtain⟨A,c,A',c',w8,hv,hrun,h8,hb8,hg8,hO8⟩:=h.symm.app hO hb hx hl;have H8:=(HX.call hb).keepN (M:=O) (by simp;exact⟨hN,hT⟩) hw hb8;obtain⟨⟨-,t0⟩,-,f0⟩:=Cu (H8.blk 1 _ _ _ rfl);have hX:∀X,wr.heap.size≤X→X<Y.heap.size→w8.heap[X]? =Y.heap[X]? :=fun X h1 h2=>hg8.block X h2 fun e=>by have:=(h.2.1.1.lt X e.symm).2;omega
 exact⟨A,c,A',c',w8,hv,hrun,⟨f0,by rw[t0,hv]⟩,fun X h1 h2=>⟨hX X h1 h2,(Below.heap_setCell w8 ⟨T,1,none⟩ _ X (by show X≠T;omega)).trans (hX X h1 h2)⟩,H8.set 1 1 rfl _,(h8.setLow hT 1 _).symm,by simpa using hO8⟩
theorem jP {K C:Int} {l:List Stk} {k:Nat} {z:List SkR} {s:Nat} (h:z.map (·.1)=Dh K C s (l.take k)) (hl:l.length≤100000):z.length≤1000000:=by
 have:=congrArg List.length h;have h2:=gL K C s (l.take k);simp at this h2;omega
theorem mZ (A:Option Addr) (l:List Stk) (n cc:Nat) (K C:Int) (w:Ag) (hn:n=l.length) (h:Cs w A l) (hl:n≤100000) (hls:∀x∈l,x.ls.length≤100000) (hL:okL K C=true) (hc:∀x∈l,x.c.ok=true) (hQ:Qf w):
  Ai Tryz.prog 52 #[Ad A n cc,.agg #[Aa Ac K,Aa Ab C]] w (oM K C l w):=by
 have HSK:=Ae (fun(w':Ag) (hb:Below w.heap.size w w')=>h.below hb);have HN:=Ae hn;have HLS:=Ae hls;have HSD:=Ae (fun(c:Cl) (hcc:c.ok=true) (w':Ag) (hb:Below w.heap.size w w')=>Rz K C c w' hL hcc (hQ.below hb));have HOK:=Ae hc;have hK:=(Kv.1 hL).1;have hmo:=fun w'=>Pk K C w' (by omega);rw[aO hL]at hmo;unfold mvR Mv.v at hmo;dsimp only at hmo;obtain⟨⟨mt,mx,my⟩,hm⟩:=ey (ofL K C);rw[hm]at hmo;dsimp only at hmo;have HMO:=Ae hmo;have H:=((Bx.start w).new #[Aa Ac K,Aa Ab C] 51 rfl).new #[Ad none 0 0,Ad none 0 0] 189 (N:=w.heap.size+1) (by simp);clear hn h hls hL hc hQ hK hmo hm;go_enter Tryz.func52,Tryz.ntmps52;go_upto_region 2 with fail;obtain⟨N,hN⟩:=ez w.heap.size;rw[←hN]at H⊢;have HNN:=Ae hN;clear hN;obtain⟨T,hT⟩:=ey (N+1);rw[hT]at H⊢;have n1:N≠T:=by omega
 have n2:T≠N:=by omega
 clear hT;obtain⟨W0,hW0⟩:=ez ((w.alloc (.cells #[Aa Ac K,Aa Ab C] 51)).alloc (.cells #[Ad none 0 0,Ad none 0 0] 189));rw[←hW0]at H⊢;clear hW0;obtain⟨⟨a0,a1⟩,-⟩:=Cu (H.blk 0 _ _ _ rfl);go_wp2_with fail;refine(HMO.out _).mono ?_;rintro ee w1 ⟨rfl,hb⟩;have H1:=H.call hb;clear a0 a1 hb H HMO;have H2:=H1.other (.cells #[Aa Ac (mt:Int),Aa Ab mx,Aa Ab my] 40);obtain⟨O,hO⟩:=ey w1.heap.size;have hNO:N<O:=by have:=H1.lt 0 rfl;omega
 have hTO:T<O:=by have:=H1.lt 1 rfl;omega
 have hWO:w.heap.size≤O:=by have:=H1.below.size;omega
 have h2s:O≤(w1.alloc (.cells #[Aa Ac (mt:Int),Aa Ab mx,Aa Ab my] 40)).heap.size:=by rw[←hO];simp
 go_upto_region 5 with fail
 try rw[hO]
 obtain⟨W2,hW2⟩:=ez (w1.alloc (.cells #[Aa Ac (mt:Int),Aa Ab mx,Aa Ab my] 40));rw[←hW2]at H2 h2s⊢;clear hW2;have HI0:Hid (jV w N T O K C l 0 W2):=Ae ⟨_,_,[],[],H2,⟨Cv.nil _ _,Cv.nil _ _,fun g h=>by cases h⟩,rfl,rfl,h2s⟩;have HNO:=Ae hNO;have HTO:=Ae hTO;have HWO:=Ae hWO;clear h2s H1 H2 hO hNO hTO hWO;go_wp2_with fail
 go_loopw [23] (fun s23 wr=>∃k:Nat,k≤n∧s23= Aa Ab k∧Hid (jV w N T O K C l k wr)) (fun s23 _=>n-(intOf s23).toNat)
 case atStart=>exact⟨0,by omega,rfl,HI0⟩
 case round=>
  obtain⟨k,hk,rfl,HZ⟩:=hrel;clear HI0;obtain⟨v0,v1,z0,z1,HX,HT,hz0,hz1,hOW⟩:=HZ.out;clear HZ;by_cases hlt:k<n
  ·have hkl:k<l.length:=by have:=HN.out;omega
   have q0:(k:Int)<(n:Int):=by omega
   obtain⟨bb,o',A',c',hAA,hbl,⟨d0,d1,d2,d3⟩,hA',hle,hcm,hrd⟩:=(HSK.out _ HX.below).get k hkl;have hmem:=Au hkl;have hlk:=HLS.out l[k] hmem;have hs0:=Sl K C 0 l k hkl;have hs1:=Sl K C 1 l k hkl;have hsd:=HSD.out l[k].c (HOK.out l[k] hmem);have hle2:=tH K C l[k].c;obtain⟨⟨⟨x0,x1,x2⟩,ids⟩,hx⟩:∃z,l[k]=z:=⟨_,rfl⟩;simp only[hx]at d0 d1 d2 d3 hlk hrd hA' hle hs0 hs1 hsd hle2;obtain⟨e9,hE9⟩:=ey (Gb K C (⟨x0,x1,x2⟩:Cl));rw[hE9]at hs0 hs1 hsd hle2;obtain⟨m,hm⟩:=ey ids.length;rw[hm]at d3 hlk hrd hA' hle;have HMD:=Ae hm;have HS0:=Ae hs0;have HS1:=Ae hs1;have HSD2:=Ae hsd;have HCP:=Ae (fun(w':Ag) (hb:Below wr.heap.size wr w')=>Kd ⟨x0,x1,x2⟩ A' ids m c' w' hm.symm hA' (hrd.below hb) (by omega));obtain⟨X,hX⟩:=ey wr.heap.size;have H:=HX.new #[Aa Ab x0,Aa Ab x1,Aa Ac x2,Ad A' m c'] 125 hX;have hbq:=(Below.refl wr.heap.size wr).alloc (Aj _) (.cells #[Aa Ab x0,Aa Ab x1,Aa Ac x2,Ad A' m c'] 125);have HZ0:=Ae hz0;have HZ1:=Ae hz1;have HTT:=Ae HT;have HXW:=Ae HX.below;have HXH:=Ae HX;have HOW:=Ae hOW;subst hAA;clear hs0 hs1 hsd hrd hA' hle hx hm hmem hE9 hz0 hz1 HT HX hOW;go_upto_region 8 with fail
   try rw[hX]
   obtain⟨W5,hW5⟩:=ez (wr.alloc (.cells #[Aa Ab x0,Aa Ab x1,Aa Ac x2,Ad A' m c'] 125));rw[←hW5]at H hbq⊢;clear hW5;clear d0 d1 d2 d3;obtain⟨⟨e0,e1,e2,e3⟩,-⟩:=Co (H.blk 2 _ _ _ rfl);obtain⟨⟨a0,a1⟩,-⟩:=Cu (H.blk 0 _ _ _ rfl);go_wp2_with fail;refine(HSD2.out _ (HXW.out.trans (hbq.mono HXW.out.size))).mono ?_;rintro ee w6 ⟨rfl,hb⟩;have H6:=H.call hb;have hb6:=hbq.trans (hb.mono hbq.size);clear e0 e1 e2 e3 a0 a1 hb H HSD2 hbq;obtain⟨⟨e0,e1,e2,e3⟩,-⟩:=Co (H6.blk 2 _ _ _ rfl);obtain⟨⟨t0,t1⟩,-⟩:=Cu (H6.blk 1 _ _ _ rfl);rcases hle2 with rfl|rfl
   ·go_upto_region 11 with fail;obtain⟨Av,cv,hvv,-,-⟩:=Dy HTT.out.1.1;subst hvv;have hzl:=jP HZ0.out (by have:=HN.out;omega);obtain⟨mz,hmz⟩:=ey z0.length;rw[hmz]at t0 hzl;have hXl:X<w6.heap.size:=H6.lt 2 rfl;obtain⟨S,hSd⟩:∃S:Ag→Prop,S=fun W'=>W'.cell? ⟨X,0,none⟩=some (Aa Ab x0)∧W'.cell? ⟨X,1,none⟩=some (Aa Ab x1)∧W'.cell? ⟨X,2,none⟩=some (Aa Ac x2)∧W'.cell? ⟨X,3,none⟩=some (Ad A' m c'):=⟨_,rfl⟩;have HSO:Hid (∀W',S W'→W'.cell? ⟨X,0,none⟩=some (Aa Ab x0)∧W'.cell? ⟨X,1,none⟩=some (Aa Ab x1)∧W'.cell? ⟨X,2,none⟩=some (Aa Ac x2)∧W'.cell? ⟨X,3,none⟩=some (Ad A' m c')):=Ae fun W' h=>by subst hSd;exact h
    have HSA:Hid (∀W',W'.heap[X]? =w6.heap[X]? →S W'):=Ae fun W' h=>by
     have hc:∀j v,w6.cell? ⟨X,j,none⟩=some v→W'.cell? ⟨X,j,none⟩=some v:=fun j v hv=>by
      unfold World.cell? at hv⊢;rw[h];exact hv
     subst hSd;exact⟨hc _ _ e0,hc _ _ e1,hc _ _ e2,hc _ _ e3⟩
    clear e0 e1 e2 e3 hSd;refine Al (S:=S) (by kernel_rfl) (HSA.out _ rfl) (fun hS=>?_);have hb7:Below wr.heap.size wr w6.drew:=hb6.drew;have hXY:w6.drew.heap=w6.heap:=rfl;have hcl:w6.drew.cell? ⟨T,0,none⟩=some (Ad Av mz cv):=t0;have hXd:X<w6.drew.heap.size:=hXl;rw[←hXY]at HSA;clear hXY t0 t1 H6 hb6 hXl;obtain⟨Y,hY⟩:=ez w6.drew;rw[←hY]at hS hb7 hcl hXd HSA⊢;clear hY;have HSA2:Hid (∀(Y2 W':Ag),Below Y.heap.size Y Y2→W'.heap[X]? =Y2.heap[X]? →S W'):=Ae fun Y2 W' hb h=>HSA.out _ (h.trans (hb.block X hXd));have HB7:=Ae hb7;have HMZ:=Ae hmz;have hXw:wr.heap.size≤X:=by omega
    have HXX:=Ae hXw;have HXD:=Ae hXd;have HXQ:=Ae hX;clear hb7 hmz HSA hX hXw hXd;refine Cf 0 ?_;refine Cf 1 ?_;refine Cf 2 ?_;refine Cf 4 ?_;refine Am (rs:=[3,5]) (by kernel_rfl) (by simp) (An rfl (fun K hK=>?_) (An rfl (fun K hK=>?_) Ao))
    ·go_simp;refine hK.out _ _ hS (fun hS=>?_);clear hK K hcl;refine rdy 5 (fun K hK=>?_);go_simp;refine(HCP.out _ HB7.out).mono ?_;rintro ee Y2 ⟨A9,rfl,hA9,hrow9,hb9⟩;dsimp only;rw[HMD.out]at hA9 hrow9⊢;refine hK.out _ _ (HSA2.out Y2 _ hb9 rfl) (fun hS=>?_);clear hK K;have hx9:Gx wr.heap.size Y2 (⟨⟨x0,x1,x2⟩,ids⟩,(A9,m)):=⟨by show AOk A9 ids.length m;rw[HMD.out];exact hA9,by show ids.length≤m;rw[HMD.out];exact Aj _,by show m≤maxLen;unfold maxLen;omega,by show Ec Y2 _ _ _ A9 ids.length _;rw[HMD.out];exact hrow9.base HB7.out.size⟩;have hb79:=HB7.out.trans (hb9.mono HB7.out.size);obtain⟨Bv,dv,A'',c'',w8,hv,hrun,⟨f8,k8⟩,hX8,HX9,HT9,hO9⟩:=Xa HXH.out HTT.out HOW.out HNO.out HTO.out HWO.out hb79 hx9 (by rw[HMZ.out];exact hzl);have hXY2:X<Y2.heap.size:=by have:=hb9.size;have:=HXD.out;omega
     obtain⟨h81,h82⟩:=hX8 X HXX.out hXY2;simp only[HMD.out,HMZ.out]at hrun f8 k8 h82 HX9 HT9 hO9 hv;have HS8:=Ae (HSA2.out Y2 _ hb9 h81);have HS9:=Ae (HSA2.out Y2 _ hb9 h82);have HSB:=Ae (HSA2.out Y2 _ hb9 (Below.heap_alloc Y2 (.cells #[Aa Ab x0,Aa Ab x1,Aa Ac x2,Ad A9 m m] 125) X hXY2));have HRUN:=Ae hrun;have HFIN:Hid (jV w N T O K C l (k+1) (w8.setCell ⟨T,0,none⟩ (Ad A'' (mz+1) c''))):=Ae ⟨_,_,_,_,HX9,HT9,by simpa[HS0.out]using HZ0.out,by simpa[HS1.out]using HZ1.out,hO9⟩;clear hx9 hb79 hrun hX8 HX9 HT9 hO9 h81 h82 hXY2 hb9 hrow9 hA9;obtain⟨rfl,rfl⟩:Av=Bv∧cv=dv:=by simpa using hv
     refine rdy 6 (fun K hK=>?_);go_simp;refine hK.out _ _ HSB.out (fun hS=>?_);clear hK K;refine rdy 7 (fun K hK=>?_);refine Di (by simp[Region.wanted]) (.tmp 39) (.tmp 42) 41 rfl _ _ (by simp[Act.eval]) (by simp[Act.eval]) _ _ HRUN.out ?_;refine hK.out _ _ HS8.out (fun hS=>?_);clear hK K;refine Cf 8 ?_;refine rdy 9 (fun K hK=>?_);go_simp;refine hK.out _ _ HS9.out (fun hS=>?_);clear hK K hS;refine Ak (by kernel_rfl) ?_ _;clear HRUN HS8 HS9 HSB HSO HSA2 f8 k8 HB7 HCP;go_wp2_with fail;exact⟨⟨k+1,by omega,by go_num,HFIN⟩,by simp[intOf];omega⟩
    ·go_simp;refine(HCP.out _ HB7.out).mono ?_;rintro ee Y2 ⟨A9,rfl,hA9,hrow9,hb9⟩;dsimp only;rw[HMD.out]at hA9 hrow9⊢;refine hK.out _ _ (HSA2.out Y2 _ hb9 rfl) (fun hS=>?_);clear hK K;have hcl:=Ce hb9 hcl;have hx9:Gx wr.heap.size Y2 (⟨⟨x0,x1,x2⟩,ids⟩,(A9,m)):=⟨by show AOk A9 ids.length m;rw[HMD.out];exact hA9,by show ids.length≤m;rw[HMD.out];exact Aj _,by show m≤maxLen;unfold maxLen;omega,by show Ec Y2 _ _ _ A9 ids.length _;rw[HMD.out];exact hrow9.base HB7.out.size⟩;have hb79:=HB7.out.trans (hb9.mono HB7.out.size);obtain⟨Bv,dv,A'',c'',w8,hv,hrun,⟨f8,k8⟩,hX8,HX9,HT9,hO9⟩:=Xa HXH.out HTT.out HOW.out HNO.out HTO.out HWO.out hb79 hx9 (by rw[HMZ.out];exact hzl);have hXY2:X<Y2.heap.size:=by have:=hb9.size;have:=HXD.out;omega
     obtain⟨h81,h82⟩:=hX8 X HXX.out hXY2;simp only[HMD.out,HMZ.out]at hrun f8 k8 h82 HX9 HT9 hO9 hv;have HS8:=Ae (HSA2.out Y2 _ hb9 h81);have HS9:=Ae (HSA2.out Y2 _ hb9 h82);have HSB:=Ae (HSA2.out Y2 _ hb9 (Below.heap_alloc Y2 (.cells #[Aa Ab x0,Aa Ab x1,Aa Ac x2,Ad A9 m m] 125) X hXY2));have HRUN:=Ae hrun;have HFIN:Hid (jV w N T O K C l (k+1) (w8.setCell ⟨T,0,none⟩ (Ad A'' (mz+1) c''))):=Ae ⟨_,_,_,_,HX9,HT9,by simpa[HS0.out]using HZ0.out,by simpa[HS1.out]using HZ1.out,hO9⟩;clear hx9 hb79 hrun hX8 HX9 HT9 hO9 h81 h82 hXY2 hb9 hrow9 hA9;obtain⟨rfl,rfl⟩:Av=Bv∧cv=dv:=by simpa using hv
     refine Am (rs:=[3,6]) (by kernel_rfl) (by simp) (An rfl (fun K hK=>?_) (An rfl (fun K hK=>?_) Ao))
     ·go_simp;refine hK.out _ _ hS (fun hS=>?_);clear hK K hcl;refine rdy 6 (fun K hK=>?_);go_simp;refine hK.out _ _ HSB.out (fun hS=>?_);clear hK K;refine rdy 7 (fun K hK=>?_);refine Di (by simp[Region.wanted]) (.tmp 39) (.tmp 42) 41 rfl _ _ (by simp[Act.eval]) (by simp[Act.eval]) _ _ HRUN.out ?_;refine hK.out _ _ HS8.out (fun hS=>?_);clear hK K;refine Cf 8 ?_;refine rdy 9 (fun K hK=>?_);go_simp;refine hK.out _ _ HS9.out (fun hS=>?_);clear hK K hS;refine Ak (by kernel_rfl) ?_ _;clear HRUN HS8 HS9 HSB HSO HSA2 f8 k8 HB7 HCP;go_wp2_with fail;exact⟨⟨k+1,by omega,by go_num,HFIN⟩,by simp[intOf];omega⟩
     ·have hcl:=Ce ((Below.refl Y2.heap.size Y2).alloc (Aj _) (.cells #[Aa Ab x0,Aa Ab x1,Aa Ac x2,Ad A9 m m] 125)) hcl;go_simp;refine hK.out _ _ HSB.out (fun hS=>?_);clear hK K;refine rdy 3 (fun K hK=>?_);go_simp;refine hK.out _ _ hS (fun hS=>?_);clear hK K hcl;refine rdy 7 (fun K hK=>?_);refine Di (by simp[Region.wanted]) (.tmp 39) (.tmp 42) 41 rfl _ _ (by simp[Act.eval]) (by simp[Act.eval]) _ _ HRUN.out ?_;refine hK.out _ _ HS8.out (fun hS=>?_);clear hK K;refine Cf 8 ?_;refine rdy 9 (fun K hK=>?_);go_simp;refine hK.out _ _ HS9.out (fun hS=>?_);clear hK K hS;refine Ak (by kernel_rfl) ?_ _;clear HRUN HS8 HS9 HSB HSO HSA2 f8 k8 HB7 HCP;go_wp2_with fail;exact⟨⟨k+1,by omega,by go_num,HFIN⟩,by simp[intOf];omega⟩
   ·go_upto_region 11 with fail;obtain⟨Av,cv,hvv,-,-⟩:=Dy HTT.out.2.1.1;subst hvv;have hzl:=jP HZ1.out (by have:=HN.out;omega);obtain⟨mz,hmz⟩:=ey z1.length;rw[hmz]at t1 hzl;have hXl:X<w6.heap.size:=H6.lt 2 rfl;obtain⟨S,hSd⟩:∃S:Ag→Prop,S=fun W'=>W'.cell? ⟨X,0,none⟩=some (Aa Ab x0)∧W'.cell? ⟨X,1,none⟩=some (Aa Ab x1)∧W'.cell? ⟨X,2,none⟩=some (Aa Ac x2)∧W'.cell? ⟨X,3,none⟩=some (Ad A' m c'):=⟨_,rfl⟩;have HSO:Hid (∀W',S W'→W'.cell? ⟨X,0,none⟩=some (Aa Ab x0)∧W'.cell? ⟨X,1,none⟩=some (Aa Ab x1)∧W'.cell? ⟨X,2,none⟩=some (Aa Ac x2)∧W'.cell? ⟨X,3,none⟩=some (Ad A' m c')):=Ae fun W' h=>by subst hSd;exact h
    have HSA:Hid (∀W',W'.heap[X]? =w6.heap[X]? →S W'):=Ae fun W' h=>by
     have hc:∀j v,w6.cell? ⟨X,j,none⟩=some v→W'.cell? ⟨X,j,none⟩=some v:=fun j v hv=>by
      unfold World.cell? at hv⊢;rw[h];exact hv
     subst hSd;exact⟨hc _ _ e0,hc _ _ e1,hc _ _ e2,hc _ _ e3⟩
    clear e0 e1 e2 e3 hSd;refine Al (S:=S) (by kernel_rfl) (HSA.out _ rfl) (fun hS=>?_);have hb7:Below wr.heap.size wr w6.drew:=hb6.drew;have hXY:w6.drew.heap=w6.heap:=rfl;have hcl:w6.drew.cell? ⟨T,1,none⟩=some (Ad Av mz cv):=t1;have hXd:X<w6.drew.heap.size:=hXl;rw[←hXY]at HSA;clear hXY t0 t1 H6 hb6 hXl;obtain⟨Y,hY⟩:=ez w6.drew;rw[←hY]at hS hb7 hcl hXd HSA⊢;clear hY;have HSA2:Hid (∀(Y2 W':Ag),Below Y.heap.size Y Y2→W'.heap[X]? =Y2.heap[X]? →S W'):=Ae fun Y2 W' hb h=>HSA.out _ (h.trans (hb.block X hXd));have HB7:=Ae hb7;have HMZ:=Ae hmz;have hXw:wr.heap.size≤X:=by omega
    have HXX:=Ae hXw;have HXD:=Ae hXd;have HXQ:=Ae hX;clear hb7 hmz HSA hX hXw hXd;refine Cf 0 ?_;refine Cf 1 ?_;refine Cf 2 ?_;refine Cf 4 ?_;refine Am (rs:=[3,5]) (by kernel_rfl) (by simp) (An rfl (fun K hK=>?_) (An rfl (fun K hK=>?_) Ao))
    ·go_simp;refine hK.out _ _ hS (fun hS=>?_);clear hK K hcl;refine rdy 5 (fun K hK=>?_);go_simp;refine(HCP.out _ HB7.out).mono ?_;rintro ee Y2 ⟨A9,rfl,hA9,hrow9,hb9⟩;dsimp only;rw[HMD.out]at hA9 hrow9⊢;refine hK.out _ _ (HSA2.out Y2 _ hb9 rfl) (fun hS=>?_);clear hK K;have hx9:Gx wr.heap.size Y2 (⟨⟨x0,x1,x2⟩,ids⟩,(A9,m)):=⟨by show AOk A9 ids.length m;rw[HMD.out];exact hA9,by show ids.length≤m;rw[HMD.out];exact Aj _,by show m≤maxLen;unfold maxLen;omega,by show Ec Y2 _ _ _ A9 ids.length _;rw[HMD.out];exact hrow9.base HB7.out.size⟩;have hb79:=HB7.out.trans (hb9.mono HB7.out.size);obtain⟨Bv,dv,A'',c'',w8,hv,hrun,⟨f8,k8⟩,hX8,HX9,HT9,hO9⟩:=Xb HXH.out HTT.out HOW.out HNO.out HTO.out HWO.out hb79 hx9 (by rw[HMZ.out];exact hzl);have hXY2:X<Y2.heap.size:=by have:=hb9.size;have:=HXD.out;omega
     obtain⟨h81,h82⟩:=hX8 X HXX.out hXY2;simp only[HMD.out,HMZ.out]at hrun f8 k8 h82 HX9 HT9 hO9 hv;have HS8:=Ae (HSA2.out Y2 _ hb9 h81);have HS9:=Ae (HSA2.out Y2 _ hb9 h82);have HSB:=Ae (HSA2.out Y2 _ hb9 (Below.heap_alloc Y2 (.cells #[Aa Ab x0,Aa Ab x1,Aa Ac x2,Ad A9 m m] 125) X hXY2));have HRUN:=Ae hrun;have HFIN:Hid (jV w N T O K C l (k+1) (w8.setCell ⟨T,1,none⟩ (Ad A'' (mz+1) c''))):=Ae ⟨_,_,_,_,HX9,HT9,by simpa[HS0.out]using HZ0.out,by simpa[HS1.out]using HZ1.out,hO9⟩;clear hx9 hb79 hrun hX8 HX9 HT9 hO9 h81 h82 hXY2 hb9 hrow9 hA9;obtain⟨rfl,rfl⟩:Av=Bv∧cv=dv:=by simpa using hv
     refine rdy 6 (fun K hK=>?_);go_simp;refine hK.out _ _ HSB.out (fun hS=>?_);clear hK K;refine rdy 7 (fun K hK=>?_);refine Di (by simp[Region.wanted]) (.tmp 39) (.tmp 42) 41 rfl _ _ (by simp[Act.eval]) (by simp[Act.eval]) _ _ HRUN.out ?_;refine hK.out _ _ HS8.out (fun hS=>?_);clear hK K;refine Cf 8 ?_;refine rdy 9 (fun K hK=>?_);go_simp;refine hK.out _ _ HS9.out (fun hS=>?_);clear hK K hS;refine Ak (by kernel_rfl) ?_ _;clear HRUN HS8 HS9 HSB HSO HSA2 f8 k8 HB7 HCP;go_wp2_with fail;exact⟨⟨k+1,by omega,by go_num,HFIN⟩,by simp[intOf];omega⟩
    ·go_simp;refine(HCP.out _ HB7.out).mono ?_;rintro ee Y2 ⟨A9,rfl,hA9,hrow9,hb9⟩;dsimp only;rw[HMD.out]at hA9 hrow9⊢;refine hK.out _ _ (HSA2.out Y2 _ hb9 rfl) (fun hS=>?_);clear hK K;have hcl:=Ce hb9 hcl;have hx9:Gx wr.heap.size Y2 (⟨⟨x0,x1,x2⟩,ids⟩,(A9,m)):=⟨by show AOk A9 ids.length m;rw[HMD.out];exact hA9,by show ids.length≤m;rw[HMD.out];exact Aj _,by show m≤maxLen;unfold maxLen;omega,by show Ec Y2 _ _ _ A9 ids.length _;rw[HMD.out];exact hrow9.base HB7.out.size⟩;have hb79:=HB7.out.trans (hb9.mono HB7.out.size);obtain⟨Bv,dv,A'',c'',w8,hv,hrun,⟨f8,k8⟩,hX8,HX9,HT9,hO9⟩:=Xb HXH.out HTT.out HOW.out HNO.out HTO.out HWO.out hb79 hx9 (by rw[HMZ.out];exact hzl);have hXY2:X<Y2.heap.size:=by have:=hb9.size;have:=HXD.out;omega
     obtain⟨h81,h82⟩:=hX8 X HXX.out hXY2;simp only[HMD.out,HMZ.out]at hrun f8 k8 h82 HX9 HT9 hO9 hv;have HS8:=Ae (HSA2.out Y2 _ hb9 h81);have HS9:=Ae (HSA2.out Y2 _ hb9 h82);have HSB:=Ae (HSA2.out Y2 _ hb9 (Below.heap_alloc Y2 (.cells #[Aa Ab x0,Aa Ab x1,Aa Ac x2,Ad A9 m m] 125) X hXY2));have HRUN:=Ae hrun;have HFIN:Hid (jV w N T O K C l (k+1) (w8.setCell ⟨T,1,none⟩ (Ad A'' (mz+1) c''))):=Ae ⟨_,_,_,_,HX9,HT9,by simpa[HS0.out]using HZ0.out,by simpa[HS1.out]using HZ1.out,hO9⟩;clear hx9 hb79 hrun hX8 HX9 HT9 hO9 h81 h82 hXY2 hb9 hrow9 hA9;obtain⟨rfl,rfl⟩:Av=Bv∧cv=dv:=by simpa using hv
     refine Am (rs:=[3,6]) (by kernel_rfl) (by simp) (An rfl (fun K hK=>?_) (An rfl (fun K hK=>?_) Ao))
     ·go_simp;refine hK.out _ _ hS (fun hS=>?_);clear hK K hcl;refine rdy 6 (fun K hK=>?_);go_simp;refine hK.out _ _ HSB.out (fun hS=>?_);clear hK K;refine rdy 7 (fun K hK=>?_);refine Di (by simp[Region.wanted]) (.tmp 39) (.tmp 42) 41 rfl _ _ (by simp[Act.eval]) (by simp[Act.eval]) _ _ HRUN.out ?_;refine hK.out _ _ HS8.out (fun hS=>?_);clear hK K;refine Cf 8 ?_;refine rdy 9 (fun K hK=>?_);go_simp;refine hK.out _ _ HS9.out (fun hS=>?_);clear hK K hS;refine Ak (by kernel_rfl) ?_ _;clear HRUN HS8 HS9 HSB HSO HSA2 f8 k8 HB7 HCP;go_wp2_with fail;exact⟨⟨k+1,by omega,by go_num,HFIN⟩,by simp[intOf];omega⟩
     ·have hcl:=Ce ((Below.refl Y2.heap.size Y2).alloc (Aj _) (.cells #[Aa Ab x0,Aa Ab x1,Aa Ac x2,Ad A9 m m] 125)) hcl;go_simp;refine hK.out _ _ HSB.out (fun hS=>?_);clear hK K;refine rdy 3 (fun K hK=>?_);go_simp;refine hK.out _ _ hS (fun hS=>?_);clear hK K hcl;refine rdy 7 (fun K hK=>?_);refine Di (by simp[Region.wanted]) (.tmp 39) (.tmp 42) 41 rfl _ _ (by simp[Act.eval]) (by simp[Act.eval]) _ _ HRUN.out ?_;refine hK.out _ _ HS8.out (fun hS=>?_);clear hK K;refine Cf 8 ?_;refine rdy 9 (fun K hK=>?_);go_simp;refine hK.out _ _ HS9.out (fun hS=>?_);clear hK K hS;refine Ak (by kernel_rfl) ?_ _;clear HRUN HS8 HS9 HSB HSO HSA2 f8 k8 HB7 HCP;go_wp2_with fail;exact⟨⟨k+1,by omega,by go_num,HFIN⟩,by simp[intOf];omega⟩
  ·obtain rfl:k=n:=by omega
   have q0:¬(k:Int)<(k:Int):=by omega
   have ht:l.take k=l:=Bc (by have:=HN.out;omega);rw[ht]at hz0 hz1;obtain⟨A0,c0,hv0,h01,h02⟩:=Dy HT.1.1;obtain⟨A1,c1,hv1,h11,h12⟩:=Dy HT.2.1.1;subst hv0 hv1;have hs0:=HT.1.stks;have hs1:=HT.2.1.stks;have hl0:z0.length=(Dh K C 0 l).length:=by rw[←hz0,Bk]
   have hl1:z1.length=(Dh K C 1 l).length:=by rw[←hz1,Bk]
   rw[hz0]at hs0;rw[hz1]at hs1;rw[hl0]at h01 HX;rw[hl1]at h11 HX;obtain⟨⟨t0,t1⟩,-⟩:=Cu (HX.blk 1 _ _ _ rfl);obtain⟨m0,hm0⟩:=ey ((Dh K C 0 l).length);obtain⟨m1,hm1⟩:=ey ((Dh K C 1 l).length);have HFIN:Hid (∀w',Below wr.heap.size wr w'→oM K C l w (.returned (.tuple #[Ad A0 m0 m0,Ad A1 m1 m1,Aa Ab 0])) w'):=Ae fun w' hb=>⟨A0,A1,by rw[hm0,hm1],hs0.below hb,hs1.below hb,HX.below.trans (hb.mono HX.below.size)⟩;rw[hm0]at h01 t0;rw[hm1]at h11 t1;have C0:=Ae (fun w'=>Xn A0 m0 c0 w' h01 h02);have C1:=Ae (fun w'=>Xn A1 m1 c1 w' h11 h12);clear hz0 hz1 ht HT HX hs0 hs1 hl0 hl1 h01 h02 h11 h12 hm0 hm1 hOW;go_upto_region 13 with fail;obtain⟨S,hSd⟩:∃S:Ag→Prop,S=fun W'=>W'.cell? ⟨T,0,none⟩=some (Ad A0 m0 c0)∧W'.cell? ⟨T,1,none⟩=some (Ad A1 m1 c1):=⟨_,rfl⟩;have HSO:Hid (∀W',S W'→W'.cell? ⟨T,0,none⟩=some (Ad A0 m0 c0)∧W'.cell? ⟨T,1,none⟩=some (Ad A1 m1 c1)):=Ae fun W' h=>by subst hSd;exact h
   have HSA:Hid (∀W',Below wr.heap.size wr W'→S W'):=Ae fun W' h=>by
    subst hSd;exact⟨Ce h t0,Ce h t1⟩
   refine Al (S:=S) (by kernel_rfl) (HSA.out _ (Below.refl _ _).drew) (fun hS=>?_);have hb:Below wr.heap.size wr wr.drew:=(Below.refl _ _).drew;clear t0 t1 hSd;obtain⟨Y,hY⟩:=ez wr.drew;rw[←hY]at hS hb⊢;clear hY;refine Cf 0 ?_;refine Cf 1 ?_;refine Cf 3 ?_;refine Cf 4 ?_;refine rdy 2 (fun K hK=>?_);go_simp;refine(C0.out _).mono ?_;rintro e X1 ⟨rfl,hbm⟩;have hb:=hb.trans (hbm.mono hb.size);refine hK.out _ _ (HSA.out _ hb) (fun hS=>?_);clear hK K hbm;refine rdy 5 (fun K hK=>?_);go_simp;refine(C1.out _).mono ?_;rintro e X2 ⟨rfl,hbm⟩;have hb:=hb.trans (hbm.mono hb.size);refine hK.out _ _ (HSA.out _ hb) (fun hS=>?_);clear hK K hbm;refine Cf 6 ?_;refine Cf 7 ?_;refine Cf 8 ?_;refine Ak (by kernel_rfl) ?_ _;go_wp2_with fail;refine Af (v:= .tuple #[Ad A0 m0 m0,Ad A1 m1 m1,Aa Ab 0]) (by simp[results,Tryz.results52,go_sem]) rfl ?_;exact HFIN.out _ hb
theorem mE {w:Ag} {g base n c:Nat} {e:TypeId} {cs:Array Ah} {sz:Nat} (hb:base≤g) (hg:w.heap[g]? =some (.cells cs e (0,0))) (_hn:n≤c) (hc:c≤maxLen) (hcs:cs.size=c*sz):w.ownsRow base e sz (Ad (some ⟨g,0,none⟩) 0 c) 0 []:=
 ⟨by simp,.inr ⟨g,c,cs,rfl,hb,hg,by omega,hc,hcs,by simp⟩⟩
theorem Zu (n:Nat) (w:Ag) (hn:n≤1000000):
  Ai Tryz.prog 146 #[Ad none 0 0,Aa Ab n] w (Mp 125 4 0 [] w):=by
 obtain⟨i0,hi0,hz0,hz1,hz2⟩:=info_parts Ql;go_enter Tryz.func146,Tryz.ntmps146;by_cases h0:n=0
 ·subst h0;go_wp2_with fail;go_ret;exact⟨_,rfl,World.ownsRow_nil _ _ _ _,Below.refl _ _⟩
 ·have hr:=Lib.run_append_nil_zeros (P:=Tryz.prog) w 41 3 41 125 i0 _ .i64 .i64 Tryz.underlying41 Tryz.underlying3 hi0 hz0 n (by omega) (by omega) (by omega) (by rw[hz2];omega);have hge:=grownCap_ge w n 0 125;have hcm:=grownCap_le_maxLen w n 0 125 (by simp[maxLen];omega);obtain⟨C,hC⟩:=ey (grownCap w n 0 125);rw[hC]at hr hge hcm;have HR:=Ae hr;have hnp:(0:Int)<(n:Int):=by omega
  unfold maxLen at hcm;clear hr hC;go_wp2_with (at_builtin;refine Ap _ rfl _ _ _ _ rfl _ _ rfl rfl _ _ HR.out ?_);go_wp2_with fail;go_ret;refine⟨_,rfl,mE (cs:=Builtin.zeroCells (Value.agg #[Aa Ab 0,Aa Ab 0,Aa Ac 0,Ad none 0 0]).cells n++Builtin.zeroCells (Value.agg #[Aa Ab 0,Aa Ab 0,Aa Ac 0,Ad none 0 0]).cells (C-n)) (n:=0) (Aj _) (Bt w.drew _) (Nat.zero_le _) (by unfold maxLen;exact hcm) ?_,(Below.refl _ _).drew.alloc (Aj _) _⟩;rw[Array.size_append,size_zeroCells,size_zeroCells];simp[Value.cells];omega
def nZ (l:List Stk) (w:Ag) (e:Ending) (w':Ag):Prop:=
 ∃A c,e= .returned (Ad A l.length c)∧Cs w' A l∧Below w.heap.size w w'
theorem tR {x:SkR}:∀u∈Ds x,u.oneCell'=true:=by
 intro u hu;simp[Ds]at hu;rcases hu with rfl|rfl|rfl|rfl<;>rfl
theorem Vg (l:List SkR):∀u∈l.flatMap Ds,u.oneCell'=true:=by
 intro u hu;obtain⟨x,-,hx⟩:=List.mem_flatMap.1 hu;exact tR u hx
theorem Cs.cat {w1 w2 w3:Ag} {A3:Option Addr} {l1 l2:List Stk} {hs1 hs2:List (Option Addr×Nat)} (e1:hs1.length=l1.length) (e2:hs2.length=l2.length)
  (g1:∀(i:Nat) (h:i<l1.length) (h':i<hs1.length),AOk hs1[i].1 l1[i].ls.length hs1[i].2∧l1[i].ls.length≤hs1[i].2∧hs1[i].2≤maxLen∧Rd w1 hs1[i].1 1 l1[i].ls.length (Cz l1[i].ls))
  (g2:∀(i:Nat) (h:i<l2.length) (h':i<hs2.length),AOk hs2[i].1 l2[i].ls.length hs2[i].2∧l2[i].ls.length≤hs2[i].2∧hs2[i].2≤maxLen∧Rd w2 hs2[i].1 1 l2[i].ls.length (Cz l2[i].ls))
  (b1:Below w1.heap.size w1 w3) (b2:Below w2.heap.size w2 w3) (h:Rd w3 A3 4 (l1++l2).length ((l1.zip hs1).flatMap Ds++(l2.zip hs2).flatMap Ds)):Cs w3 A3 (l1++l2):=by
 refine⟨hs1++hs2,by simp[e1,e2],by rw[List.zip_append (by omega),Bf];exact h,fun i hi hi'=>?_⟩;by_cases h1:i<l1.length
 ·rw[List.getElem_append_left (by omega),List.getElem_append_left h1];obtain⟨a,b,c,d⟩:=g1 i h1 (by omega);exact⟨a,b,c,d.below b1⟩
 ·rw[List.getElem_append_right (by omega),List.getElem_append_right (by omega)];simp only[e1];simp at hi hi';obtain⟨a,b,c,d⟩:=g2 (i-l1.length) (by omega) (by omega);exact⟨a,b,c,d.below b2⟩
theorem Vn (sb so:Nat) (A1 A2:Option Addr) (l1 l2:List Stk) (n1 n2 c1 c2 cc:Nat) (w:Ag) (hs:sb<w.heap.size) (h1:w.cell? ⟨sb,so,none⟩=some (Ad A1 n1 c1)) (h2:w.cell? ⟨sb,so+1,none⟩=some (Ad A2 n2 c2))
  (r1:Cs w A1 l1) (r2:Cs w A2 l2) (e1:n1=l1.length) (e2:n2=l2.length) (b1:n1≤100000) (b2:n2≤100000):
  Ai Tryz.prog 77 #[Ad (some ⟨sb,so,none⟩) 2 cc] w (nZ (l1++l2) w):=by
 obtain⟨i0,hi0,hz0,hz1,hz2⟩:=info_parts Ql;obtain⟨hs1,f1,q1,g1⟩:=r1;obtain⟨hs2,f2,q2,g2⟩:=r2;rw[←e1]at q1;rw[←e2]at q2
 have a1:A1=none→n1=0:=fun h=>by
  subst h;by_cases h0:0<n1
  ·obtain⟨_,_,e,-⟩:=q1.2 h0
   cases e
  ·omega
 have a2:A2=none→n2=0:=fun h=>by
  subst h;by_cases h0:0<n2
  ·obtain⟨_,_,e,-⟩:=q2.2 h0
   cases e
  ·omega
 have HFIN:Hid (∀v w3,w3.ownsRow w.heap.size 125 4 v (n1+n2) ((l1.zip hs1).flatMap Ds++(l2.zip hs2).flatMap Ds)→Below w.heap.size w w3→nZ (l1++l2) w (.returned v) w3):=Ae fun v w3 ho hb=>by
  obtain⟨A,c,rfl,-,-⟩:=Dy ho;have hl:(l1++l2).length=n1+n2:=by rw[Be,e1,e2]
  exact⟨A,c,by rw[hl],Cs.cat f1 f2 g1 g2 hb hb (by rw[hl];exact Rd.of_own ho),hb⟩
 have R1:=Ae q1;have R2:=Ae q2;have A1':=Ae a1;have A2':=Ae a2;clear q1 q2 a1 a2 g1 g2 f1 f2 e1 e2;have O1:=Ae (Vg (l1.zip hs1));have O2:=Ae (Vg (l2.zip hs2))
 generalize (l1.zip hs1).flatMap Ds=X1 at R1 HFIN O1
 generalize (l2.zip hs2).flatMap Ds=X2 at R2 HFIN O2
 go_enter Tryz.func77,Tryz.ntmps77;go_wp2_with fail;refine wp_loop_rounds 3 ?_;rw[rounds_succ];go_wp2_with fail;rw[rounds_succ];go_wp2_with fail;rw[rounds_succ];go_wp2_with fail;have hgr:=Zu (n1+n2) w (by omega);rw[Int.natCast_add]at hgr;refine hgr.mono ?_;clear hgr;rintro e w1 ⟨v1,rfl,hown1,hb1⟩;have e1:=Ce hb1 h1;have e2:=Ce hb1 h2;have hs1:sb<w1.heap.size:=Bm hs hb1.size;obtain⟨v2,w2,hr2,hown2,hg2⟩:=Ei (P:=Tryz.prog) w1 w.heap.size 41 41 125 i0 _ 4 48 Tryz.underlying41 hi0 hz0 hz1 hz2 rfl (by omega) v1 0 [] hown1 A1 n1 c1 X1 O1.out (R1.out.below hb1) A1'.out (by omega) (by omega) hb1.size;have hb2:Below w.heap.size w w2:=hb1.grown hg2 hb1.size (fun q hq=>(hown1.lt q hq).1);have e3:w2.cell? ⟨sb,so+1,none⟩=some (Ad A2 n2 c2):=Ce hb2 h2;obtain⟨v3,w3,hr3,hown3,hg3⟩:=Ei (P:=Tryz.prog) w2 w.heap.size 41 41 125 i0 _ 4 48 Tryz.underlying41 hi0 hz0 hz1 hz2 rfl (by omega) v2 _ _ hown2 A2 n2 c2 X2 O2.out (R2.out.below hb2) A2'.out (by omega) (by omega) hb2.size;have hb3:Below w.heap.size w w3:=hb2.grown hg3 hb2.size (fun q hq=>(hown2.lt q hq).1);have HR2:=Ae hr2;have HR3:=Ae hr3;have HF:=Ae (HFIN.out v3 w3 (by rw[Bp,List.nil_append]at hown3;exact hown3) hb3);clear hr2 hr3 hown1 hown2 hown3 hg2 hg3 h1 h2 HFIN;go_wp2_with fail;refine wp_loop_rounds 3 ?_;rw[rounds_succ];go_wp2_with (at_builtin;refine Ap _ rfl _ _ _ _ rfl _ _ rfl rfl _ _ HR2.out ?_);clear HR2;go_wp2_with fail;rw[rounds_succ];go_wp2_with (at_builtin;refine Ap _ rfl _ _ _ _ rfl _ _ rfl rfl _ _ HR3.out ?_);go_wp2_with fail;rw[rounds_succ];go_wp2_with fail;go_ret;exact HF.out
theorem Ti (p q:Cl) (w:Ag):(Op.equal 123 (clK p) (clK q)).run Tryz.prog w= .ok (decide (p=q)) w:=Qb p q w 9998
theorem iH:Xh (κ:=Cl) 123 clK where
 now:=⟨_,Tryz.underlying123,fun p q=>rfl⟩
 eq:=Ti
 check:=fun b p w=>by kernel_rfl
 bits:=fun p=>by
  have h:∀n,Instr.sameBits (n+1+1) (clK p) (clK p)=true:=by intro n;simp[Instr.sameBits,clK]
  exact h 9998
def Lu (c:Cl):List Stk→Nat→Option Nat
 |[],_=>none
 |y::r,n=>if c=y.c then some n else Lu c r (n+1)
def Gc:List Stk→Nat→List (Cl×Ah)
 |[],_=>[]
 |y::r,n=>(y.c,Aa Ab (n:Int))::Gc r (n+1)
theorem Ud (c:Cl):∀(l:List Stk) (n:Nat),Il c (Gc l n) n=(Lu c l n).map fun(i:Nat)=>(i,Aa Ab (i:Int))
 |[],n=>rfl
 |y::r,n=>by
  unfold Gc Il Lu;by_cases h:c=y.c
  ·simp[h]
  ·simp only[if_neg h];exact Ud c r (n+1)
theorem qF (c:Cl) (l:List Stk):Ht c (Gc l 0)=(Lu c l 0).map fun(i:Nat)=> Aa Ab (i:Int):=by
 unfold Ht;rw[Ud,Option.map_map];rfl
theorem Si (x:Stk):∀(l:List Stk) (n:Nat),Gc (l++[x]) n=Gc l n++[(x.c,Aa Ab ((n+l.length:Nat):Int))]
 |[],n=>rfl
 |y::r,n=>by
  have:=Si x r (n+1);simp only[List.cons_append,Gc,this,List.length_cons];rw[show n+1+r.length=n+(r.length+1)by omega]
theorem sN (x:Stk) (l:List Stk) (h:Lu x.c l 0=none):Kl x.c (Aa Ab (l.length:Int)) (Gc l 0)=Gc (l++[x]) 0:=by
 unfold Kl;rw[Ud,h,Si,Bp];rfl
theorem Um (x:Stk):∀(l:List Stk) (n i:Nat) (h:i<l.length),l[i].c=x.c→Gc (l.set i x) n=Gc l n
 |[],_,_,h,_=>absurd h (Nat.not_lt_zero _)
 |y::r,n,0,_,hc=>by
  have hc:y.c=x.c:=hc;simp[Gc,hc]
 |y::r,n,i+1,h,hc=>by
  simp only[Cc,Gc];rw[Um x r (n+1) i (by simpa using h) (by simpa using hc)]
theorem Od {c:Cl}:∀{l:List Stk} {n i:Nat},Lu c l n=some i→n≤i∧∃h:i-n<l.length,l[i-n].c=c
 |[],_,_,h=>by simp[Lu]at h
 |y::r,n,i,h=>by
  unfold Lu at h;by_cases hc:c=y.c
  ·rw[if_pos hc]at h;obtain rfl:n=i:=by simpa using h
   exact⟨Aj _,by simp,by simp[hc]⟩
  ·rw[if_neg hc]at h;obtain⟨h1,h2,h3⟩:=Od h;refine⟨by omega,by simp;omega,?_⟩;have e:i-n=(i-(n+1))+1:=by omega
   simp only[e,Bz];exact h3
theorem Lj {x:Stk}:∀{l:List Stk} {n:Nat},Lu x.c l n=none→Jb x l=l++[x]∧x.c∉l.map (·.c)
 |[],_,_=>⟨rfl,by simp⟩
 |y::r,n,h=>by
  unfold Lu at h;by_cases hc:x.c=y.c
  ·rw[if_pos hc]at h;cases h
  ·rw[if_neg hc]at h;obtain⟨h1,h2⟩:=Lj h;refine⟨?_,by simp only[List.map_cons,Bh,not_or];exact⟨hc,h2⟩⟩;unfold Jb;rw[if_neg (fun e=>hc e.symm),h1];rfl
theorem Ll {x:Stk}:∀{l:List Stk} {n i:Nat},Lu x.c l n=some i→∃h:i-n<l.length,Jb x l=l.set (i-n) ⟨x.c,l[i-n].ls++x.ls⟩
 |[],_,_,h=>by simp[Lu]at h
 |y::r,n,i,h=>by
  have hh:=h;unfold Lu at h;by_cases hc:x.c=y.c
  ·rw[if_pos hc]at h;obtain rfl:n=i:=by simpa using h
   refine⟨by simp,?_⟩;unfold Jb;rw[if_pos hc.symm];simp[hc]
  ·rw[if_neg hc]at h;obtain⟨h1,h2⟩:=Ll h;obtain⟨h3,-⟩:=Od h;refine⟨by simp;omega,?_⟩;have e:i-n=(i-(n+1))+1:=by omega
   unfold Jb;rw[if_neg (fun e=>hc e.symm),h2];simp only[e,Cc,Bz]
def Gj (l:List Stk):List Stk:=l.foldl (fun o x=>if x.ls.isEmpty then o else Jb x o) []
theorem fM (l:List Stk) (k:Nat) (h:k<l.length):Gj (l.take (k+1))=if l[k].ls.isEmpty then Gj (l.take k)else Jb l[k] (Gj (l.take k)):=by
 unfold Gj;rw[Ax h,List.foldl_append];rfl
theorem Pd (x:Stk) (l:List Stk):(Jb x l).map (·.c)=l.map (·.c)∨((Jb x l).map (·.c)=l.map (·.c)++[x.c]∧x.c∉l.map (·.c)):=by
 cases h:Lu x.c l 0 with
 |none=>
  obtain⟨h1,h2⟩:=Lj h;exact .inr ⟨by rw[h1];simp,h2⟩
 |some i=>
  obtain⟨h1,h2⟩:=Ll h;obtain⟨_,h3,h4⟩:=Od h;refine .inl ?_;rw[h2,List.map_set];have e:x.c=(l.map (fun y:Stk=>y.c))[i-0]'(by simpa using h1):=by rw[List.getElem_map];exact h4.symm
  show(l.map (fun y:Stk=>y.c)).set (i-0) x.c=l.map (fun y:Stk=>y.c);rw[e,List.set_getElem_self]
theorem fF {x:Stk} {l:List Stk} (h:(l.map (·.c)).Nodup):((Jb x l).map (·.c)).Nodup:=by
 rcases Pd x l with e|⟨e,hn⟩
 ·rw[e];exact h
 ·rw[e,Bl];refine⟨h,by simp,fun a ha b hb e=>?_⟩;simp at hb;subst hb;subst e;exact hn ha
theorem Rl {α β:Type} (f:β→α→β) (P:β→Prop) (h:∀b a,P b→P (f b a)):∀(l:List α) (b:β),P b→P (l.foldl f b)
 |[],_,hb=>hb
 |x::r,b,hb=>Rl f P h r _ (h b x hb)
theorem aR (l:List Stk):((Gj l).map (·.c)).Nodup:=
 Rl (fun o (x:Stk)=>if x.ls.isEmpty then o else Jb x o) (fun o:List Stk=>(o.map (·.c)).Nodup) (fun b a hb=>by split;exact hb;exact fF hb) l [] (by simp)
theorem rF (x:Stk) (l:List Stk):(Jb x l).length≤l.length+1:=by
 have:=congrArg List.length (rfl:(Jb x l).map (·.c)=(Jb x l).map (·.c));rcases Pd x l with e|⟨e,-⟩
 ·have:=congrArg List.length e;simp at this;omega
 ·have:=congrArg List.length e;simp at this;omega
theorem lK (l:List Stk):(Gj l).length≤l.length:=by
 have:∀(l:List Stk) (o:List Stk),(l.foldl (fun o x=>if x.ls.isEmpty then o else Jb x o) o).length≤o.length+l.length:=by
  intro l
  induction l with
  |nil=>intro o;simp
  |cons x r ih=>
   intro o;rw[List.foldl_cons,List.length_cons];refine Bo (ih _) ?_
   split
   ·omega
   ·have:=rF x o;omega
 have h:=this l [];rw[List.length_nil,Bp]at h;exact h
def El (l:List Stk):Nat:=(l.map fun x=>x.ls.length).sum
theorem cN:∀(l:List Stk) (i:Nat) (h:i<l.length) (c:Cl) (ys:List Nat),El (l.set i ⟨c,l[i].ls++ys⟩)=El l+ys.length
 |[],_,h,_,_=>absurd h (Nat.not_lt_zero _)
 |y::r,0,_,c,ys=>by simp[El];omega
 |y::r,i+1,h,c,ys=>by
  have:=cN r i (by simpa using h) c ys;simp[El]at this⊢;omega
theorem nK (x:Stk) (l:List Stk):El (Jb x l)=El l+x.ls.length:=by
 cases h:Lu x.c l 0 with
 |none=>rw[(Lj h).1];simp[El]
 |some i=>
  obtain⟨h1,h2⟩:=Ll h;rw[h2,cN]
theorem Px (l:List Stk):El (Gj l)=El l:=by
 have:∀(l o:List Stk),El (l.foldl (fun o x=>if x.ls.isEmpty then o else Jb x o) o)=El o+El l:=by
  intro l
  induction l with
  |nil=>intro o;simp[El]
  |cons x r ih=>
   intro o;rw[List.foldl_cons,ih]
   split
   ·rename_i h;have:x.ls=[]:=by simpa using h
    simp[El,this]
   ·rw[nK];simp[El];omega
 have h:=this l [];rw[show El []=0 from rfl,Bp]at h;exact h
theorem Kf:∀{l:List Stk} {x:Stk},x∈l→x.ls.length≤El l
 |y::r,x,h=>by
  rcases Bh.1 h with rfl|h
  ·simp[El]
  ·have:=Kf h;simp[El]at this⊢;omega
theorem xM {x:Stk} {l:List Stk} (hx:x.ls≠[]) (h:∀y∈l,y.ls≠[]):∀y∈Jb x l,y.ls≠[]:=by
 cases hp:Lu x.c l 0 with
 |none=>
  rw[(Lj hp).1];intro y hy;rcases Bi.1 hy with hy|hy
  ·exact h y hy
  ·simp at hy;subst hy;exact hx
 |some i=>
  obtain⟨h1,h2⟩:=Ll hp;rw[h2];intro y hy;rcases List.mem_or_eq_of_mem_set hy with hy|rfl
  ·exact h y hy
  ·simp[hx]
theorem rX (l:List Stk):∀x∈Gj l,x.ls≠[]:=
 Rl (fun o (x:Stk)=>if x.ls.isEmpty then o else Jb x o) (fun o:List Stk=>∀x∈o,x.ls≠[]) (fun b a hb=>by
  split
  ·exact hb
  ·rename_i h;exact xM (by simpa using h) hb) l [] (by simp)
theorem nP (l:List Stk) (k:Nat):El (l.take k)≤El l:=by
 have h:El l=El (l.take k)+El (l.drop k):=by
  unfold El;rw[←List.sum_append,←List.map_append,List.take_append_drop]
 omega
theorem Lw {α:Type} (R:α→α→Prop):∀(l1 l2:List α),l1.Perm l2→l1.Pairwise R→l2.Pairwise R→(∀a∈l1,∀b∈l1,R a b→R b a→a=b)→l1=l2
 |[],l2,h,_,_,_=>(List.Perm.nil_eq h)
 |a::r,[],h,_,_,_=>absurd h.symm (by simp)
 |a::r,b::s,h,h1,h2,ha=>by
  rw[List.pairwise_cons]at h1 h2
  have hab:a=b:=by
   have m1:a∈b::s:=h.mem_iff.1 (by simp);have m2:b∈a::r:=h.mem_iff.2 (by simp);rcases Bh.1 m1 with e|m1
   ·exact e
   rcases Bh.1 m2 with e|m2'
   ·exact e.symm
   exact ha a (by simp) b m2 (h1.1 b m2') (h2.1 a m1)
  subst hab;rw[Lw R r s ((List.perm_cons a).1 h) h1.2 h2.2 fun x hx y hy=>ha x (by simp[hx]) y (by simp[hy])]
theorem Wl (x:Stk) (l:List Stk):(aA x l).Perm (x::l):=by
 induction l with
 |nil=>exact .refl _
 |cons y r ih=>
  unfold aA
  split
  ·exact .refl _
  ·exact(ih.cons y).trans (List.Perm.swap x y r)
theorem It (l:List Stk):(Ih l).Perm l:=by
 induction l with
 |nil=>exact .refl _
 |cons x r ih=>exact(Wl x _).trans (ih.cons x)
theorem iJ {a b:Cl}:Fg a b≤0↔¬Fg b a<0:=by
 rw[Dx];have n1:=Fu (a:=a.y) (b:=b.y);have z1:=Dt (a:=a.y) (b:=b.y);have n2:=Fu (a:=a.x) (b:=b.x);have z2:=Dt (a:=a.x) (b:=b.x);have n3:=Fu (a:=(a.q:Int)) (b:=(b.q:Int));have z3:=Dt (a:=(a.q:Int)) (b:=(b.q:Int));unfold Fg
 generalize Cy a.y b.y=t1 at*
 generalize Cy a.x b.x=t2 at*
 generalize Cy (a.q:Int) (b.q:Int)=t3 at*
 split
 ·omega
 ·split
  ·omega
  ·omega
theorem wD (x:Stk) (l:List Stk) (h:l.Pairwise fun p q=>¬Fg q.c p.c<0):(aA x l).Pairwise fun p q=>¬Fg q.c p.c<0:=by
 induction l with
 |nil=>exact List.pairwise_singleton _ _
 |cons y r ih=>
  unfold aA;have hh:=h;rw[List.pairwise_cons]at h
  split
  ·rename_i hc;rw[List.pairwise_cons];refine⟨fun z hz=>?_,hh⟩;have h1:=iJ.1 hc;rcases Bh.1 hz with rfl|hz
   ·exact h1
   ·have h2:=h.1 z hz;rw[Dx]at*;omega
  ·rename_i hc;rw[List.pairwise_cons];refine⟨fun z hz=>?_,ih h.2⟩;rcases Bh.1 ((Wl x r).mem_iff.1 hz)with rfl|hz
   ·have:Fg y.c z.c<0:=by
     have:=mt iJ.2 hc;omega
    rw[Dx]at*;omega
   ·exact h.1 z hz
theorem tJ (l:List Stk):(Ih l).Pairwise fun p q=>¬Fg q.c p.c<0:=by
 induction l with
 |nil=>exact .nil
 |cons x r ih=>exact wD x _ ih
theorem Wh:∀{l:List Stk},(l.map (·.c)).Nodup→∀a∈l,∀b∈l,a.c=b.c→a=b
 |[],_,a,ha,_,_,_=>absurd ha (by simp)
 |y::r,h,a,ha0,b,hb0,e=>by
  rw[List.map_cons,List.nodup_cons]at h;rcases Bh.1 ha0 with e1|ha
  ·rcases Bh.1 hb0 with e2|hb
   ·rw[e1,e2]
   ·exact absurd (List.mem_map.2 ⟨b,hb,by rw[←e,e1]⟩) h.1
  ·rcases Bh.1 hb0 with e2|hb
   ·exact absurd (List.mem_map.2 ⟨a,ha,by rw[e,e2]⟩) h.1
   ·exact Wh h.2 a ha b hb e
theorem Yo {L l':List Stk} (hp:l'.Perm L) (hs:l'.Pairwise fun p q=>¬Fg q.c p.c<0) (hn:(L.map (·.c)).Nodup):l'=Ih L:=by
 refine Lw _ l' (Ih L) (hp.trans (It L).symm) hs (tJ L) fun a ha b hb h1 h2=>?_;refine Wh hn a (hp.mem_iff.1 ha) b (hp.mem_iff.1 hb) ?_;rw[Dx]at h1 h2;obtain⟨⟨ax,ay,aq⟩,al⟩:=a;obtain⟨⟨bx,by',bq⟩,bl⟩:=b;dsimp only at h1 h2⊢;have e1:ax=bx:=by omega
 have e2:ay=by':=by omega
 have e3:aq=bq:=by omega
 rw[e1,e2,e3]
theorem Sa (l:List Stk) (P:Cl→Prop) (h:∀x∈l,P x.c):∀x∈Gj l,P x.c:=by
 have:∀(l o:List Stk),(∀x∈l,P x.c)→(∀x∈o,P x.c)→∀x∈l.foldl (fun o x=>if x.ls.isEmpty then o else Jb x o) o,P x.c:=by
  intro l
  induction l with
  |nil=>intro o _ h;exact h
  |cons y r ih=>
   intro o h1 h2;refine ih _ (fun x hx=>h1 x (by simp[hx])) ?_;dsimp only
   split
   ·exact h2
   ·intro x hx;have hm:x.c∈(Jb y o).map (·.c):=List.mem_map.2 ⟨x,hx,rfl⟩;rcases Pd y o with e|⟨e,-⟩
    ·rw[e]at hm;obtain⟨z,hz,e⟩:=List.mem_map.1 hm;exact e▸h2 z hz
    ·rw[e]at hm;rcases Bi.1 hm with hm|hm
     ·obtain⟨z,hz,e⟩:=List.mem_map.1 hm;exact e▸h2 z hz
     ·simp at hm;exact hm▸h1 y (by simp)
 exact this l [] h (by simp)
def Ml (w:Ag) (x:SkR):Prop:=∀g,x.2.1.map (·.block)=some g→∃cur,w.heap[g]? =some (.cells cur 3 (0,0))∧x.2.2≤cur.size
theorem Ml.same {w w':Ag} {x:SkR} (h:Ml w x) (hb:∀g∈Ey x,w'.heap[g]? =w.heap[g]?):Ml w' x:=fun g hg=>by
 obtain⟨cur,h1,h2⟩:=h g hg;exact⟨cur,(hb g (by unfold Ey;rw[hg];simp)).trans h1,h2⟩
theorem Ml.clip {O:Nat} {w:Ag} {c:Cl} {l:List Nat} {A:Option Addr} (h:Ec w O 3 1 A l.length (Cz l)):Ml w (⟨c,l⟩,(A,l.length)):=fun g hg=>by
 rcases h.2 with⟨rfl,_⟩|⟨g',cur,rfl,r2,r3,r4,-⟩
 ·cases hg
 ·obtain rfl:g'=g:=by simpa using hg
  exact⟨cur,r3,by simpa using r4⟩
theorem Sg (a b:List Nat):Cz (a++b)=Cz a++Cz b:=by simp[Cz]
theorem oQ {w:Ag} {O:Nat} {x:SkR} (hx:Gx O w x) (hc:Ml w x) (hO:O≤w.heap.size) (hne:0<x.1.ls.length) (a:Addr) (m cm:Nat) (ys:List Nat) (hl:ys.length=m) (hr:Rd w (some a) 1 m (Cz ys)) (hm:x.1.ls.length+m≤1000000):
  ∃A' c' w',(Builtin.append_ #[61,61] 61 #[Ad x.2.1 x.1.ls.length x.2.2,Ad (some a) m cm]).run Tryz.prog w= .ok (Ad A' (x.1.ls.length+m) c') w'∧
   Gx O w' (⟨x.1.c,x.1.ls++ys⟩,(A',c'))∧Ml w' (⟨x.1.c,x.1.ls++ys⟩,(A',c'))∧w.grownBy w' (x.2.1.map (·.block))∧(A'.map (·.block)=x.2.1.map (·.block)∨A'.map (·.block)=some w.heap.size):=by
 obtain⟨i,hi,hz,hs,hb⟩:=info_parts Qk;obtain⟨⟨c,l⟩,A,cap⟩:=x;obtain⟨h1,h2,h3,h4,h5⟩:=hx;dsimp only at h1 h2 h3 h4 h5 hne hm⊢;rcases h5 with⟨-,h0⟩|⟨g,cur,rfl,r2,r3,r4,r5⟩
 ·omega
 obtain⟨cur',r3',r6⟩:=hc g rfl;rw[r3]at r3';obtain rfl:cur=cur':=by simpa using r3'
 dsimp only at r6;rw[Nat.mul_one]at r4 r5;have hil:(Cz ys).length=m*i.size:=by rw[hs,Fv,hl,Nat.mul_one]
 have hia:(Cz (l++ys)).length=(l.length+m)*1:=by rw[Fv,Be,hl,Nat.mul_one]
 by_cases hroom:l.length+m≤cap
 ·have hrun:=run_append_room (P:=Tryz.prog) w 61 61 3 i Tryz.underlying61 hi g l.length cap cur r3 a m cm (Cz ys) hil hr.allK (Qj ys) hroom (by rw[hs,Fv,hl];omega);rw[hs,Nat.mul_one,Fv,hl]at hrun;refine⟨_,_,_,hrun,⟨.inr ⟨g,0,rfl⟩,?_,h3,?_,.inr ⟨g,_,rfl,r2,setRow_heap w g cur _ 3 _ r3,?_,?_⟩⟩,?_,⟨rfl,rfl,rfl,by simp,fun k _ hk=>setRow_other w g k _ (fun e=>hk (by simp[e]))⟩,.inl rfl⟩
  ·simp[hl];exact hroom
  ·simpa[hl]using hia
  ·simp[Fv,hl];omega
  ·have e:(l++ys).length*1=(cur.toList.take l.length++Cz ys).length:=by simp[Fv,hl];omega
   rw[Sg,e,←r5];exact List.take_left
  ·intro g' hg';obtain rfl:g=g':=by simpa using hg'
   exact⟨_,setRow_heap w g cur _ 3 _ r3,by simp[Fv,hl];omega⟩
 ·have holds:∀j v,(Cz l)[j]? =some v→w.cell? ((⟨g,0,none⟩:Addr).add j)=some v:=fun j v hj=>by
   have hadd:(⟨g,0,none⟩:Addr).add j=⟨g,j,none⟩:=by unfold Addr.add;split<;>simp_all
   rw[hadd,Bs w g j cur 3 (0,0) r3];rw[←r5,List.getElem?_take]at hj
   split at hj
   ·simpa using hj
   ·cases hj
  have hrun:=run_append_grow (P:=Tryz.prog) w 61 61 3 i _ Tryz.underlying61 hi hz ⟨g,0,none⟩ l.length cap (Cz l) (by rw[hs,Fv,Nat.mul_one]) holds a m cm (Cz ys) hil hr.allK (by omega) (by omega) (growslice_fits (by omega) (by rw[hb];omega));have hge:=grownCap_ge w (l.length+m) cap 3;have hcm:=grownCap_le_maxLen w (l.length+m) cap 3 (by simp[maxLen];omega);obtain⟨C,hC⟩:=ey (grownCap w (l.length+m) cap 3);rw[hC]at hrun hge hcm
  have hsz:((Cz l).toArray++(Cz ys).toArray++Builtin.zeroCells (Value.int .i64 0).cells (C-(l.length+m))).size=C:=by
   rw[Array.size_append,Array.size_append,size_zeroCells];simp[Fv,hl,Value.cells];omega
  refine⟨_,_,_,hrun,⟨.inr ⟨_,0,rfl⟩,?_,hcm,?_,.inr ⟨_,_,rfl,hO,Bt w.drew _,?_,?_⟩⟩,?_,⟨rfl,rfl,rfl,by simp,fun k hk _=>Below.heap_alloc w.drew _ k hk⟩,.inr rfl⟩
  ·simp[hl];exact hge
  ·simpa[hl]using hia
  ·rw[hsz];simp[hl];exact hge
  ·have e:(l++ys).length*1=(Cz l++Cz ys).length:=by simp[Fv,hl]
   simp only[Array.toList_append,Bg];rw[←Bg,e,←Sg];exact List.take_left
  ·intro g' hg';obtain rfl:w.heap.size=g':=by simpa using hg'
   exact⟨_,Bt w.drew _,by rw[hsz];exact Aj _⟩
end Go.Proofs.YteoffhpfcgffcaaGreatDoor
namespace Go.Proofs
open Go.Shelf Go.RowKit
def Tryz.laysSortCl_ren:Go.Shelf.Ren:=⟨fun|6=>191|15=>138|14=>254|28=>207|29=>208|20=>326|21=>327|22=>328|23=>329|24=>330|25=>331|26=>332|27=>333|46=>353|47=>262|48=>263|49=>354|50=>355|57=>365|n=>n,fun|22=>118|24=>123|25=>179|3=>3|39=>261|0=>0|53=>336|55=>338|4=>4|46=>330|45=>329|50=>176|5=>5|9=>9|66=>395|70=>399|76=>442|77=>197|n=>n,fun|n=>n⟩
open Tryz in
theorem Tryz.laysSortCl:Go.Proofs.SlLaysF0.n6 Tryz.prog Tryz.laysSortCl_ren:={
 mixed:=by kernel_rfl,f6:=lyb func191,f14:=lyb func254,f15:=lyf func138,f20:=lyb func326,f21:=lyb func327,f22:=lyb func328,f23:=lyb func329,f24:=lyb func330,f25:=lyb func331,f26:=lyb func332,f27:=lyb func333,f28:=lyf func207,f29:=lyf func208,f46:=lyb func353,f47:=lyf func262,f48:=lyf func263,f49:=lyb func354,f50:=lyb func355,f57:=lyb func365,t0:=underlying0,a0:=isAgg0,z0:=sizeOf0,v0:=zeroValue0,t3:=underlying3,a3:=isAgg3,z3:=sizeOf3,v3:=zeroValue3,t4:=underlying4,a4:=isAgg4,z4:=sizeOf4,v4:=zeroValue4,t5:=underlying5,a5:=isAgg5,z5:=sizeOf5,v5:=zeroValue5,t9:=underlying9,a9:=isAgg9,z9:=sizeOf9,v9:=zeroValue9,t22:=underlying118,a22:=isAgg118,z22:=sizeOf118,v22:=zeroValue118,t25:=underlying179,a25:=isAgg179,z25:=sizeOf179,v25:=zeroValue179,t39:=underlying261,a39:=isAgg261,z39:=sizeOf261,v39:=zeroValue261,t45:=underlying329,a45:=isAgg329,z45:=sizeOf329,v45:=zeroValue329,t46:=underlying330,a46:=isAgg330,z46:=sizeOf330,v46:=zeroValue330,t50:=underlying176,a50:=isAgg176,z50:=sizeOf176,v50:=zeroValue176,t53:=underlying336,a53:=isAgg336,z53:=sizeOf336,v53:=zeroValue336,t55:=underlying338,a55:=isAgg338,z55:=sizeOf338,v55:=zeroValue338,t66:=underlying395,a66:=isAgg395,z66:=sizeOf395,v66:=zeroValue395,t70:=underlying399,a70:=isAgg399,z70:=sizeOf399,v70:=zeroValue399,t76:=underlying442,a76:=isAgg442,z76:=sizeOf442,v76:=zeroValue442,t77:=underlying197,a77:=isAgg197,z77:=sizeOf197,v77:=zeroValue197}
end Go.Proofs
namespace Go.Proofs.YteoffhpfcgffcaaGreatDoor
open Go.RowKit Go.Sort
abbrev ClE:={c:Cl//c.q≤255}
instance:Inhabited ClE:=⟨⟨cl0,by decide⟩⟩
def clI (x:ClE):List Ah:=x.1.cells
def pG (x y:ClE):Int:=Fg x.1 y.1
theorem rI (x y:ClE):ltOf pG x y=decide (Fg x.1 y.1<0):=rfl
theorem Aj3:SWO (ltOf pG) where
 irrefl x:=by rw[rI,decide_eq_false_iff_not,Dx];omega
 trans x y z h1 h2:=by rw[rI,decide_eq_true_iff,Dx]at*;omega
 ntrans x y z h1 h2:=by rw[rI,decide_eq_false_iff_not,Dx]at*;omega
theorem wI (w:Ag):(isAgg 123).run Tryz.prog w= .ok true w:=by kernel_rfl
theorem Ac8 (w:Ag):(Go.sizeOf 123).run Tryz.prog w= .ok 3 w:=by kernel_rfl
theorem gC {O m c:Nat} {B:Option Addr} (l:List ClE) (w:Ag) (h:w.ownsRow O 123 3 (Ad B m c) m (l.flatMap clI)) (hm:m≤1000000):
  Ai Tryz.prog 191 #[Ad B m c,.func (.func 81) #[] #[]] w (Fi clI pG l O 123 3 m (Ad B m c) w):=
 Iu Tryz.laysSortCl 3 (by decide) wI Ac8 clI (fun _=>rfl) (fun x v hv=>by
  simp[clI,Cl.cells]at hv;rcases hv with rfl|rfl|rfl<;>rfl) pG Aj3 81 #[] (enters_of Tryz.func81 (by kernel_rfl) rfl) l w h hm (fun W' _ x y=>Kc x.1 y.1 W' x.2 y.2)
theorem pI:∀(l:List Cl),(∀c∈l,c.q≤255)→∃L:List ClE,L.map (·.1)=l
 |[],_=>⟨[],rfl⟩
 |c::r,h=>by
  obtain⟨L,e⟩:=pI r fun x hx=>h x (by simp[hx]);exact⟨⟨c,h c (by simp)⟩::L,by simp[e]⟩
theorem pH (L:List ClE):L.flatMap clI=Ej (L.map (·.1)):=by
 unfold Ej;rw[List.flatMap_map];rfl
theorem gB {O m c:Nat} {B:Option Addr} (l:List Cl) (w:Ag) (h:w.ownsRow O 123 3 (Ad B m c) m (Ej l)) (hm:m≤1000000) (hq:∀x∈l,x.q≤255) (hs:l.Pairwise fun x y=>Fg x y<0):
  Ai Tryz.prog 191 #[Ad B m c,.func (.func 81) #[] #[]] w (fun e w'=>e= .returned (.tuple #[])∧w'.ownsRow O 123 3 (Ad B m c) m (Ej l)∧w.grownBy w' (Value.ownBlock (Ad B m c))):=by
 obtain⟨L,rfl⟩:=pI l hq;rw[←pH]at h⊢;refine(gC L w h hm).mono ?_;rintro e w' ⟨rfl,l',hp,hs',ho,hg⟩;rw[List.pairwise_map]at hs
 have e1:l'=L:=by
  refine Lw (fun p q=>ltOf pG q p=false) l' L hp hs' (hs.imp fun{p q} h=>?_) fun a _ b _ h1 h2=>?_
  ·rw[rI,decide_eq_false_iff_not,Dx];rw[Dx]at h;omega
  ·rw[rI,decide_eq_false_iff_not,Dx]at h1 h2;obtain⟨⟨a0,a1,a2⟩,ha⟩:=a;obtain⟨⟨b0,b1,b2⟩,hb⟩:=b;dsimp only at h1 h2;have e0:a0=b0:=by omega
   have e1:a1=b1:=by omega
   have e2:a2=b2:=by omega
   subst e0 e1 e2;rfl
 subst e1;exact⟨rfl,ho,hg⟩
end Go.Proofs.YteoffhpfcgffcaaGreatDoor
namespace Go.Proofs.YteoffhpfcgffcaaGreatDoor
open Go.RowKit
def SmB.key (x:SmB):Cl×Cl:=(x.s.a,x.s.b)
def SmB.ptr (x:SmB):Ah:= .pointer (some ⟨x.p,0,none⟩)
def Hk (l:List SmB):List ((Cl×Cl)×Ah):=l.map fun x=>(x.key,x.ptr)
theorem Am1 (p:Cl×Cl) (l:List SmB) (n:Nat):Il p (Hk l) n=((l.findIdx? fun x=>decide (p=x.key)).bind fun i=>l[i]?.map fun x=>(n+i,x.ptr)):=by
 induction l generalizing n with
 |nil=>rfl
 |cons x r ih=>
  unfold Hk at ih⊢;simp only[List.map_cons,Il,List.findIdx?_cons];by_cases h:p=x.key
  ·simp[h]
  ·simp only[h,if_false,decide_false,ih (n+1)]
   cases hf:r.findIdx? fun x=>decide (p=x.key)with
   |none=>simp
   |some i=>simp[Nat.add_assoc,Nat.add_comm 1 i]
theorem dY (p:Cl×Cl) (l:List SmB):(∃l1 x l2,l=l1++x::l2∧x.key=p∧Ht p (Hk l)=some x.ptr∧∀y∈l1,y.key≠p)∨(p∉l.map SmB.key∧Ht p (Hk l)=none):=by
 induction l with
 |nil=>exact .inr ⟨by simp,rfl⟩
 |cons x r ih=>
  have e:Ht p (Hk (x::r))=if p=x.key then some x.ptr else Ht p (Hk r):=Jw p (x.key,x.ptr) (Hk r);by_cases h:p=x.key
  ·exact .inl ⟨[],x,r,rfl,h.symm,by rw[e,if_pos h],by simp⟩
  ·rw[if_neg h]at e;rcases ih with⟨l1,y,l2,rfl,h1,h2,h3⟩|⟨h1,h2⟩
   ·exact .inl ⟨x::l1,y,l2,rfl,h1,e.trans h2,fun z hz=>(Bh.1 hz).elim (fun e=>e▸Ne.symm h) (h3 z)⟩
   ·exact .inr ⟨by simp only[List.map_cons,Bh,not_or];exact⟨h,h1⟩,e.trans h2⟩
theorem sO (p:Cl×Cl) (v:Ah) (l:List SmB) (h:p∉l.map SmB.key):Kl p v (Hk l)=Hk l++[(p,v)]:=by
 rcases dY p l with⟨l1,x,l2,rfl,h1,_⟩|⟨_,h2⟩
 ·exact absurd (by simp[←h1]) h
 ·unfold Ht at h2;unfold Kl
  cases hi:Il p (Hk l) 0 with
  |none=>rfl
  |some r=>rw[hi]at h2;simp at h2
theorem Nz (o:Option Nat):o.toList.Nodup:=by cases o<;>simp
def Ii (O:Nat) (w:Ag) (kv:Ah) (l:List SmB):Prop:=∃ks:List (Cl×Cl),ks.Perm (l.map SmB.key)∧w.ownsRow O 223 6 kv ks.length (ks.flatMap pkC)
theorem Ii.lt {O:Nat} {w:Ag} {kv:Ah} {l:List SmB} (h:Ii O w kv l):∀g,kv.ownBlock=some g→O≤g∧g<w.heap.size:=by
 obtain⟨ks,-,h⟩:=h;exact h.lt
theorem Ii.same {O:Nat} {w w':Ag} {kv:Ah} {l:List SmB} (h:Ii O w kv l) (hb:∀g,kv.ownBlock=some g→w'.heap[g]? =w.heap[g]?):Ii O w' kv l:=by
 obtain⟨ks,h1,h2⟩:=h;exact⟨ks,h1,Dj h2 hb⟩
theorem Ii.keys {O:Nat} {w:Ag} {kv:Ah} {l l':List SmB} (h:Ii O w kv l) (e:l'.map SmB.key=l.map SmB.key):Ii O w kv l':=by
 obtain⟨ks,h1,h2⟩:=h;exact⟨ks,e▸h1,h2⟩
def Ct (B M:Nat) (kv:Ah) (l:List SmB):List Nat:=B::M::(kv.ownBlock.toList++l.flatMap SmB.blks)
def Df (O B:Nat) (F:List Nat) (fix:List Ah) (w:Ag) (l:List SmB):Prop:=
 ∃M kv,fix.length=6∧w.heap[B]? =some (.cells (fix++[.map (some M),kv]).toArray 218 (0,0))∧Fa pkK w M (Hk l)∧Ii O w kv l∧Hx O w l∧
  (l.map SmB.key).Nodup∧(Ct B M kv l).Nodup∧O≤B∧O≤M∧∀g∈F,g<w.heap.size∧g∉Ct B M kv l
theorem Ge {B M:Nat} {w:Ag} {fix:List Ah} {kv:Ah} (hf:fix.length=6) (h:w.heap[B]? =some (.cells (fix++[.map (some M),kv]).toArray 218 (0,0))):
  w.cell? ⟨B,6,none⟩=some (.map (some M))∧w.cell? ⟨B,7,none⟩=some kv∧(∀j,w.frozen? ⟨B,j,none⟩=false)∧(∀kv',(w.setCell ⟨B,7,none⟩ kv').heap[B]? =some (.cells (fix++[.map (some M),kv']).toArray 218 (0,0)))∧∀(j:Nat) (v:Ah),fix[j]? =some v→w.cell? ⟨B,j,none⟩=some v:=by
 have hc:=fun j=>Bs w B j _ _ (0,0) h;refine⟨?_,?_,fun j=>by simp[World.frozen?,h],fun kv'=>?_,fun j v hv=>?_⟩
 ·rw[hc];simp[hf]
 ·rw[hc];simp[hf]
 ·rw[Ek _ h]
  congr 2
  apply Array.ext';simp[hf]
 ·rw[hc];have hj:=(As.1 hv).1;simp[List.getElem?_append_left hj,hv]
def Frm (O:Nat) (F:List Nat) (w w':Ag):Prop:=Below O w w'∧∀g∈F,w'.heap[g]? =w.heap[g]?
theorem Frm.trans {O:Nat} {F:List Nat} {a b c:Ag} (h:Frm O F a b) (k:Frm O F b c):Frm O F a c:=⟨h.1.trans k.1,fun g hg=>(k.2 g hg).trans (h.2 g hg)⟩
theorem SmB.ok.lt {O:Nat} {w:Ag} {x:SmB} (h:x.ok O w):∀g∈x.blks,O≤g∧g<w.heap.size:=by
 obtain⟨h0,h1,h2,h3,h4⟩:=h;intro g hg;unfold SmB.blks at hg;simp only[Bh,Bi,Option.mem_toList]at hg;rcases hg with rfl|(hg|hg)|hg
 ·exact⟨h0,(Aq.1 h1).1⟩
 ·exact h2.lt g hg
 ·exact h3.lt g hg
 ·exact h4.lt g hg
theorem Hx.lt {O:Nat} {w:Ag} {l:List SmB} (h:Hx O w l):∀g∈l.flatMap SmB.blks,O≤g∧g<w.heap.size:=fun g hg=>by
 obtain⟨x,hx,hg⟩:=List.mem_flatMap.1 hg;exact(h.1 x hx).lt g hg
theorem Rh {O B M:Nat} {w:Ag} {kv:Ah} {l:List SmB} {c:Array Ah} {t:TypeId} (h1:w.heap[B]? =some (.cells c t (0,0))) (h2:Fa pkK w M (Hk l)) (h3:Ii O w kv l) (h4:Hx O w l) (hB:O≤B) (hM:O≤M):
  ∀g∈Ct B M kv l,O≤g∧g<w.heap.size:=fun g hg=>by
 unfold Ct at hg;simp only[Bh,Bi,Option.mem_toList]at hg;rcases hg with rfl|rfl|hg|hg
 ·exact⟨hB,(Aq.1 h1).1⟩
 ·exact⟨hM,h2.lt⟩
 ·exact h3.lt g hg
 ·exact h4.lt g hg
theorem Df.below {O B:Nat} {F:List Nat} {fix:List Ah} {w w':Ag} {l:List SmB} (h:Df O B F fix w l) (hb:Below w.heap.size w w'):Df O B F fix w' l:=by
 obtain⟨M,kv,h1,h2,h3,h4,h5,h6,h7,h8,h9,h10⟩:=h;exact⟨M,kv,h1,kept hb h2 (Aq.1 h2).1,h3.below hb h3.lt,h4.same fun g hg=>hb.block g (h4.lt g hg).2,h5.same fun g hg=>hb.block g (h5.lt g hg).2,h6,h7,h8,h9,fun g hg=>⟨Bm (h10 g hg).1 hb.size,(h10 g hg).2⟩⟩
theorem Df.frm {O B:Nat} {F:List Nat} {fix:List Ah} {w w':Ag} {l:List SmB} (h:Df O B F fix w l) (hb:Below w.heap.size w w'):Frm O F w w':=by
 obtain⟨M,kv,h1,h2,h3,h4,h5,h6,h7,h8,h9,h10⟩:=h;exact⟨hb.mono (by have:=(Aq.1 h2).1;omega),fun g hg=>hb.block g (h10 g hg).1⟩
theorem oV {O B M:Nat} {F:List Nat} {fix:List Ah} {w w':Ag} {l:List SmB} {kv kv':Ah} {y:SmB} (hfl:fix.length=6) (hms:Hx O w l) (hk:(l.map SmB.key).Nodup) (hnd:(Ct B M kv l).Nodup) (hOB:O≤B) (hOM:O≤M)
  (hF:∀g∈F,g<w.heap.size∧g∉Ct B M kv l) (hlt:∀g∈Ct B M kv l,O≤g∧g<w.heap.size)
  (hB':w'.heap[B]? =some (.cells (fix++[.map (some M),kv']).toArray 218 (0,0))) (hM':Fa pkK w' M (Hk (l++[y]))) (ho':Ii O w' kv' (l++[y])) (hy:y.ok O w') (hnew:y.key∉l.map SmB.key)
  (hkv:kv'.ownBlock=kv.ownBlock∨∃g,kv'.ownBlock=some g∧w.heap.size≤g) (hyb:y.blks.Nodup) (hyf:∀g∈y.blks,w.heap.size≤g∧kv'.ownBlock≠some g)
  (hs:∀g,g<w.heap.size→g≠B→g≠M→kv.ownBlock≠some g→w'.heap[g]? =w.heap[g]?) (hsz:w.heap.size≤w'.heap.size):
  Df O B F fix w' (l++[y])∧∀g∈F,w'.heap[g]? =w.heap[g]? :=by
 have hnd0:=hnd;unfold Ct at hnd;simp only[List.nodup_cons,Bl,Bh,Bi,Option.mem_toList,not_or]at hnd;obtain⟨⟨b1,b2,b3⟩,⟨m1,m2⟩,k1,k2,k3⟩:=hnd;have hsame:∀g∈l.flatMap SmB.blks,w'.heap[g]? =w.heap[g]? :=fun g hg=>hs g (hms.lt g hg).2 (fun e=>b3 (e▸hg)) (fun e=>m2 (e▸hg)) fun e=>k3 g e g hg rfl;have hms':Hx O w' (l++[y]):=hms.snoc hy hsame hyb fun g hg h=>by have:=(hms.lt g h).2;have:=(hyf g hg).1;omega
 have hkn:∀g,kv'.ownBlock=some g→g≠B∧g≠M∧g∉l.flatMap SmB.blks:=by
  intro g hg;rcases hkv with h|⟨g',h,h'⟩
  ·rw[h]at hg;exact⟨fun e=>b2 (e▸hg),fun e=>m1 (e▸hg),fun h=>k3 g hg g h rfl⟩
  ·obtain rfl:g'=g:=by rw[h]at hg;injection hg
   refine⟨?_,?_,fun h=>?_⟩
   ·rintro rfl;have:=(hlt g' (by simp[Ct])).2;omega
   ·rintro rfl;have:=(hlt g' (by simp[Ct])).2;omega
   ·have:=(hms.lt g' h).2;omega
 have hmem:∀g,g∈Ct B M kv' (l++[y])→g∈Ct B M kv l∨w.heap.size≤g:=by
  intro g hg;unfold Ct at hg⊢;simp only[Bh,Bi,Option.mem_toList,Bf,Ba,List.flatMap_nil,List.append_nil]at hg⊢;rcases hg with hg|hg|hg|hg|hg
  ·exact .inl (.inl hg)
  ·exact .inl (.inr (.inl hg))
  ·rcases hkv with h|⟨g',h,h'⟩
   ·exact .inl (.inr (.inr (.inl (h▸hg))))
   ·rw[h]at hg;injection hg with hg;exact .inr (hg▸h')
  ·exact .inl (.inr (.inr (.inr hg)))
  ·exact .inr (hyf g hg).1
 refine⟨⟨M,kv',hfl,hB',hM',ho',hms',?_,?_,hOB,hOM,fun g hg=>⟨Bm (hF g hg).1 hsz,fun h=>?_⟩⟩,fun g hg=>?_⟩
 ·rw[List.map_append,Bl];exact⟨hk,by simp,fun a ha b hb e=>hnew (by(obtain rfl:b=y.key:=by simpa using hb);exact e▸ha)⟩
 ·have e:(l++[y]).flatMap SmB.blks=l.flatMap SmB.blks++y.blks:=by simp
  unfold Ct;simp only[List.nodup_cons,Bl,Bh,Bi,Option.mem_toList,not_or,e];have hyB:∀g∈Ct B M kv l,g∉y.blks:=fun g hg h=>by have:=(hlt g hg).2;have:=(hyf g h).1;omega
  refine⟨⟨b1,fun h=>(hkn B h).1 rfl,b3,hyB B (by simp[Ct])⟩,⟨fun h=>(hkn M h).2.1 rfl,m2,hyB M (by simp[Ct])⟩,Nz _,⟨k2,hyb,fun a ha b hb e=>?_⟩,fun a ha b hb e=>?_⟩
  ·subst e;exact hyB a (by simp only[Ct,Bh,Bi];exact .inr (.inr (.inr ha))) hb
  ·subst e;rcases hb with hb|hb
   ·exact(hkn a ha).2.2 hb
   ·exact(hyf a hb).2 ha
 ·rcases hmem g h with h|h
  ·exact(hF g hg).2 h
  ·have:=(hF g hg).1;omega
 ·obtain⟨h1,h2⟩:=hF g hg;unfold Ct at h2;simp only[Bh,Bi,Option.mem_toList,not_or]at h2;exact hs g h1 h2.1 h2.2.1 h2.2.2.1
def jA (x y:Cl):Cl×Cl:=if 0<Fg x y then (y,x)else (x,y)
def zD (O B:Nat) (F:List Nat) (fix:List Ah) (k:Cl×Cl) (l:List SmB) (w:Ag) (e:Ending) (w':Ag):Prop:=
 ∃l1 x l2,e= .returned x.ptr∧x.key=k∧(l=l1++x::l2∨(l=l1∧l2=[]∧k∉l.map SmB.key∧x.s=Sm.none k.1 k.2))∧Df O B F fix w' (l1++x::l2)∧Frm O F w w'
theorem nU {a b:Cl} {f:Sm→Sm} {l:List Sm} (h:∀s∈l,¬(s.a=a∧s.b=b)):Vj a b f l=l++[f (Sm.none a b)]:=by
 induction l with
 |nil=>rfl
 |cons s r ih=>simp[Vj,h s (by simp),ih fun t ht=>h t (by simp[ht])]
theorem nV {a b:Cl} {f:Sm→Sm} {l1 l2:List Sm} {s:Sm} (h:∀s∈l1,¬(s.a=a∧s.b=b)) (hs:s.a=a∧s.b=b):Vj a b f (l1++s::l2)=l1++f s::l2:=by
 induction l1 with
 |nil=>simp[Vj,hs]
 |cons t r ih=>simp[Vj,h t (by simp),ih fun u hu=>h u (by simp[hu])]
theorem Df.change {O B:Nat} {F:List Nat} {fix:List Ah} {w w':Ag} {l1 l2:List SmB} {x y:SmB} (h:Df O B F fix w (l1++x::l2)) (hy:y.ok O w') (hp:y.p=x.p) (hkey:y.key=x.key) (hyb:y.blks.Nodup)
  (hyf:∀g∈y.blks,g∈x.blks∨w.heap.size≤g) (hs:∀g,g<w.heap.size→g∉x.blks→w'.heap[g]? =w.heap[g]?) (hsz:w.heap.size≤w'.heap.size):Df O B F fix w' (l1++y::l2)∧∀g∈F,w'.heap[g]? =w.heap[g]? :=by
 obtain⟨M,kv,h1,h2,h3,h4,h5,h6,h7,h8,h9,h10⟩:=h;have hlt:=Rh h2 h3 h4 h5 h8 h9;have hB:B<w.heap.size:=(Aq.1 h2).1;have hmp:Hk (l1++y::l2)=Hk (l1++x::l2):=by simp[Hk,hkey,SmB.ptr,hp]
 have hks:(l1++y::l2).map SmB.key=(l1++x::l2).map SmB.key:=by simp[hkey]
 have hnd:=h7;unfold Ct at hnd;simp only[List.nodup_cons,Bl,Bh,Bi,Option.mem_toList,not_or,Bf,Ba]at hnd;obtain⟨⟨b1,b2,b3,b4,b5⟩,⟨m1,m2,m3,m4⟩,k1,⟨k2,⟨k3,k4,k5⟩,k6⟩,k7⟩:=hnd
 have hms:Hx O w' (l1++y::l2):=by
  refine h5.change hy (fun g hg=>?_) hyb fun g hg=>?_
  ·have hg':g∈(l1++x::l2).flatMap SmB.blks:=by
    simp only[Bf,Ba,Bi]at hg⊢;rcases hg with hg|hg
    ·exact .inl hg
    ·exact .inr (.inr hg)
   refine hs g (h5.lt g hg').2 fun hx=>?_;rcases Bi.1 hg with hg|hg
   ·exact k6 g hg g (.inl hx) rfl
   ·exact k5 g hx g hg rfl
  ·rcases hyf g hg with h|h
   ·exact .inl h
   ·refine .inr fun hg=>?_
    have hg':g∈(l1++x::l2).flatMap SmB.blks:=by
     simp only[Bf,Ba,Bi]at hg⊢;rcases hg with hg|hg
     ·exact .inl hg
     ·exact .inr (.inr hg)
    have:=(h5.lt g hg').2;omega
 have hmem:∀g,g∈Ct B M kv (l1++y::l2)→g∈Ct B M kv (l1++x::l2)∨w.heap.size≤g:=by
  intro g hg;unfold Ct at hg⊢;simp only[Bh,Bi,Option.mem_toList,Bf,Ba]at hg⊢;rcases hg with hg|hg|hg|hg|hg|hg
  ·exact .inl (.inl hg)
  ·exact .inl (.inr (.inl hg))
  ·exact .inl (.inr (.inr (.inl hg)))
  ·exact .inl (.inr (.inr (.inr (.inl hg))))
  ·rcases hyf g hg with h|h
   ·exact .inl (.inr (.inr (.inr (.inr (.inl h)))))
   ·exact .inr h
  ·exact .inl (.inr (.inr (.inr (.inr (.inr hg)))))
 have hMb:w'.heap[M]? =w.heap[M]? :=hs M h3.lt m3;refine⟨⟨M,kv,h1,(hs B hB b4).trans h2,?_,?_,hms,hks▸h6,?_,h8,h9,fun g hg=>⟨Bm (h10 g hg).1 hsz,fun h=>?_⟩⟩,fun g hg=>?_⟩
 ·rw[hmp];obtain⟨es,clock,e1,e2⟩:=h3;exact⟨es,clock,hMb.trans e1,e2⟩
 ·exact(h4.same fun g hg=>hs g (h4.lt g hg).2 fun hx=>k7 g hg g (.inr (.inl hx)) rfl).keys hks
 ·have hyn:∀g,g∈y.blks→g≠B∧g≠M∧kv.ownBlock≠some g:=fun g hg=>by
   rcases hyf g hg with h|h
   ·exact⟨fun e=>b4 (e▸h),fun e=>m3 (e▸h),fun e=>k7 g e g (.inr (.inl h)) rfl⟩
   ·refine⟨fun e=>by omega,fun e=>by have:=h3.lt;omega,fun e=>by have:=(h4.lt g e).2;omega⟩
  unfold Ct;simp only[List.nodup_cons,Bh,Bi,Option.mem_toList,not_or,Bf,Ba];refine⟨⟨b1,b2,b3,fun h=>(hyn B h).1 rfl,b5⟩,⟨m1,m2,fun h=>(hyn M h).2.1 rfl,m4⟩,?_⟩;have hn:=hms.2;simp only[Bf,Ba]at hn;rw[Bl];refine⟨k1,hn,fun u hu v hv e=>?_⟩;subst e;have hu':=Option.mem_toList.1 hu;simp only[Bi]at hv;rcases hv with hv|hv|hv
  ·exact k7 u hu' u (.inl hv) rfl
  ·exact(hyn u hv).2.2 hu'
  ·exact k7 u hu' u (.inr (.inr hv)) rfl
 ·rcases hmem g h with h|h
  ·exact(h10 g hg).2 h
  ·have:=(h10 g hg).1;omega
 ·refine hs g (h10 g hg).1 fun hx=>(h10 g hg).2 ?_;unfold Ct;simp only[Bh,Bi,Option.mem_toList,Bf,Ba];exact .inr (.inr (.inr (.inr (.inl hx))))
theorem vL {x:SmB} {s:Sm} {v:Ah} {N:Nat} (hn:x.blks.Nodup) (hl:∀g∈x.blks,g<N) (hv:v.ownBlock=x.ve.ownBlock∨∃g,v.ownBlock=some g∧N≤g):(⟨s,x.p,x.vp,x.vl,v⟩:SmB).blks.Nodup∧∀g∈(⟨s,x.p,x.vp,x.vl,v⟩:SmB).blks,g∈x.blks∨N≤g:=by
 unfold SmB.blks at hn hl⊢;rcases hv with hv|⟨g,hv,hg⟩
 ·simp only[hv];exact⟨hn,fun g hg=> .inl hg⟩
 ·simp only[hv,List.nodup_cons,Bl,Bh,Bi,Option.mem_toList,Option.some.injEq,not_or]at hn hl⊢;obtain⟨⟨a1,a2⟩,⟨c1,c2,c3⟩,c4,c5⟩:=hn;refine⟨⟨⟨a1,fun e=>by have:=hl x.p (.inl rfl);omega⟩,⟨c1,c2,c3⟩,Nz _,fun u hu v hv e=>by have:=hl u (.inr (.inl hu));omega⟩,fun u hu=>?_⟩;rcases hu with hu|hu|hu
  ·exact .inl (.inl hu)
  ·exact .inl (.inr (.inl hu))
  ·exact .inr (hu▸hg)
theorem vM {x:SmB} {s:Sm} {v:Ah} {N:Nat} (hn:x.blks.Nodup) (hl:∀g∈x.blks,g<N) (hv:v.ownBlock=x.vl.ownBlock∨∃g,v.ownBlock=some g∧N≤g):(⟨s,x.p,x.vp,v,x.ve⟩:SmB).blks.Nodup∧∀g∈(⟨s,x.p,x.vp,v,x.ve⟩:SmB).blks,g∈x.blks∨N≤g:=by
 unfold SmB.blks at hn hl⊢;rcases hv with hv|⟨g,hv,hg⟩
 ·simp only[hv];exact⟨hn,fun g hg=> .inl hg⟩
 ·simp only[hv,List.nodup_cons,Bl,Bh,Bi,Option.mem_toList,Option.some.injEq,not_or]at hn hl⊢;obtain⟨⟨⟨a1,a2⟩,a3⟩,⟨c1,c2,c3⟩,c4,c5⟩:=hn;refine⟨⟨⟨⟨a1,fun e=>by have:=hl x.p (.inl rfl);omega⟩,a3⟩,⟨c1,Nz _,fun u hu v hv e=>by have:=hl u (.inr (.inl (.inl hu)));omega⟩,c4,fun u hu v hv e=>?_⟩,fun u hu=>?_⟩
  ·rcases hu with hu|hu
   ·exact c5 u (.inl hu) v hv e
   ·have:=hl v (.inr (.inr hv));omega
  ·rcases hu with hu|(hu|hu)|hu
   ·exact .inl (.inl hu)
   ·exact .inl (.inr (.inl (.inl hu)))
   ·exact .inr (hu▸hg)
   ·exact .inl (.inr (.inr hu))
theorem vN {x:SmB} {s:Sm} {v:Ah} {N:Nat} (hn:x.blks.Nodup) (hl:∀g∈x.blks,g<N) (hv:v.ownBlock=x.vp.ownBlock∨∃g,v.ownBlock=some g∧N≤g):(⟨s,x.p,v,x.vl,x.ve⟩:SmB).blks.Nodup∧∀g∈(⟨s,x.p,v,x.vl,x.ve⟩:SmB).blks,g∈x.blks∨N≤g:=by
 unfold SmB.blks at hn hl⊢;rcases hv with hv|⟨g,hv,hg⟩
 ·simp only[hv];exact⟨hn,fun g hg=> .inl hg⟩
 ·simp only[hv,List.nodup_cons,Bl,Bh,Bi,Option.mem_toList,Option.some.injEq,not_or]at hn hl⊢;obtain⟨⟨⟨a1,a2⟩,a3⟩,⟨c1,c2,c3⟩,c4,c5⟩:=hn;refine⟨⟨⟨⟨fun e=>by have:=hl x.p (.inl rfl);omega,a2⟩,a3⟩,⟨Nz _,c2,fun u hu v hv e=>by have:=hl v (.inr (.inl (.inr hv)));omega⟩,c4,fun u hu v hv e=>?_⟩,fun u hu=>?_⟩
  ·rcases hu with hu|hu
   ·have:=hl v (.inr (.inr hv));omega
   ·exact c5 u (.inr hu) v hv e
  ·rcases hu with hu|(hu|hu)|hu
   ·exact .inl (.inl hu)
   ·exact .inr (hu▸hg)
   ·exact .inl (.inr (.inl (.inr hu)))
   ·exact .inl (.inr (.inr hu))
end Go.Proofs.YteoffhpfcgffcaaGreatDoor
namespace Go.Proofs.YteoffhpfcgffcaaGreatDoor
theorem qI {a b:Int} {id:Nat} (h:id<Cq a b):Oj a b id=true:=by
 unfold Cq at h;rw[Mw];omega
theorem oX {a b:Int} {id:Nat} (h:id<Cq a b):Mm a b id=((Da a id).x,(Da a id).y,((Da a id).q:Int),0):=by
 unfold Mm;rw[if_pos (qI h)];simp[Da]
theorem oY {a b:Int} {c:Nat} (hs:okS a b=true) (hh:c<Cq a b):0≤(Da a c).x∧(Da a c).x≤256∧0≤(Da a c).y∧(Da a c).y≤256∧(Da a c).q≤3:=by
 obtain⟨m1,m2,m3,m4,m5,m6⟩:=Me hs;obtain⟨i1,i2⟩:=Mw.1 (qI hh);have e0:4*a*b=4*(a*b):=Int.mul_assoc _ _ _;have d3:=Int.emod_nonneg ((c:Int)/4) (show a≠0 by omega);have d4:=Int.emod_lt_of_pos ((c:Int)/4) (show 0<a by omega);have d5:0≤(c:Int)/4/a:=Int.ediv_nonneg (by omega) (by omega);have d6:(c:Int)/4/a≤(c:Int)/4:=Int.ediv_le_self _ (by omega);unfold Da;dsimp only;refine⟨by omega,by omega,by omega,by omega,by omega⟩
theorem Ab4 {a b:Int} {id e:Nat} (hs:okS a b=true) (h:id<Cq a b) (he:e≤2):
  nbr (Da a id).x (Da a id).y (Da a id).q e=((Ha (Da a id) e).1.x,(Ha (Da a id) e).1.y,((Ha (Da a id) e).1.q:Int),0)∧(Ha (Da a id) e).1.ok=true:=by
 obtain⟨c1,c2,c3,c4,c5⟩:=oY hs h;obtain⟨n1,n2,n3,n4,n5,n6⟩:=fH (Da a id).q e;have ok0:okC (Da a id).x (Da a id).y (Da a id).q=true:=Er.2 ⟨by omega,by omega,by omega,by omega,by omega⟩;have ok1:okC ((Da a id).x+(nxt (Da a id).q e).1) ((Da a id).y+(nxt (Da a id).q e).2.1) (nxt (Da a id).q e).2.2=true:=Er.2 ⟨by omega,by omega,by omega,by omega,by omega⟩
 have hn:nbr (Da a id).x (Da a id).y (Da a id).q e=((Da a id).x+(nxt (Da a id).q e).1,(Da a id).y+(nxt (Da a id).q e).2.1,(nxt (Da a id).q e).2.2,0):=by
  unfold nbr;rw[if_neg (by rw[ok0];simp;omega)];simp only[Int.toNat_natCast,ok1,if_true]
 have hq:(((nxt (Da a id).q e).2.2.toNat:Nat):Int)=(nxt (Da a id).q e).2.2:=by omega
 unfold Ha;rw[hn];dsimp only;exact⟨by rw[hq],by unfold Cl.ok;dsimp only;rw[hq];exact ok1⟩
theorem jE (m:Mv) (c:Cl):(Gh m c).1.q≤3:=by
 unfold Gh
 split
 ·rename_i h;unfold Cl.ok at h;have:=(Er.1 h).2.2.2.2;dsimp only;omega
 ·decide
theorem xL {a b:Int} {id e:Nat} (h0:(nbI a b id e).2=0) (h1:(id:Int)≤(nbI a b id e).1):Fz a b id e=((id:Int),(e:Int),0):=by
 unfold Fz;rw[if_pos h0,Int.min_eq_left h1]
theorem Ib {a b:Int} (hs:okS a b=true):Cq a b≤1024:=by
 obtain⟨m1,m2,m3,m4,m5,m6⟩:=Me hs;have e0:4*a*b=4*(a*b):=Int.mul_assoc _ _ _;unfold Cq;omega
end Go.Proofs.YteoffhpfcgffcaaGreatDoor
namespace Go.Proofs.YteoffhpfcgffcaaGreatDoor
open Go.RowKit
theorem Ai4 {w:Ag} {A:Option Addr} {l:List Mv} {n:Nat} (h:Rd w A 3 n (Hu l)) (i:Nat) (hi:i<l.length):
  ∃b o,A=some ⟨b,o,none⟩∧b<w.heap.size∧w.cell? ⟨b,o+i*3,none⟩=some (Aa Ac l[i].t)∧w.cell? ⟨b,o+i*3+1,none⟩=some (Aa Ab l[i].x)∧w.cell? ⟨b,o+i*3+2,none⟩=some (Aa Ab l[i].y):=by
 have hl:=h.1;rw[Nb]at hl;obtain⟨b,o,e,hb,hc⟩:=h.2 (by omega);have hat:∀f,f<3→(Hu l)[i*3+f]? =(l[i].cells)[f]? :=fun f hf=>Dc Mv.cells 3 Hm _ i f hi hf;exact⟨b,o,e,hb,hc (i*3+0) _ ((hat 0 (by omega)).trans rfl),hc (i*3+1) _ ((hat 1 (by omega)).trans rfl),hc (i*3+2) _ ((hat 2 (by omega)).trans rfl)⟩
theorem Sj {w:Ag} {A:Option Addr} {l:List Cl} {n:Nat} (h:Rd w A 3 n (Ej l)) (i:Nat) (hi:i<l.length):
  ∃b o,A=some ⟨b,o,none⟩∧b<w.heap.size∧w.cell? ⟨b,o+i*3,none⟩=some (Aa Ab l[i].x)∧w.cell? ⟨b,o+i*3+1,none⟩=some (Aa Ab l[i].y)∧w.cell? ⟨b,o+i*3+2,none⟩=some (Aa Ac l[i].q):=by
 have hl:=h.1;rw[Gm]at hl;obtain⟨b,o,e,hb,hc⟩:=h.2 (by omega);have hat:∀f,f<3→(Ej l)[i*3+f]? =(l[i].cells)[f]? :=fun f hf=>Dc Cl.cells 3 Jc _ i f hi hf;exact⟨b,o,e,hb,hc (i*3+0) _ ((hat 0 (by omega)).trans rfl),hc (i*3+1) _ ((hat 1 (by omega)).trans rfl),hc (i*3+2) _ ((hat 2 (by omega)).trans rfl)⟩
structure cZ (k:Lk) (N:Nat):Prop where
 n:N=Cq k.a k.b
 ms:k.ms.length=N
 is:k.is.length=N
 hs:k.hs.length=N
 mok:∀m∈k.ms,m.ok=true
 cok:∀c∈k.is,c.ok=true
 pat:Fy k.a k.b k.cr
structure LkV where
 cA:Option Addr
 nc:Nat
 cc:Nat
 pA:Option Addr
 pc:Nat
 iA:Option Addr
 ic:Nat
 hA:Option Addr
 hc:Nat
def LkV.fix (v:LkV) (k:Lk) (N:Nat):List Ah:=[Aa Ab k.a,Aa Ab k.b,Ad v.cA v.nc v.cc,Ad v.pA N v.pc,Ad v.iA N v.ic,Ad v.hA N v.hc]
def Py (O:Nat) (F:List Nat) (w:Ag) (k:Lk) (N:Nat) (v:LkV):Prop:=
 ∀w',Frm O F w w'→v.nc=k.cr.length∧Rd w' v.cA 3 v.nc (crs k.cr)∧Rd w' v.pA 3 N (Hu k.ms)∧Rd w' v.iA 3 N (Ej k.is)∧Rd w' v.hA 1 N (Cz k.hs)∧Qf w'∧Tn w'
theorem Py.frm {O:Nat} {F:List Nat} {w w':Ag} {k:Lk} {N:Nat} {v:LkV} (h:Py O F w k N v) (hf:Frm O F w w'):Py O F w' k N v:=fun w2 h2=>h w2 (hf.trans h2)
theorem Frm.refl (O:Nat) (F:List Nat) (w:Ag):Frm O F w w:=⟨Below.refl _ _,fun _ _=>rfl⟩
def iB (O B:Nat) (F:List Nat) (fix:List Ah) (l':List Sm) (w:Ag) (e:Ending) (w':Ag):Prop:=
 e= .returned (.tuple #[])∧∃l2,l2.map (·.s)=l'∧Df O B F fix w' l2∧Frm O F w w'
theorem Df.keys {O B:Nat} {F:List Nat} {fix:List Ah} {w:Ag} {l:List SmB} (h:Df O B F fix w l):(l.map SmB.key).Nodup:=by
 obtain⟨M,kv,_,_,_,_,_,h6,_⟩:=h;exact h6
theorem Df.sms {O B:Nat} {F:List Nat} {fix:List Ah} {w:Ag} {l:List SmB} (h:Df O B F fix w l):Hx O w l:=by
 obtain⟨M,kv,_,_,_,_,h5,_⟩:=h;exact h5
theorem xF {k:Lk} {id e:Nat} {l l1 l2:List SmB} {x y:SmB} (hk:x.key=k.key id e) (hc:l=l1++x::l2∨(l=l1∧l2=[]∧k.key id e∉l.map SmB.key∧x.s=Sm.none (k.key id e).1 (k.key id e).2)) (hnd:((l1++x::l2).map SmB.key).Nodup)
  (hy:y.s=k.add id e x.s):(l1++y::l2).map (·.s)=k.meet id e (l.map (·.s)):=by
 have hkk:∀z:SmB,z.s.a=(k.key id e).1∧z.s.b=(k.key id e).2↔z.key=k.key id e:=fun z=>by
  unfold SmB.key;rw[Prod.ext_iff]
 unfold Lk.meet;rcases hc with rfl|⟨rfl,rfl,hne,hx⟩
 ·rw[List.map_append,List.map_cons,List.map_append,List.map_cons,hy];refine(nV ?_ ((hkk x).2 hk)).symm;intro s hs hh;obtain⟨z,hz,rfl⟩:=List.mem_map.1 hs;have hzk:=(hkk z).1 hh;rw[List.map_append,List.map_cons,Bl]at hnd;exact hnd.2.2 _ (List.mem_map.2 ⟨z,hz,rfl⟩) _ (List.mem_cons_self) (hzk.trans hk.symm)
 ·rw[List.map_append,nU]
  ·simp only[List.map_cons,List.map_nil,hy,hx]
  ·intro s hs hh;obtain⟨z,hz,rfl⟩:=List.mem_map.1 hs;exact hne (List.mem_map.2 ⟨z,hz,(hkk z).1 hh⟩)
theorem eK (F:FuncId) (hen:∀(args:Array Ah) (w:Ag),(callFunc F args).run Tryz.prog w= .ok (.enter F args) w) (caps:Array Ah) (p:Cl→Bool) (A:Option Addr) (l:List Cl) (n c:Nat) (w:Ag) (hn:n=l.length) (h:Rd w A 3 n (Ej l)) (hl:n≤1000000)
  (hf:∀(i:Cl) (w':Ag),i∈l→Below w.heap.size w w'→Ai Tryz.prog F (#[.agg #[Aa Ab i.x,Aa Ab i.y,Aa Ac (i.q:Int)]]++caps) w' (Cg (.bool (p i)) w')):
  Ai Tryz.prog 325 #[Ad A n c,.func (.func F) #[] caps] w fun e w'=>(∃r:Int,e= .returned (Aa Ab r)∧((l.any p)=decide (0≤r)))∧Below w.heap.size w w':=by
 have HRD:=Ae h;have HN:=Ae hn;have HFX:=Ae hf;clear h hn hf;go_enter Tryz.func325,Tryz.ntmps325;go_wp2_with fail
 go_loopw [5,8] (fun _ i wr=>∃k:Nat,k≤n∧i= Aa Ab k∧Below w.heap.size w wr∧Hid (∀j (hj:j<l.length),j<k→p l[j]=false)) (fun _ i _=>n-(intOf i).toNat)
 case atStart=>exact⟨0,by omega,rfl,Below.refl _ _,Ae fun j _ hj=>absurd hj (by omega)⟩
 case round=>
  obtain⟨k,hk,rfl,hb,HK⟩:=hrel;by_cases hlt:k<n
  ·have hkl:k<l.length:=by have:=HN.out;omega
   obtain⟨bb,o,rfl,hbl,c0,c1,c2⟩:=Sj (HRD.out.below hb) k hkl;have q1:(k:Int)<(n:Int):=by omega
   have hmem:=Au hkl;obtain⟨⟨r,r1,r2⟩,hr⟩:=ey (l[k]);have HRR:=Ae hr;rw[hr]at c0 c1 c2 hmem;dsimp only at c0 c1 c2;have hC:=HFX.out ⟨r,r1,r2⟩ wr hmem hb;dsimp only at hC;obtain⟨ar,har⟩:=ey (#[Value.agg #[Aa Ab r,Aa Ab r1,Aa Ac (r2:Int)]]++caps);rw[har]at hC;have HC:=Ae hC;clear hr hmem hC;go_wp2_with fail;refine HC.out.mono ?_;rintro e w2 ⟨rfl,hb2⟩;have hb3:=hb.trans (hb2.mono hb.size)
   cases he:p ⟨r,r1,r2⟩
   ·have HKN:=Ae (fun j (hj:j<l.length) (h:j<k+1)=>show p l[j]=false by
     by_cases hjk:j=k
     ·subst hjk;rw[HRR.out];exact he
     ·exact HK.out j hj (by omega))
    go_wp2_with fail;exact⟨⟨k+1,by omega,by go_num,hb3,HKN⟩,by simp[intOf];omega⟩
   ·have HA:Hid ((l.any p)=true):=Ae (by rw[List.any_eq_true];exact⟨l[k],Au _,by rw[HRR.out];exact he⟩);go_wp2_with fail;go_ret;exact⟨⟨k,rfl,by rw[HA.out];simp⟩,hb3⟩
  ·have q1:¬(k:Int)<(n:Int):=by omega
   have HA:Hid ((l.any p)=false):=Ae (by
    rw[List.any_eq_false];intro x hx;obtain⟨j,hj,rfl⟩:=Ay.1 hx;simpa using HK.out j hj (by have:=HN.out;omega))
   go_wp2_with fail;go_ret;exact⟨⟨-1,rfl,by rw[HA.out];rfl⟩,hb⟩
theorem dJ (F:FuncId) (hen:∀(args:Array Ah) (w:Ag),(callFunc F args).run Tryz.prog w= .ok (.enter F args) w) (caps:Array Ah) (p:Cl→Bool) (A:Option Addr) (l:List Cl) (n c:Nat) (w:Ag) (hn:n=l.length) (h:Rd w A 3 n (Ej l)) (hl:n≤1000000)
  (hf:∀(i:Cl) (w':Ag),i∈l→Below w.heap.size w w'→Ai Tryz.prog F (#[.agg #[Aa Ab i.x,Aa Ab i.y,Aa Ac (i.q:Int)]]++caps) w' (Cg (.bool (p i)) w')):
  Ai Tryz.prog 252 #[Ad A n c,.func (.func F) #[] caps] w (Cg (.bool (l.any p)) w):=by
 have HC:=Ae (eK F hen caps p A l n c w hn h hl hf);obtain⟨R,hR⟩:=ey (l.any p);rw[hR]at HC⊢;clear hn h hR hl hf hen;go_enter Tryz.func252,Tryz.ntmps252;go_wp2_with fail;refine HC.out.mono ?_;rintro e w2 ⟨⟨r,rfl,hr⟩,hb⟩;go_wp2_with fail;go_ret;exact⟨by rw[hr];rfl,hb⟩
theorem Yv (c:Cl) (w:Ag):Ai Tryz.prog 253 #[.agg #[Aa Ab c.x,Aa Ab c.y,Aa Ac (c.q:Int)]] w (Cg (.bool !c.ok) w):=by
 obtain⟨x,y,q⟩:=c;show Ai _ _ _ _ (Cg (.bool !(okC x y q)) w);dsimp only;have H:=(Bx.start w).new #[Aa Ab x,Aa Ab y,Aa Ac q] 123 rfl;go_enter Tryz.func253,Tryz.ntmps253;go_upto_region 1 with fail;obtain⟨N,hN⟩:=ez w.heap.size;rw[←hN]at H⊢;have HNN:=Ae hN;clear hN;obtain⟨W,hW⟩:=ez (w.alloc (.cells #[Aa Ab x,Aa Ab y,Aa Ac q] 123));rw[←hW]at H⊢;clear hW;obtain⟨⟨a0,a1,a2⟩,-⟩:=Ci (H.blk 0 _ _ _ rfl);go_wp2_with fail;refine(Dk x y q _).mono ?_;rintro e w2 ⟨rfl,hb⟩;have H2:=H.call hb
 cases hk:okC x y q
 ·rw[Ji];have HK:=Ae hk;clear hk;go_wp2_with fail;go_ret;exact⟨by rw[HK.out];rfl,H2.below⟩
 ·rw[Fo];have HK:=Ae hk;clear hk;go_wp2_with fail;go_ret;exact⟨by rw[HK.out];rfl,H2.below⟩
theorem nX (A:Option Addr) (l:List Cl) (n c:Nat) (w:Ag) (hn:n=l.length) (h:Rd w A 3 n (Ej l)) (hl:n≤1000000):
  Ai Tryz.prog 189 #[Ad A n c] w (Cg (.bool (l.any fun c=> !c.ok)) w):=by
 have HC:=Ae (dJ 253 (enters_of Tryz.func253 (by kernel_rfl) rfl) #[] (fun c=> !c.ok) A l n c w hn h hl fun i w' _ _=>Yv i w');obtain⟨R,hR⟩:=ey ((l.any fun c=> !c.ok));rw[hR]at HC⊢;clear hn h hR hl;go_enter Tryz.func189,Tryz.ntmps189;go_wp2_with fail;refine HC.out.mono ?_;rintro e w2 ⟨rfl,hb⟩;go_wp2_with fail;go_ret;exact⟨rfl,hb⟩
end Go.Proofs.YteoffhpfcgffcaaGreatDoor
