import Derived.Test.YthpcfeifmdbhnaaGreatDoorQPag
import Derived.Test.YthpcfeifmdbhnaaGreatDoorQFrm
import Derived.Lib.MinMax
open Array renaming getElem?_eq_some_iff→Au
open Go renaming Calls→Al,Value→Ak,World→Aj,bodyPost_ret→Ai,cell_of_row→By,heap_alloc_new→Bz
open Go.IntKind renaming i64→Ab,u8→Ac
open Go.IntWalk renaming i64_in→Ca,wrap64_in→Cb
open Go.Lib renaming hid→Ah,wpList_append_run→As
open Go.RowKit.Below renaming refl→Ag
open Go.Value renaming int→Aa,slice→Ad
open List renaming flatMap_append→Bi,getElem?_eq_getElem→Aw,getElem_mem→Ay,getElem_toArray→Ce,length_append→Bh,length_map→Bo,mem_append→Bl,mem_cons→Bk,mem_iff_getElem→Be,take_succ_eq_append_getElem→Bc
open Nat renaming le_refl→Am,le_trans→Br,lt_of_lt_of_le→Bq
open Option renaming none→Ae,some→Af
set_option maxHeartbeats 16000000
set_option maxRecDepth 100000
namespace Go.Proofs.YthpcfeifmdbhnaaGreatDoor
open Go.RowKit
theorem iK (a:Nat) (m:List Mv) (ids:List Nat):∀j,j≤ids.length→pgs a m (ids.take j)=(List.range (2*j)).flatMap λk=>pgV (pgK a m ids k)
 |0,_=>by simp[pgs]
 |j+1,h=>by
  have hg:ids.getD j 0=ids[j]:=by rw[List.getD_eq_getElem?_getD,Aw Ci];rfl
  rw[Bc Ci,iJ,iK a m ids j Ci,show 2*(j+1)=2*j+1+1 by omega,List.range_succ,List.range_succ,Bi,Bi]
  have e1:pgK a m ids (2*j)=pgA a m ids[j]:=by
   unfold pgK;rw[if_pos Ci,show 2*j/2=j by omega,hg]
  have e2:pgK a m ids (2*j+1)=(pgA a m ids[j]).flip:=by
   unfold pgK;rw[if_neg Ci,show(2*j+1)/2=j by omega,hg]
  simp[e1,e2]
theorem Aw8 (a:Nat) (m:List Mv) (ids:List Nat):pgs a m ids=(List.range (2*ids.length)).flatMap λk=>pgV (pgK a m ids k):=by
 have:=iK a m ids ids.length (Am _)
 rwa [List.take_length]at this
theorem bI {w:Aj} {A:Option Addr} {a:Nat} {m:List Mv} {ids:List Nat} {n:Nat} (hn:n=2*ids.length) (h:Rd w A 4 n (pgs a m ids)) (k:Nat) (hk:k<n):
  ∃b o,A=Af ⟨b,o,Ae⟩∧b<w.heap.size∧w.cell? ⟨b,o+k*4,Ae⟩=Af (Aa Ab ((pgK a m ids k).x:Nat))∧w.cell? ⟨b,o+k*4+1,Ae⟩=Af (Aa Ab ((pgK a m ids k).y:Nat))∧w.cell? ⟨b,o+k*4+2,Ae⟩=Af (.bool (pgK a m ids k).bk)∧w.cell? ⟨b,o+k*4+3,Ae⟩=Af (.bool (pgK a m ids k).dn):=by
 obtain⟨b,o,e,hb,hc⟩:=h.2 Ci;have hr:k<(List.range (2*ids.length)).length:=by simp;omega
 have hat:∀f,f<4→(pgs a m ids)[k*4+f]? =(pgV (pgK a m ids k))[f]? :=λf hf=>by
  rw[Aw8,Dz (λk=>pgV (pgK a m ids k)) 4 (λ_=>rfl) _ k f hr hf,List.getElem_range]
 exact⟨b,o,e,hb,hc (k*4+0) _ ((hat 0 Ci).trans rfl),hc (k*4+1) _ ((hat 1 Ci).trans rfl),hc (k*4+2) _ ((hat 2 Ci).trans rfl),hc (k*4+3) _ ((hat 3 Ci).trans rfl)⟩
theorem jA {k x:Nat} {m:Nat→Int} {v:Int} {w:Aj} {g:Nat} (h:w.heap[g]? =Af (Ms k m)):(w.setCell ⟨g,x,Ae⟩ (Aa Ab v)).heap[g]? =Af (Ms k λj=>if j=x then v else m j):=by
 unfold Ms at h⊢;rw[Pj h]
 congr 2
 apply Array.ext
 ·simp
 ·intro i h1 h2;simp only[Array.size_setIfInBounds,List.size_toArray,Bo,List.length_range]at h1;rw[Array.getElem_setIfInBounds (by simpa using h1)];by_cases hx:x=i
  ·subst hx;simp
  ·rw[if_neg hx];simp[Ne.symm hx]
theorem Lr {k x:Nat} {m:Nat→Int} {w:Aj} {g:Nat} (h:w.heap[g]? =Af (Ms k m)) (hx:x<k):w.cell? ⟨g,x,Ae⟩=Af (Aa Ab (m x))∧w.frozen? ⟨g,x,Ae⟩=false:=by
 unfold Ms at h
 constructor
 ·rw[By _ _ x _ _ _ h];simp[hx]
 ·simp[World.frozen?,h]
theorem Ng {w:Aj} {g n M k y:Nat} (h:w.heap[g]? =Af (Om n M k n)) (hy:y<n):w.cell? ⟨g,y,Ae⟩=Af (Rt k (M+y)):=by
 unfold Om at h;rw[By _ _ y _ _ _ h];simp[hy]
def fmP (G a b:Nat) (p:Pg):Nat×Nat:=if p.bk then (G+b+2+p.y,a-1-p.x)else (G+1+p.y,p.x)
theorem xU {G a b:Nat} {p:Pg} (hy:p.y<b):G<(fmP G a b p).1∧(fmP G a b p).1<G+2*b+2:=by
 unfold fmP
 split
 ·exact⟨by dsimp only;omega,by dsimp only;omega⟩
 ·exact⟨by dsimp only;omega,by dsimp only;omega⟩
theorem FmA.cell {w:Aj} {G a b:Nat} {s:Mt×Mt} (h:FmA w G a b s) {p:Pg} (hx:p.x<a) (hy:p.y<b):w.cell? ⟨(fmP G a b p).1,(fmP G a b p).2,Ae⟩=Af (Aa Ab (fmG a s p))∧w.frozen? ⟨(fmP G a b p).1,(fmP G a b p).2,Ae⟩=false:=by
 unfold fmP fmG
 split
 ·exact Lr (h.rB p.y hy) Ci
 ·exact Lr (h.rF p.y hy) hx
theorem FmA.set {w:Aj} {G a b:Nat} {s:Mt×Mt} (h:FmA w G a b s) {p:Pg} (hy:p.y<b) (v:Int):FmA (w.setCell ⟨(fmP G a b p).1,(fmP G a b p).2,Ae⟩ (Aa Ab v)) G a b (fmS a s p v):=by
 have hp:=xU (G:=G) (a:=a) hy;unfold fmP at hp⊢;unfold fmS;by_cases hb:p.bk=true
 ·rw[if_pos hb]at hp⊢;rw[if_pos hb];dsimp only at hp⊢;refine⟨(Db Ci).trans h.hF,(Db Ci).trans h.hB,λi hi=>(Db Ci).trans (h.rF i hi),λi hi=>?_⟩;by_cases e:i=p.y
  ·subst e;rw[jA (h.rB p.y hi)];unfold mtS;simp
  ·rw[Db Ci,h.rB i hi];unfold mtS;simp[e]
 ·rw[if_neg hb]at hp⊢;rw[if_neg hb];dsimp only at hp⊢;refine⟨(Db Ci).trans h.hF,(Db Ci).trans h.hB,λi hi=>?_,λi hi=>(Db Ci).trans (h.rB i hi)⟩;by_cases e:i=p.y
  ·subst e;rw[jA (h.rF p.y hi)];unfold mtS;simp
  ·rw[Db Ci,h.rF i hi];unfold mtS;simp[e]
theorem At9 {w:Aj} {G a b:Nat} {s:Mt×Mt} (h:FmA w G a b s) (p:Pg) (hx:p.x<a) (hy:p.y<b) (ha:a≤1000):
  Al Tryz.prog 21 #[.agg (fmV G a b),.agg #[Aa Ab p.x,Aa Ab p.y,.bool p.bk,.bool p.dn]] w (Co (.pointer (Af ⟨(fmP G a b p).1,(fmP G a b p).2,Ae⟩)) w):=by
 obtain⟨x,y,bk,dn⟩:=p;dsimp only at hx hy⊢;unfold fmP fmV
 cases bk with
 |false=>
  have hc:=Ng h.hF hy;unfold Rt at hc;have:=Ap9 (Af ⟨G+b+1,0,Ae⟩) b b G 0 b b y x (G+1+y) 0 a a dn w hy hx (Au.1 h.hF).1 (by simpa using hc);simpa using this
 |true=>
  have hc:=Ng h.hB hy;unfold Rt at hc;have:=Ap8 (Af ⟨G,0,Ae⟩) b b (G+b+1) 0 b b y x (G+b+2+y) 0 a a dn w hy hx Ci (Au.1 h.hB).1 (by simpa using hc);simpa using this
def As6 (a b:Nat) (m:List Mv) (ids:List Nat) (w:Aj) (e:Ending) (w':Aj):Prop:=Below w.heap.size w w'∧∃G,w.heap.size≤G∧e= .returned (.tuple #[.agg (fmV G a b),Aa Ab 0])∧FmA w' G a b (fmT a (pgK a m ids) (2*ids.length))
structure eE (w:Aj) (bl:List (Nat×Array Ak×TypeId)) (O G a b:Nat) (m:List Mv) (ids:List Nat) (pv:Ak) (n k:Nat) (wr:Aj):Prop where
 bx:Bx w bl wr
 fm:FmA wr G a b (fmT a (pgK a m ids) k)
 ow:wr.ownsRow O 50 4 pv n (pgs a m ids)
 lo:∀q,pv.ownBlock=Af q→q<G
 no:∀(i g:Nat) (cs:Array Ak) (t:TypeId),bl[i]? =Af (g,cs,t)→g<G∨G+2*b+2≤g
 hw:w.heap.size≤G∧1≤b
theorem eE.call {w:Aj} {bl:List (Nat×Array Ak×TypeId)} {O G a b:Nat} {m:List Mv} {ids:List Nat} {pv:Ak} {n k:Nat} {wr wx:Aj} (h:eE w bl O G a b m ids pv n k wr) (hb:Below wr.heap.size wr wx):eE w bl O G a b m ids pv n k wx:=
 ⟨h.bx.call hb,h.fm.same λj _ hj=>hb.block j (Bq hj (h.fm.lt h.hw.2)),Kh h.ow λq hq=>hb.block q (h.ow.lt q hq).2,h.lo,h.no,h.hw⟩
theorem eE.put {w:Aj} {bl:List (Nat×Array Ak×TypeId)} {O G a b:Nat} {m:List Mv} {ids:List Nat} {pv:Ak} {n k:Nat} {wr:Aj} (h:eE w bl O G a b m ids pv n k wr) (hy:(pgK a m ids k).y<b):
  eE w bl O G a b m ids pv n (k+1) (wr.setCell ⟨(fmP G a b (pgK a m ids k)).1,(fmP G a b (pgK a m ids k)).2,Ae⟩ (Aa Ab (sgn (pgK a m ids k) ((k:Int)+1)))):=by
 obtain⟨h1,h2⟩:=xU (G:=G) (a:=a) hy;refine⟨h.bx.same (h.bx.below.setCell (p:=⟨(fmP G a b (pgK a m ids k)).1,(fmP G a b (pgK a m ids k)).2,Ae⟩) (by show w.heap.size≤(fmP G a b (pgK a m ids k)).1;have:=h.hw.1;omega) _) λi g cs t hi=>Db ?_,h.fm.set hy _,Kh h.ow λq hq=>Db ?_,h.lo,h.no,h.hw⟩
 ·have:=h.no i g cs t hi;omega
 ·have:=h.lo q hq;omega
theorem Tk {n k:Nat} (h:k<n):n-(intOf (Aa Ab ((k:Int)+1))).toNat<n-(intOf (Aa Ab (k:Int))).toNat:=by
 show n-((k:Int)+1).toNat<n-((k:Int)).toNat;omega
theorem Zf {n k:Nat} (h:k<n) (hn:n≤512):Ab.wrap ((k:Int)+1)=(k:Int)+1∧Ab.wrap (-((k:Int)+1))= -((k:Int)+1):=
 ⟨Ca _ Ci,Ca _ Ci⟩
theorem Vd (a b:Nat) (s:St) (m:List Mv) (ls:List Nat) (hO:pF a b s m ls) (hok:∀k,k<2*ls.reverse.length→(pgK a m ls.reverse k).x<a∧(pgK a m ls.reverse k).y<b) (pA:Option Addr) (pc:Nat) (A:Option Addr) (cc:Nat) (w:Aj) (hA:AOk pA s.cr.length pc) (hpr:Rd w pA 3 s.cr.length (crs s.cr)) (hst:Dh w A s.l) (hQ:Qf w) (hT:Tn w):
  Al Tryz.prog 7 #[.agg #[Aa Ab s.a,Aa Ab s.b,Ad pA s.cr.length pc,Aa Ac s.root.t,Aa Ab s.root.x,Aa Ab s.root.y,Ad A s.l.length cc]] w (As6 a b m ls.reverse w):=by
 have HPG:=Ah (λ(w':Aj) (hb:Below w.heap.size w w')=>Nn a b s m ls hO pA pc A cc w' hA (hpr.below hb) (hst.below hb) (hQ.below hb) (hT.below hb));have hbd:=hO.bd;have hln:=hO.len.1;have hsa:=hO.sa;have hsb:=hO.sb;obtain⟨ids,hids⟩:=ey ls.reverse;have hil:ids.length≤256:=by rw[←hids,List.length_reverse];exact hln
 rw[hids]at HPG hok⊢;have HOK:=Ah hok;obtain⟨cn,hcn⟩:=ey s.cr.length;obtain⟨sn,hsn⟩:=ey s.l.length;rw[hcn,hsn,hsa,hsb]at HPG;rw[hcn,hsn,hsa,hsb];obtain⟨⟨rt,rx,ry⟩,hroot⟩:=ey s.root;rw[hroot]at HPG⊢;dsimp only at HPG⊢;obtain⟨n,hn⟩:=ey (2*ids.length);have hn5:n≤512:=Ci;rw[hn]at HOK;have HN:=Ah hn;have H:=((Bx.start w).new #[Aa Ab a,Aa Ab b,Ad pA cn pc,Aa Ac rt,Aa Ab rx,Aa Ab ry,Ad A sn cc] 33 rfl).new #[Ad Ae 0 0,Ad Ae 0 0] 39 (N:=w.heap.size+1) Cn;clear hO hok hA hpr hst hQ hT hln hsa hsb hids hcn hsn hroot hil;go_enter Tryz.func7,Tryz.ntmps7;go_upto_region 1 with fail;obtain⟨N,hN⟩:=ez w.heap.size;rw[←hN]at H⊢;have HNN:=Ah hN;clear hN;obtain⟨P1,hP1⟩:=ey (N+1);rw[hP1]at H⊢;clear hP1;obtain⟨W1,hW1⟩:=ez ((w.alloc (.cells #[Aa Ab a,Aa Ab b,Ad pA cn pc,Aa Ac rt,Aa Ab rx,Aa Ab ry,Ad A sn cc] 33)).alloc (.cells #[Ad Ae 0 0,Ad Ae 0 0] 39));rw[←hW1]at H⊢;clear hW1;obtain⟨a0,a1,a2,a3,a4,a5,a6⟩:=Gb (H.blk 0 _ _ _ rfl);go_wp2_with fail;refine(HPG.out _ H.below).mono ?_;rintro ee w2 ⟨hb,pgA0,pgC,rfl,hown⟩;have H:=H.call hb;rw[HN.out]at hown;rw[HN.out];obtain⟨O,hO1⟩:=ey W1.heap.size;rw[hO1]at hown;clear a0 a1 a2 a3 a4 a5 a6 hb HPG hO1;obtain⟨a0,a1,a2,a3,a4,a5,a6⟩:=Gb (H.blk 0 _ _ _ rfl);go_wp2_with fail;refine(kL a b Ci Ci _).mono ?_;rintro ee w3 ⟨G,hG,rfl,hF,hb⟩;have hN2:=H.lt 0 rfl;have hP2:=H.lt 1 rfl;have hw2:=H.below.size;have H:=H.call hb;have hlq:∀q,Value.ownBlock (Ad pgA0 n pgC)=Af q→q<G:=λq hq=>Bq (hown.lt q hq).2 hG;have hown:=Kh hown λq hq=>hb.block q (hown.lt q hq).2;have hFl:=hF.lt hbd.2.2.1;obtain⟨B6,hB6⟩:=ey w3.heap.size;have hal:Below w3.heap.size w3 (w3.alloc (.cells (fmV G a b) 39)):=(Ag _ _).alloc (Am _) _
 have HI0:Hid (eE w [(N,#[Aa Ab a,Aa Ab b,Ad pA cn pc,Aa Ac rt,Aa Ab rx,Aa Ab ry,Ad A sn cc],33),(P1,#[Ad Ae 0 0,Ad Ae 0 0],39),(B6,fmV G a b,39)] O G a b m ids (Ad pgA0 n pgC) n 0 (w3.alloc (.cells (fmV G a b) 39))):=Ah
  ⟨H.new (fmV G a b) 39 hB6,hF.same λj _ hj=>hal.block j Ci,hown.alloc _,hlq,(λi g cs t hi=>by
   have:=List.mem_of_getElem? hi;simp only[Bk,Prod.mk.injEq,List.not_mem_nil,or_false]at this;omega),⟨Ci,hbd.2.2.1⟩⟩
 unfold fmV at HI0;clear a0 a1 a2 a3 a4 a5 a6 hb hF hown hal hlq hFl hN2 hP2 hw2 H;unfold fmV;go_upto_region 5 with fail
 try rw[hB6]
 obtain⟨W4,hW4⟩:=ez (w3.alloc (.cells #[Ad (Af ⟨G,0,Ae⟩) b b,Ad (Af ⟨G+b+1,0,Ae⟩) b b] 39));rw[←hW4]at HI0⊢;clear hW4;clear hB6;go_wp2
 go_loopw [25] (λs25 wr=>∃k:Nat,k≤n∧s25= Aa Ab k∧Hid (eE w [(N,#[Aa Ab a,Aa Ab b,Ad pA cn pc,Aa Ac rt,Aa Ab rx,Aa Ab ry,Ad A sn cc],33),(P1,#[Ad Ae 0 0,Ad Ae 0 0],39),(B6,#[Ad (Af ⟨G,0,Ae⟩) b b,Ad (Af ⟨G+b+1,0,Ae⟩) b b],39)] O G a b m ids (Ad pgA0 n pgC) n k wr)) (λs25 _=>n-(intOf s25).toNat)
 case atStart=>exact⟨0,Ci,rfl,HI0⟩
 case round=>
  obtain⟨k,hk,rfl,HZ⟩:=hrel;clear HI0;by_cases hlt:k<n
  ·have q0:(k:Int)<(n:Int):=Ci;obtain⟨hx,hy⟩:=HOK.out k hlt;obtain⟨b0,o0,rfl,hb0,c0,c1,c2,c3⟩:=bI HN.out.symm (Rd.of_own HZ.out.ow) k hlt;obtain⟨⟨px,py,pbk,pdn⟩,hp⟩:=ey (pgK a m ids k);have HP:=Ah hp;rw[hp]at c0 c1 c2 c3 hx hy;dsimp only at c0 c1 c2 c3 hx hy;obtain⟨B8,hB8⟩:=ey wr.heap.size;have hal:Below wr.heap.size wr (wr.alloc (.cells #[Aa Ab px,Aa Ab py,.bool pbk,.bool pdn] 50)):=(Ag _ _).alloc (Am _) _;have HZ2:=Ah (HZ.out.call hal);have hpb:(wr.alloc (.cells #[Aa Ab px,Aa Ab py,.bool pbk,.bool pdn] 50)).heap[B8]? =Af (Obj.cells #[Aa Ab px,Aa Ab py,.bool pbk,.bool pdn] 50 (0,0)):=by rw[←hB8];exact Bz wr _
   clear hal hp;go_upto_region 8 with fail
   try rw[hB8]
   obtain⟨W5,hW5⟩:=ez (wr.alloc (.cells #[Aa Ab px,Aa Ab py,.bool pbk,.bool pdn] 50));rw[←hW5]at HZ2 hpb⊢;clear hW5;clear c0 c1 c2 c3 hB8 HZ;obtain⟨⟨p0,p1,p2,p3⟩,-⟩:=Ez hpb;obtain⟨⟨f0,f1⟩,-⟩:=Cy (HZ2.out.bx.blk 2 _ _ _ rfl);have HAT:=Ah (At9 HZ2.out.fm ⟨px,py,pbk,pdn⟩ hx hy Ci);have HXY:=Ah (And.intro hx hy);have HLT:=Ah hlt;have hab1:a≤16:=hbd.2.1;obtain⟨ek,en⟩:=Zf hlt hn5;clear hx hy hpb hlt hk;unfold fmV at HAT;dsimp only at HAT
   cases pdn with
   |true=>
    as_aux_lemma=>
    go_wp2_with fail;refine HAT.out.mono ?_;rintro ee w6 ⟨rfl,hb⟩;have HZ3:=HZ2.out.call hb;have hput:=HZ3.put (by rw[HP.out];exact HXY.out.2);have hcl:=HZ3.fm.cell (p:=⟨px,py,pbk,true⟩) HXY.out.1 HXY.out.2;rw[HP.out]at hput;obtain⟨g,hg⟩:=ey ((fmP G a b ⟨px,py,pbk,true⟩).1);obtain⟨o,ho⟩:=ey ((fmP G a b ⟨px,py,pbk,true⟩).2);rw[hg,ho]at hput hcl⊢;obtain⟨d0,d1⟩:=hcl;have HPUT:=Ah hput;clear hput hb HZ3 hg ho p0 p1 p2 p3 f0 f1 HAT HZ2;go_wp2;exact⟨⟨k+1,Nat.succ_le_of_lt HLT.out,Cn,HPUT⟩,Tk HLT.out⟩
   |false=>
    as_aux_lemma=>
    go_wp2_with fail;refine HAT.out.mono ?_;rintro ee w6 ⟨rfl,hb⟩;have HZ3:=HZ2.out.call hb;have hput:=HZ3.put (by rw[HP.out];exact HXY.out.2);have hcl:=HZ3.fm.cell (p:=⟨px,py,pbk,false⟩) HXY.out.1 HXY.out.2;rw[HP.out]at hput;obtain⟨g,hg⟩:=ey ((fmP G a b ⟨px,py,pbk,false⟩).1);obtain⟨o,ho⟩:=ey ((fmP G a b ⟨px,py,pbk,false⟩).2);rw[hg,ho]at hput hcl⊢;obtain⟨d0,d1⟩:=hcl;have HPUT:=Ah hput;clear hput hb HZ3 hg ho p0 p1 p2 p3 f0 f1 HAT HZ2;go_wp2;exact⟨⟨k+1,Nat.succ_le_of_lt HLT.out,Cn,HPUT⟩,Tk HLT.out⟩
  ·obtain rfl:k=n:=Ci;have q0:¬(k:Int)<(k:Int):=Ci;have HB:=HZ.out.bx;obtain⟨⟨f0,f1⟩,-⟩:=Cy (HB.blk 2 _ _ _ rfl);obtain⟨⟨g0,g1⟩,z0,z1⟩:=Cy (HB.blk 1 _ _ _ rfl);have H9:=Ah ((HB.set 1 0 rfl (Ad (Af ⟨G,0,Ae⟩) b b)).set 1 1 rfl (Ad (Af ⟨G+b+1,0,Ae⟩) b b));have hno:=HZ.out.no 1 _ _ _ rfl;clear HB
   as_aux_lemma=>
   go_wp2_with fail;refine Ai (Cs (u:=3) rfl rfl (H9.out.range 1 rfl) Tryz.underlying39 rfl Cm) rfl ⟨H9.out.below,G,HZ.out.hw.1,rfl,?_⟩;rw[HN.out];exact HZ.out.fm.same λj h1 h2=>by rw[Db Ci,Db Ci]
def Nt (rs:List Gq) (k:Nat):List Int:=((rs.take k).map (·.ks)).flatten
theorem Uf (rs:List Gq) (k:Nat) (h:k<rs.length):Nt rs (k+1)=Nt rs k++rs[k].ks:=by
 unfold Nt;rw[Bc h,List.map_append,List.flatten_append];simp
theorem Wz (rs:List Gq) (hk:∀r∈rs,r.ks.length≤1000):∀k,k≤rs.length→(Nt rs k).length≤1000*k
 |0,_=>by simp[Nt]
 |k+1,h=>by
  rw[Uf rs k h,Bh];have h1:=Wz rs hk k Ci;have h2:=hk rs[k] (Ay _);omega
theorem yL (a b:List Int):Ni (a++b)=Ni a++Ni b:=by simp[Ni]
theorem yM (l:List Int):∀u∈Ni l,u.oneCell'=true:=by
 intro u hu;obtain⟨r,_,rfl⟩:=List.mem_map.1 hu;rfl
theorem lH (n:Nat) (w:Aj) (hn:n≤1000000000):
  Al Tryz.prog 64 #[Ad Ae 0 0,Aa Ab n] w (Mo 3 1 0 [] w):=by
 obtain⟨i0,hi0,hz0,hz1,hz2⟩:=info_parts Xz;go_enter Tryz.func64,Tryz.ntmps64;by_cases h0:n=0
 ·subst h0;go_wp2;go_ret;exact⟨_,rfl,World.ownsRow_nil _ _ _ _,Ag _ _⟩
 ·have hr:=Lib.run_append_nil_zeros (P:=Tryz.prog) w 46 3 46 3 i0 _ .i64 .i64 Tryz.underlying46 Tryz.underlying3 hi0 hz0 n Ci Ci Ci (by rw[hz2];omega);have hge:=grownCap_ge w n 0 3;have hcm:=grownCap_le_maxLen w n 0 3 (by simp[maxLen];omega);obtain⟨C,hC⟩:=ey (grownCap w n 0 3);rw[hC]at hr hge hcm;have HR:=Ah hr;have hnp:(0:Int)<(n:Int):=Ci;unfold maxLen at hcm;clear hr hC;go_wp2_with (at_builtin;refine As _ rfl _ _ _ _ rfl _ _ rfl rfl _ _ HR.out ?_);go_wp2;go_ret;refine⟨_,rfl,Ly (cs:=Builtin.zeroCells (Value.int .i64 0).cells n++Builtin.zeroCells (Value.int .i64 0).cells (C-n)) (n:=0) (Am _) (Bz w.drew _) (Nat.zero_le _) (by unfold maxLen;exact hcm) ?_,(Ag _ _).drew.alloc (Am _) _⟩;rw[Array.size_append,size_zeroCells,size_zeroCells];have e4:(Value.int .i64 0).cells.size=1:=rfl;rw[e4];omega
theorem cV (A:Option Addr) (rs:List Gq) (cc n:Nat) (hnr:n=rs.length) (w:Aj) (h:Ik w A rs) (hn:rs.length≤1000) (hk:∀r∈rs,r.ks.length≤1000):
  Al Tryz.prog 28 #[Ad A n cc] w (Mo 3 1 (Nt rs n).length (Ni (Nt rs n)) w):=by
 obtain⟨i0,hi0,hz0,hz1,hz2⟩:=info_parts Xz;have HI0:=Ah hi0;have HZ0:=Ah hz0;have HZ1:=Ah hz1;have HZ2:=Ah hz2;have HW:=Ah h;have HK:=Ah hk;have HLN:=Ah (Wz rs hk);have HN:=Ah hnr;have hn1:n≤1000:=Ci;obtain⟨T,hT⟩:=ey ((Nt rs n));rw[hT];have HT:=Ah hT;have hT1:T.length≤1000000:=by have:=Wz rs hk n Ci;rw[←hT];omega
 clear h hk hi0 hz0 hz1 hz2 hT hnr hn;go_enter Tryz.func28,Tryz.ntmps28;go_wp2_with fail
 go_loop [3,11] (λs3 s11=>∃(k m:Nat),k≤n∧s11= Aa Ab k∧s3= Aa Ab m∧Hid (m=(Nt rs k).length)) (λ_ s11=>n-(intOf s11).toNat)
 case atStart=>exact⟨0,0,Ci,rfl,rfl,Ah (by simp[Nt])⟩
 case round=>
  obtain⟨k,m,hkn,rfl,rfl,HM⟩:=hrel;by_cases hlt:k<n
  ·have hkl:k<rs.length:=by have:=HN.out;omega
   obtain⟨b,o,rfl,hbl,c0⟩:=HW.out.at' k hkl;have hm1:m≤1000000:=by rw[HM.out];have:=HLN.out k Ci;omega
   have hl1:=HK.out rs[k] (Ay _);have hnx:=Uf rs k hkl;obtain⟨⟨rA,rc,rks⟩,hr⟩:=ey (rs[k]);rw[hr]at c0 hl1 hnx;dsimp only at c0 hl1 hnx;have HNX:=Ah hnx;have q1:(k:Int)<(n:Int):=Ci;have q2:¬((m:Int)+(rks.length:Int)<0):=Ci;have e1:wrap64 ((m:Int)+(rks.length:Int))=(m:Int)+(rks.length:Int):=Cb _ Ci;clear hr hnx;go_wp2;exact⟨⟨k+1,m+rks.length,Ci,by go_num,by go_num,Ah (by rw[HNX.out,Bh,HM.out])⟩,by simp[intOf];omega⟩
  ·obtain rfl:k=n:=Ci;have q1:¬(k:Int)<(k:Int):=Ci;obtain rfl:m=T.length:=by rw[HM.out,HT.out]
   go_wp2_with fail;refine(lH T.length w Ci).mono ?_;rintro e w1 ⟨v1,rfl,hown1,hb1⟩;obtain⟨B1,c1,rfl,hbc,hcm⟩:=Dv hown1;have HO1:=Ah hown1;have HB1:=Ah hb1;clear hown1 hb1;go_wp2
   go_loopw [6,27] (λs6 s27 wr=>∃(i m c:Nat) (B:Option Addr),i≤k∧s27= Aa Ab i∧s6= Ad B m c∧Hid (m=(Nt rs i).length)∧Hid (wr.ownsRow w.heap.size 3 1 (Ad B m c) m (Ni (Nt rs i))∧Below w.heap.size w wr)) (λ_ s27 _=>k-(intOf s27).toNat)
   case atStart=>exact⟨0,0,c1,B1,Ci,rfl,rfl,Ah (by simp[Nt]),Ah ⟨by simpa[Nt,Ni]using HO1.out,HB1.out⟩⟩
   case round=>
    obtain⟨i,m,c,B,hin,rfl,rfl,HM2,HOB⟩:=hrel;clear HO1 HB1;by_cases hlt2:i<k
    ·have hil:i<rs.length:=by have:=HN.out;omega
     have hbr:=HOB.out.2;obtain⟨b,o,rfl,hbl,c0⟩:=(HW.out.below hbr).at' i hil;have hrow:=(HW.out.below hbr).row rs[i] (Ay _);have hm1:m≤1000000:=by rw[HM2.out];have:=HLN.out i Ci;omega
     have hl1:=HK.out rs[i] (Ay _);have hnx:=Uf rs i hil;obtain⟨⟨rA,rc,rks⟩,hr⟩:=ey (rs[i]);rw[hr]at c0 hl1 hnx hrow;dsimp only at c0 hl1 hnx;obtain⟨v2,w2,hr2,hown2,hg2⟩:=Dx (P:=Tryz.prog) wr w.heap.size 46 46 3 i0 _ 1 8 Tryz.underlying46 HI0.out HZ0.out HZ1.out HZ2.out rfl Ci (Ad B m c) m (Ni (Nt rs i)) HOB.out.1 rA rks.length rc (Ni rks) (yM _) hrow.rd hrow.nil Ci Ci hbr.size;have hb2:Below w.heap.size w w2:=hbr.grown hg2 hbr.size (λq hq=>(HOB.out.1.lt q hq).1);obtain⟨B2,c2,rfl,hbc2,hcm2⟩:=Dv hown2
     have hown3:w2.ownsRow w.heap.size 3 1 (Ad B2 (m+rks.length) c2) (m+rks.length) (Ni (Nt rs (i+1))):=by
      rw[hnx,yL];exact hown2
     have HR2:=Ah hr2;have HO3:=Ah (And.intro hown3 hb2);have HNX:=Ah hnx;have q1:(i:Int)<(k:Int):=Ci;clear hr2 hown2 hown3 hg2 hb2 hr hnx hrow hbr
     as_aux_lemma=>
     go_wp2_with (at_builtin;refine As _ rfl _ _ _ _ rfl _ _ rfl rfl _ _ HR2.out ?_);go_wp2
     go_roundw
     case rel=>exact⟨i+1,m+rks.length,c2,B2,Ci,by go_num,rfl,Ah (by rw[HNX.out,Bh,HM2.out]),HO3⟩
     case measure=>simp[intOf];omega
    ·obtain rfl:i=k:=Ci;have q1:¬(i:Int)<(i:Int):=Ci;obtain rfl:m=T.length:=by rw[HM2.out,HT.out]
     go_wp2;go_ret;refine⟨_,rfl,?_,HOB.out.2⟩;rw[←HT.out];have:=HOB.out.1;rw[←HT.out]at this;exact this
theorem rY:(Tryz.prog.info? 4).map (λi=>(i.zero,i.size,i.bytes))=Af (Af (.bool false),1,1):=Cm
theorem gM (n:Nat) (h:n≤1000000) (w:Aj):(Instr.makeSlice 51 (Aa Ab n) (Aa Ab n)).run Tryz.prog w= .ok (Ad (Af ⟨w.heap.size,0,Ae⟩) n n) (w.alloc (.cells (Array.replicate n (.bool false)) 4)):=by
 obtain⟨i0,hi0,hz0,hz1,hz2⟩:=info_parts rY;have:=run_makeSlice (P:=Tryz.prog) w 51 4 i0 _ Tryz.underlying51 hi0 hz0 .i64 .i64 n n Ci Ci (by rw[hz1];simp;omega) (by rw[hz2];omega) Ci;rw[hz1,Nat.mul_one,Int.toNat_natCast,Oz _ n rfl,List.toArray_replicate]at this;exact this
def Th (l:List Int) (k j:Nat):Bool:=(List.range k).any λi=>decide ((l.getD i 0).natAbs=j+1)
def Oo (N:Nat) (l:List Int) (k:Nat):List Ak:=(List.range N).map λj=> .bool (Th l k j)
theorem oG (N:Nat) (l:List Int):(Oo N l 0).toArray=Array.replicate N (.bool false):=by
 rw[←List.toArray_replicate]
 congr 1
 unfold Oo Th;apply List.ext_getElem
 ·simp
 ·intro i h1 h2;simp
theorem oC (l:List Int) (k j:Nat):Th l (k+1) j=(Th l k j||decide ((l.getD k 0).natAbs=j+1)):=by
 unfold Th;rw[List.range_succ,List.any_append];simp
theorem oF {N:Nat} {l:List Int} {k p:Nat} (hp:(l.getD k 0).natAbs=p+1):(Oo N l k).toArray.setIfInBounds p (.bool true)=(Oo N l (k+1)).toArray:=by
 unfold Oo;apply Array.ext
 ·simp
 ·intro i h1 h2;simp only[Array.size_setIfInBounds,List.size_toArray,Bo,List.length_range]at h1;rw[Array.getElem_setIfInBounds (by simpa using h1)];simp only[Ce,List.getElem_map,List.getElem_range];rw[oC,hp];by_cases e:p=i
  ·subst e;simp
  ·rw[if_neg e];have:decide (p+1=i+1)=false:=by simp;omega
   rw[this,Bool.or_false]
theorem tY {N:Nat} {l:List Int} {k p:Nat} (hp:(l.getD k 0).natAbs=p+1) (hN:p+1≤N):Pe N l k= !Th l k p:=by
 unfold Pe Th;have h0:decide (l.getD k 0≠0)=true:=by rw[decide_eq_true_eq];omega
 have h1:decide ((l.getD k 0).natAbs≤N)=true:=by rw[decide_eq_true_eq];omega
 rw[h0,h1,hp];rfl
theorem Yn {N:Nat} {l:List Int} {k:Nat} (h:l.getD k 0=0∨l.getD k 0< -(N:Int)∨(N:Int)<l.getD k 0):Pe N l k=false:=by
 unfold Pe;rcases h with h|h|h
 ·rw[h];rfl
 ·have:decide ((l.getD k 0).natAbs≤N)=false:=by rw[decide_eq_false_iff_not];omega
  rw[this];simp
 ·have:decide ((l.getD k 0).natAbs≤N)=false:=by rw[decide_eq_false_iff_not];omega
  rw[this];simp
theorem zP {N:Nat} {l:List Int} {k:Nat} (hk:k<l.length) (h:Pe N l k=false):mR N l=false:=by
 unfold mR;rw[List.all_eq_false];exact⟨k,List.mem_range.2 hk,by rw[h];simp⟩
theorem Pv {c:Nat}:∀(l:List (List Int)),(∀r∈l,r.length=c)→l.flatten.length=l.length*c
 |[],_=>Cn
 |x::r,h=>by
  rw[List.flatten_cons,Bh,Pv r λy hy=>h y (List.mem_cons_of_mem _ hy),h x Cn,List.length_cons,Nat.add_mul,Nat.one_mul];omega
theorem wV (rs:List Gq):Nt rs rs.length=(rs.map (·.ks)).flatten:=by unfold Nt;rw[List.take_length]
theorem Wm (a b:List Gq):(a.map (·.ks))++(b.map (·.ks))=(a++b).map (·.ks):=Cn
theorem Xi (FA BA:Option Addr) (fr bk:List Gq) (c1 c2:Nat) (w:Aj) (hf:Ik w FA fr) (hb:Ik w BA bk) (l1:fr.length≤100) (l2:bk.length≤100) (hk:∀r∈fr++bk,r.ks.length≤100):
  Al Tryz.prog 14 #[.agg #[Ad FA fr.length c1,Ad BA bk.length c2]] w (Co (Aa Ab (fmE (fr.map (·.ks)) (bk.map (·.ks)))) w):=by
 obtain⟨Z,hZ⟩:=ey (fmE (fr.map (·.ks)) (bk.map (·.ks)));rw[hZ];unfold fmE at hZ;rw[Wm,Bo,Bo]at hZ;have HZ:=Ah hZ;have HF:=Ah hf;have HB:=Ah hb;have HK:=Ah hk;have H:=(Bx.start w).new #[Ad FA fr.length c1,Ad BA bk.length c2] 39 rfl;clear hZ hf hb hk;go_enter Tryz.func14,Tryz.ntmps14;go_upto_region 1 with fail;obtain⟨N,hN⟩:=ez w.heap.size;rw[←hN]at H⊢;have HNN:=Ah hN;clear hN;obtain⟨W1,hW1⟩:=ez (w.alloc (.cells #[Ad FA fr.length c1,Ad BA bk.length c2] 39));rw[←hW1]at H⊢;clear hW1;obtain⟨⟨a0,a1⟩,-⟩:=Cy (H.blk 0 _ _ _ rfl);go_wp2_with fail;have hcon:=cW W1.heap.size 0 FA BA (fr.map Gq.head) (bk.map Gq.head) fr.length bk.length c1 c2 2 (W1.alloc (.cells #[Ad FA fr.length c1,Ad BA bk.length c2] 37)) Cn (by rw[By _ _ _ _ _ _ (Bz W1 _)];rfl) (by rw[By _ _ _ _ _ _ (Bz W1 _)];rfl) (Xw _) (Xw _) ((HF.out.below H.below).rd.alloc _) ((HB.out.below H.below).rd.alloc _) HF.out.nil HB.out.nil Ci Ci;refine hcon.mono ?_;clear hcon a0 a1;rintro e w4 ⟨v4,rfl,hown4,hb4⟩;have H4:=(H.other (.cells #[Ad FA fr.length c1,Ad BA bk.length c2] 37)).call hb4;obtain⟨A4,c4,rfl,hA4⟩:=Pi hown4
 have hrows:Ik w4 A4 (fr++bk):=⟨by have:=Rd.of_own hown4;simpa using this,by simpa using hA4,λr hr=>by
  rcases Bl.1 hr with h|h
  ·exact(HF.out.below H4.below).row r h
  ·exact(HB.out.below H4.below).row r h⟩
 have hln:fr.length+bk.length=(fr++bk).length:=Cn;have hsm:(fr++bk).length≤200:=by simp;omega
 rw[hln]
 have HHD:Hid (∀h:0<fr.length,∃h2:0<(fr++bk).length,(fr.map (·.ks)).getD 0 []=(fr++bk)[0].ks):=Ah λh=>⟨by simp;omega,by
  rw[List.getD_eq_getElem?_getD,List.getElem?_map,Aw h,List.getElem_append_left h];rfl⟩
 obtain⟨L,hL⟩:=ey (fr++bk);rw[hL]at hrows hsm HZ HK HHD⊢;have HRW:=Ah hrows;obtain⟨nf,hnf⟩:=ey fr.length;obtain⟨nb,hnb⟩:=ey bk.length;obtain⟨n,hn⟩:=ey L.length;rw[hnf]at H4 HZ HHD l1;rw[hnb]at H4 HZ l2;rw[hn]at hsm⊢;have HN:=Ah hn;have hnn:n=nf+nb:=by rw[←hn,←hL,Bh,hnf,hnb]
 have HNN2:=Ah hnn;clear hown4 hA4 hb4 hrows hln hL hnf hnb hn H HF HB hnn;obtain⟨⟨a0,a1⟩,-⟩:=Cy (H4.blk 0 _ _ _ rfl);by_cases h0:nf=0
 ·subst h0;obtain rfl:Z=5:=by rw[←HZ.out,if_pos (.inl rfl)]
  as_aux_lemma=>
  go_wp2;go_ret;exact⟨rfl,H4.below⟩
 have q0:((nf:Int)==0)=false:=by simpa using h0
 by_cases h1:¬nf=nb
 ·have q1:((nf:Int) != (nb:Int))=true:=by simp;omega
  obtain rfl:Z=5:=by rw[←HZ.out,if_pos (.inr (.inl h1))]
  clear h0 h1
  as_aux_lemma=>
  go_wp2;go_ret;exact⟨rfl,H4.below⟩
 have q1:((nf:Int) != (nb:Int))=false:=by simp;omega
 obtain⟨hL0,hhd⟩:=HHD.out Ci;have hz:=HZ.out;rw[hhd]at hz;obtain⟨b4,o4,hA4,hbl4,d0⟩:=HRW.out.at' 0 hL0;have hk0:=HK.out L[0] (Ay _);obtain⟨⟨rA,rc,rks⟩,hr0⟩:=ey (L[0]);rw[hr0]at d0 hz hk0;dsimp only at d0 hz hk0;obtain⟨c,hc⟩:=ey rks.length;rw[hc]at d0 hz hk0;subst hA4;have q2:(0:Int)<(n:Int):=by have:=HNN2.out;omega
 have q3:0<n:=Ci
 have HD0:Hid (∀W',Below w4.heap.size w4 W'→W'.cell? ⟨b4,o4,Ae⟩=Af (Ad rA c rc)):=Ah λW' hb=>by
  have:=Cj hb d0;simpa using this
 have d0:w4.cell? ⟨b4,o4,Ae⟩=Af (Ad rA c rc):=by simpa using d0
 have HC0:Hid (L[0].ks.length=c):=Ah (by rw[hr0];exact hc);clear hhd hr0 hc HHD;by_cases h2:c=0
 ·subst h2;obtain rfl:Z=5:=by rw[←hz,if_pos (.inr (.inr rfl))]
  clear hz h0 h1
  as_aux_lemma=>
  go_wp2;go_ret;exact⟨rfl,H4.below⟩
 have q4:((c:Int)==0)=false:=by simpa using h2
 rw[if_neg Ci]at hz;have HZ2:=Ah hz;have HH4:=Ah H4;clear hz HZ h0 h1 H4;go_wp2_with fail
 go_loop [37] (λs37=>∃k,k≤n∧s37= Aa Ab k∧Hid (∀j (hj:j<L.length),j<k→L[j].ks.length=c)) (λs37=>n-(intOf s37).toNat)
 case atStart=>exact⟨0,Ci,rfl,Ah λj _ h=>absurd h Ci⟩
 case round=>
  obtain⟨k,hkn,rfl,HE⟩:=hrel;by_cases hlt:k<n
  ·have hkl:k<L.length:=by have:=HN.out;omega
   obtain⟨b5,o5,e5,hbl5,t0⟩:=HRW.out.at' k hkl;obtain⟨rfl,rfl⟩:b4=b5∧o4=o5:=by simpa using e5
   obtain⟨⟨rA2,rc2,rks2⟩,hr2⟩:=ey (L[k]);have HR2:=Ah hr2;rw[hr2]at t0;dsimp only at t0;have q5:(k:Int)<(n:Int):=Ci;clear hr2 e5;by_cases he:rks2.length=c
   ·have q6:((rks2.length:Int) != (c:Int))=false:=by simp;omega
    have HE2:Hid (∀j (hj:j<L.length),j<k+1→L[j].ks.length=c):=Ah λj hj hjk=>by
     by_cases e:j=k
     ·subst e;rw[HR2.out];exact he
     ·exact HE.out j hj Ci
    clear he;go_wp2;exact⟨⟨k+1,Ci,by go_num,HE2⟩,by simp[intOf];omega⟩
   ·have q6:((rks2.length:Int) != (c:Int))=true:=by simp;omega
    obtain rfl:Z=5:=by
     rw[←HZ2.out,if_pos];rw[List.any_eq_true];refine⟨L[k].ks,List.mem_map_of_mem (Ay hkl),?_⟩;rw[HR2.out];have:=HC0.out;simp only[decide_eq_true_eq];omega
    clear he;go_wp2;go_ret;exact⟨rfl,HH4.out.below⟩
  ·obtain rfl:k=n:=Ci;have q5:¬(k:Int)<(k:Int):=Ci
   have hall:∀r∈L.map (·.ks),r.length=c:=λr hr=>by
    obtain⟨x,hx,rfl⟩:=List.mem_map.1 hr;obtain⟨j,hj,rfl⟩:=Be.1 hx;exact HE.out j hj (by have:=HN.out;omega)
   have hfl:=Pv _ hall;rw[Bo,HN.out]at hfl
   have hz:(if mR (L.map (·.ks)).flatten.length (L.map (·.ks)).flatten then 0 else 1)=Z:=by
    have:=HZ2.out;rw[if_neg]at this
    ·exact this
    ·rw[Bool.not_eq_true,List.any_eq_false];intro r hr;have h1:=hall r hr;have h2:=HC0.out;simp only[decide_eq_true_eq];omega
   have hcc:=cV (Af ⟨b4,o4,Ae⟩) L c4 k HN.out.symm;have hct:Nt L k=(L.map (·.ks)).flatten:=by rw[←HN.out];exact wV L
   rw[hct]at hcc;obtain⟨X,hX⟩:=ey ((L.map (·.ks)).flatten);rw[hX]at hcc hz hfl;obtain⟨N2,hN2⟩:=ey X.length;rw[hN2]at hcc hz hfl;have hkc:k*c≤200*100:=Nat.mul_le_mul hsm hk0;have e1:(k:Int)*(c:Int)=(N2:Int):=by rw[hfl];simp
   have hN2b:N2≤20000:=Ci;have e2:wrap64 (N2:Int)=(N2:Int):=Cb _ Ci;have m1:=gM N2 (Br hN2b (Nat.le_of_ble_eq_true rfl));have HZ3:=Ah hz;have HCC:=Ah (λ(w':Aj) (hb:Below w4.heap.size w4 w')=>hcc w' (HRW.out.below hb) (by have:=HN.out;omega) λr hr=>by have:=HK.out r hr;omega);have HN2:=Ah hN2;obtain⟨SB,hSB⟩:=ey w4.heap.size;have H5:=HH4.out.new (Array.replicate N2 (Value.bool false)) 4 hSB;have hb5:Below w4.heap.size w4 (w4.alloc (.cells (Array.replicate N2 (Value.bool false)) 4)):=(Ag _ _).alloc (Am _) _;have HB5:=Ah hb5;clear hall hfl hz hcc hct hX hN2 hkc hb5 HE HK;go_upto_region 11 with fail
   try rw[hSB]
   obtain⟨W5,hW5⟩:=ez (w4.alloc (.cells (Array.replicate N2 (Value.bool false)) 4));rw[←hW5]at H5 HB5⊢;clear hW5;clear m1 hSB e1 e2;go_wp2_with fail;refine(HCC.out _ HB5.out).mono ?_;rintro e w6 ⟨v6,rfl,hown6,hb6⟩;obtain⟨A6,c6,rfl,hA6⟩:=Pi hown6;have H6:=H5.call hb6;have hSO:=H5.lt 1 rfl;rw[←oG N2 X]at H6;obtain⟨O,hO⟩:=ey W5.heap.size;rw[hO]at hown6 hSO;have HSO:=Ah hSO;have HI0:Hid (w6.ownsRow O 3 1 (Ad A6 N2 c6) N2 (Ni X)∧Bx w [(N,#[Ad FA nf c1,Ad BA nb c2],39),(SB,(Oo N2 X 0).toArray,4)] w6):=Ah ⟨hown6,H6⟩;have eN:wrap64 (-(N2:Int))= -(N2:Int):=Cb _ Ci;clear hown6 H6 hb6 H5 hA6 hO hSO HRW HB5 HCC HH4 HD0 HZ2;go_wp2
   go_loopw [60] (λs60 wr=>∃i,i≤N2∧s60= Aa Ab i∧Hid (∀j,j<i→Pe N2 X j=true)∧Hid (wr.ownsRow O 3 1 (Ad A6 N2 c6) N2 (Ni X)∧Bx w [(N,#[Ad FA nf c1,Ad BA nb c2],39),(SB,(Oo N2 X i).toArray,4)] wr)) (λs60 _=>N2-(intOf s60).toNat)
   case atStart=>exact⟨0,Ci,rfl,Ah λj h=>absurd h Ci,HI0⟩
   case round=>
    obtain⟨i,hiN,rfl,HOK,HOB⟩:=hrel;clear HI0;by_cases hlt2:i<N2
    ·have q7:(i:Int)<(N2:Int):=Ci;obtain⟨b6,o6,rfl,hb6l,hcc6⟩:=(Rd.of_own HOB.out.1).2 Ci;have hiX:i<X.length:=by have:=HN2.out;omega
     have t0:=hcc6 i (Aa Ab (X.getD i 0)) (by
      unfold Ni;rw[List.getElem?_map,Aw hiX,List.getD_eq_getElem?_getD,Aw hiX];rfl)
     have hbad:Pe N2 X i=false→Z=1:=λh=>by
      rw[←HZ3.out,zP hiX h];rfl
     obtain⟨z,hz⟩:=ey (X.getD i 0);have HZI:=Ah hz;rw[hz]at t0;have HBAD:=Ah hbad;have HB9:=Ah HOB.out.2.below;clear hcc6 hz hbad;by_cases z0:z=0
     ·subst z0;obtain rfl:Z=1:=HBAD.out (Yn (.inl HZI.out))
      as_aux_lemma=>
      go_wp2;go_ret;exact⟨rfl,HB9.out⟩
     have q8:(z==0)=false:=by simpa using z0
     by_cases z1:z< -(N2:Int)
     ·obtain rfl:Z=1:=HBAD.out (Yn (.inr (.inl (by rw[HZI.out];exact z1))));clear z0
      as_aux_lemma=>
      go_wp2;go_ret;exact⟨rfl,HB9.out⟩
     by_cases z2:z>(N2:Int)
     ·obtain rfl:Z=1:=HBAD.out (Yn (.inr (.inr (by rw[HZI.out];exact z2))));clear z0
      as_aux_lemma=>
      go_wp2;go_ret;exact⟨rfl,HB9.out⟩
     obtain⟨p,hp⟩:∃p,z.natAbs=p+1:=⟨z.natAbs-1,Ci⟩;have hpN:p<N2:=Ci;have eM:max z (-z)=(p:Int)+1:=Ci;have eZ:wrap64 (-z)= -z:=Cb _ Ci;have q9:(p:Int)<(N2:Int):=Ci;have HPZ:Hid ((X.getD i 0).natAbs=p+1):=Ah (by rw[HZI.out];exact hp);have H9:=HOB.out.2
     have s0:wr.cell? ⟨SB,p,Ae⟩=Af (.bool (Th X i p)):=by
      rw[By _ _ p _ _ _ (H9.blk 1 _ _ _ rfl)];unfold Oo;simp[hpN]
     have s1:wr.frozen? ⟨SB,p,Ae⟩=false:=by simp[World.frozen?,H9.blk 1 _ _ _ rfl]
     have hseen:=tY HPZ.out (show p+1≤N2 by omega);obtain⟨sb,hsb⟩:=ey (Th X i p);rw[hsb]at s0 hseen;have HSE:=Ah hseen;clear hp hsb hseen z0
     cases sb with
     |true=>
      obtain rfl:Z=1:=HBAD.out HSE.out;clear H9
      as_aux_lemma=>
      go_wp2;go_ret;exact⟨rfl,HB9.out⟩
     |false=>
      have hOK2:∀j,j<i+1→Pe N2 X j=true:=λj hj=>by
       by_cases e:j=i
       ·subst e;exact HSE.out
       ·exact HOK.out j Ci
      have HOK2:=Ah hOK2;have H10:=H9.set 1 p rfl (.bool true)
      have e10:[(N,#[Value.slice FA nf c1,Value.slice BA nb c2],39),(SB,(Oo N2 X i).toArray,4)].set 1 (SB,(Oo N2 X i).toArray.setIfInBounds p (.bool true),4)=[(N,#[Ad FA nf c1,Ad BA nb c2],39),(SB,(Oo N2 X (i+1)).toArray,4)]:=by
       rw[oF HPZ.out];rfl
      have HI2:Hid ((wr.setCell ⟨SB,p,Ae⟩ (.bool true)).ownsRow O 3 1 (Ad (Af ⟨b6,o6,Ae⟩) N2 c6) N2 (Ni X)∧Bx w [(N,#[Ad FA nf c1,Ad BA nb c2],39),(SB,(Oo N2 X (i+1)).toArray,4)] (wr.setCell ⟨SB,p,Ae⟩ (.bool true))):=Ah ⟨Ec HOB.out.1 HSO.out p (.bool true),by rw[←e10];exact H10⟩;clear H9 H10 e10 hOK2
      as_aux_lemma=>
      go_wp2
      go_roundw
      case rel=>exact⟨i+1,Ci,by go_num,HOK2,HI2⟩
      case measure=>simp[intOf];omega
    ·obtain rfl:i=N2:=Ci;have q7:¬(i:Int)<(i:Int):=Ci
     obtain rfl:Z=0:=by
      rw[←HZ3.out,if_pos];unfold mR;rw[List.all_eq_true];intro j hj;exact HOK.out j (by have:=List.mem_range.1 hj;have:=HN2.out;omega)
     as_aux_lemma=>
     go_wp2;go_ret;exact⟨rfl,HOB.out.2.below⟩
theorem dE {fr bk:List (List Int)} (h:fmE fr bk=0):0<fr.length∧fr.length=bk.length∧0<(fr.getD 0 []).length∧(∀r∈fr++bk,r.length=(fr.getD 0 []).length)∧∀r∈fr++bk,∀x∈r,x.natAbs≤(fr++bk).flatten.length:=by
 unfold fmE at h
 split at h
 ·cases h
 ·rename_i h1
  split at h
  ·cases h
  ·rename_i h2
   split at h
   ·rename_i h3;refine⟨Ci,Ci,Ci,λr hr=>?_,λr hr x hx=>?_⟩
    ·have:=List.any_eq_false.1 (Bool.eq_false_iff.2 h2) r hr;simpa using this
    ·obtain⟨i,hi,e⟩:=Be.1 (List.mem_flatten.2 ⟨r,hr,hx⟩);unfold mR at h3;have h4:=List.all_eq_true.1 h3 i (List.mem_range.2 hi);unfold Pe at h4;rw[List.getD_eq_getElem?_getD,Aw hi,e]at h4;simp only[Option.getD_some,Bool.and_eq_true,decide_eq_true_eq]at h4;exact h4.1.2
   ·cases h
def pV (a b:Nat) (fr:List (List Int)):Prop:=fr.length=b∧(fr.getD 0 []).length=a
def Bd3 (Z:Int) (n:Nat) (fit:Prop) (F:Nat→Int) (w:Aj) (e:Ending) (w':Aj):Prop:=Below w.heap.size w w'∧
 ((Z≠0∧e= .returned (.tuple #[Ad Ae 0 0,Aa Ab Z]))∨(Z=0∧¬fit∧e= .returned (.tuple #[Ad Ae 0 0,Aa Ab 5]))∨
  (Z=0∧fit∧∃g,w.heap.size≤g∧e= .returned (.tuple #[Ad (Af ⟨g,0,Ae⟩) n n,Aa Ab 0])∧w'.heap[g]? =Af (Ms n F)))
def wH (a b:Nat) (fr bk:List (List Int)) (m:List Mv) (ids:List Nat) (w:Aj) (e:Ending) (w':Aj):Prop:=
 Bd3 (fmE fr bk) (2*ids.length) (pV a b fr) (λk=>sgn (pgK a m ids k) (fmL fr bk (pgK a m ids k))) w e w'
structure jX (w:Aj) (FA BA:Option Addr) (fr bk:List Gq):Prop where
 f:Ik w FA fr
 b:Ik w BA bk
 lf:fr.length≤100
 lb:bk.length≤100
 lk:∀r∈fr++bk,r.ks.length≤100
theorem jX.below {w w':Aj} {FA BA:Option Addr} {fr bk:List Gq} (h:jX w FA BA fr bk) (hb:Below w.heap.size w w'):jX w' FA BA fr bk:=⟨h.f.below hb,h.b.below hb,h.lf,h.lb,h.lk⟩
def ksL (l:List Gq):List (List Int):=l.map (·.ks)
theorem Sw {l:List Gq} {y:Nat} (h:y<l.length):(ksL l).getD y []=l[y].ks:=by
 unfold ksL;rw[List.getD_eq_getElem?_getD,List.getElem?_map,Aw h];rfl
theorem Wl {l:List Int} {x:Nat} (h:x<l.length):l.getD x 0=l[x]:=by
 rw[List.getD_eq_getElem?_getD,Aw h];rfl
theorem Ay7 {w:Aj} {FA BA:Option Addr} {fr bk:List Gq} {a b:Nat} (h:jX w FA BA fr bk) (h1:fr.length=b) (h2:bk.length=b) (hr:∀r∈fr++bk,r.ks.length=a) (c1 c2:Nat) (p:Pg) (hx:p.x<a) (hy:p.y<b):
  ∃g o,g<w.heap.size∧w.cell? ⟨g,o,Ae⟩=Af (Aa Ab (fmL (ksL fr) (ksL bk) p))∧
   ∀w',Below w.heap.size w w'→Al Tryz.prog 21 #[.agg #[Ad FA b c1,Ad BA b c2],.agg #[Aa Ab p.x,Aa Ab p.y,.bool p.bk,.bool p.dn]] w' (Co (.pointer (Af ⟨g,o,Ae⟩)) w'):=by
 have hlk:=h.lk;obtain⟨x,y,bkk,dn⟩:=p;dsimp only at hx hy⊢;unfold fmL
 cases bkk with
 |false=>
  have hyl:y<fr.length:=Ci;obtain⟨hb,ho,rfl,hbl,hc⟩:=h.f.at' y hyl;have hrow:=h.f.row fr[y] (Ay _);have hrl:=hr fr[y] (List.mem_append_left _ (Ay _));obtain⟨g,o,hg,hgl,hcell⟩:=hrow.at' x Ci;rw[hg,hrl]at hc;refine⟨g,o+x,hgl,?_,λw' hb2=>Ap9 BA b c2 hb ho b c1 y x g o a fr[y].c dn w' hy hx (Bq hbl hb2.size) (Cj hb2 hc)⟩;show w.cell? _=Af (Aa Ab (((ksL fr).getD y []).getD x 0));rw[Sw hyl,Wl Ci];exact hcell
 |true=>
  have hyl:y<bk.length:=Ci;obtain⟨hb,ho,rfl,hbl,hc⟩:=h.b.at' y hyl;have hrow:=h.b.row bk[y] (Ay _);have hrl:=hr bk[y] (List.mem_append_right _ (Ay _));obtain⟨g,o,hg,hgl,hcell⟩:=hrow.at' (a-1-x) Ci;rw[hg,hrl]at hc;have ha:a≤100:=by rw[←hrl];exact hlk _ (List.mem_append_right _ (Ay _))
  refine⟨g,o+(a-1-x),hgl,?_,λw' hb2=>Ap8 FA b c1 hb ho b c2 y x g o a bk[y].c dn w' hy hx Ci (Bq hbl hb2.size) (Cj hb2 hc)⟩;show w.cell? _=Af (Aa Ab (((ksL bk).getD y []).getD (((ksL bk).getD y []).length-1-x) 0));rw[Sw hyl,hrl,Wl Ci];exact hcell
theorem sM {fr bk:List Gq} {a b:Nat} (h0:fmE (ksL fr) (ksL bk)=0) (h1:fr.length=b) (h2:bk.length=b) (hr:∀r∈fr++bk,r.ks.length=a) (ha:a≤100) (hb:b≤100) {p:Pg} (hx:p.x<a) (hy:p.y<b):(fmL (ksL fr) (ksL bk) p).natAbs≤20000:=by
 obtain⟨-,-,-,e4,e5⟩:=dE h0
 have hfl:(ksL fr++ksL bk).flatten.length≤20000:=by
  have:∀r∈ksL fr++ksL bk,r.length=a:=λr h=>by
   unfold ksL at h;rw[Wm]at h;obtain⟨z,hz,rfl⟩:=List.mem_map.1 h;exact hr z hz
  rw[Pv _ this];unfold ksL;rw[Bh,Bo,Bo,h1,h2];have:(b+b)*a≤200*100:=Nat.mul_le_mul Ci ha;omega
 unfold fmL
 split
 ·have hyl:p.y<bk.length:=Ci;have hrl:=hr bk[p.y] (List.mem_append_right _ (Ay _));rw[Sw hyl,Wl Ci];exact Br (e5 bk[p.y].ks (List.mem_append_right _ (List.mem_map_of_mem (Ay hyl))) _ (Ay _)) hfl
 ·have hyl:p.y<fr.length:=Ci;have hrl:=hr fr[p.y] (List.mem_append_left _ (Ay _));rw[Sw hyl,Wl Ci];exact Br (e5 fr[p.y].ks (List.mem_append_left _ (List.mem_map_of_mem (Ay hyl))) _ (Ay _)) hfl
def Tl (f:Nat→Int) (k j:Nat):Int:=if j<k then f j else 0
theorem vF (f:Nat→Int) (n:Nat):Ms n (Tl f 0)=Ms n λ_=>0:=by
 unfold Tl;simp
theorem vE (f:Nat→Int) (k:Nat):(λj=>if j=k then f k else Tl f k j)=Tl f (k+1):=by
 funext j
 unfold Tl;by_cases e:j=k
 ·subst e;simp
 ·rw[if_neg e];by_cases h:j<k
  ·rw[if_pos h,if_pos Ci]
  ·rw[if_neg h,if_neg Ci]
theorem uX (f:Nat→Int) (n:Nat):Ms n (Tl f n)=Ms n f:=by
 unfold Ms
 congr 2
 apply List.map_congr_left;intro x hx;unfold Tl;rw[if_pos (List.mem_range.1 hx)]
def Yw (n:Nat) (f:Nat→Int):Array Ak:=((List.range n).map λx=>Value.int .i64 (f x)).toArray
theorem Tg (n:Nat) (f:Nat→Int) (x:Nat) (v:Int):(Yw n f).setIfInBounds x (Aa Ab v)=Yw n λj=>if j=x then v else f j:=by
 unfold Yw;apply Array.ext
 ·simp
 ·intro i h1 h2;simp only[Array.size_setIfInBounds,List.size_toArray,Bo,List.length_range]at h1;rw[Array.getElem_setIfInBounds (by simpa using h1)];by_cases hx:x=i
  ·subst hx;simp
  ·rw[if_neg hx];simp[Ne.symm hx]
theorem uW (n:Nat) (f:Nat→Int):Array.replicate n (Value.int .i64 0)=Yw n (Tl f 0):=by
 have h:=bM n;rw[←vF f]at h;unfold Ms at h;injection h
theorem bK {n:Nat} {f:Nat→Int} {w:Aj} {g x:Nat} (h:w.heap[g]? =Af (Obj.cells (Yw n f) 3 (0,0))) (hx:x<n):w.cell? ⟨g,x,Ae⟩=Af (Aa Ab (f x))∧w.frozen? ⟨g,x,Ae⟩=false:=Lr h hx
theorem Ac6 {z:Int} (h:z.natAbs≤20000):Ab.wrap (-z)= -z:=Ca _ Ci
theorem jE (a b:Nat) (s:St) (m:List Mv) (ls:List Nat) (hO:pF a b s m ls) (hok:∀k,k<2*ls.reverse.length→(pgK a m ls.reverse k).x<a∧(pgK a m ls.reverse k).y<b) (FA BA:Option Addr) (fr bk:List Gq) (c1 c2:Nat) (pA:Option Addr) (pc:Nat) (A:Option Addr) (cc:Nat) (w:Aj) (hF0:jX w FA BA fr bk) (hA:AOk pA s.cr.length pc) (hpr:Rd w pA 3 s.cr.length (crs s.cr)) (hst:Dh w A s.l) (hQ:Qf w) (hT:Tn w):
  Al Tryz.prog 9 #[.agg #[Ad FA fr.length c1,Ad BA bk.length c2],.agg #[Aa Ab s.a,Aa Ab s.b,Ad pA s.cr.length pc,Aa Ac s.root.t,Aa Ab s.root.x,Aa Ab s.root.y,Ad A s.l.length cc]] w (wH a b (ksL fr) (ksL bk) m ls.reverse w):=by
 have HPG:=Ah (λ(w':Aj) (hb:Below w.heap.size w w')=>Nn a b s m ls hO pA pc A cc w' hA (hpr.below hb) (hst.below hb) (hQ.below hb) (hT.below hb));have HCK:=Ah (λ(w':Aj) (hb:Below w.heap.size w w')=>Xi FA BA fr bk c1 c2 w' (hF0.below hb).f (hF0.below hb).b hF0.lf hF0.lb hF0.lk);have hbd:=hO.bd;have hln:=hO.len.1;have hsa:=hO.sa;have hsb:=hO.sb;obtain⟨ids,hids⟩:=ey ls.reverse;have hil:ids.length≤256:=by rw[←hids,List.length_reverse];exact hln
 rw[hids]at HPG hok⊢;have HOK:=Ah hok;obtain⟨cn,hcn⟩:=ey s.cr.length;obtain⟨sn,hsn⟩:=ey s.l.length;rw[hcn,hsn,hsa,hsb]at HPG;rw[hcn,hsn,hsa,hsb];obtain⟨⟨rt,rx,ry⟩,hroot⟩:=ey s.root;rw[hroot]at HPG⊢;dsimp only at HPG⊢;obtain⟨n,hn⟩:=ey (2*ids.length);have hn5:n≤512:=Ci;rw[hn]at HOK;have HN:=Ah hn;have HFM:=Ah hF0;obtain⟨Z,hZ⟩:=ey (fmE (ksL fr) (ksL bk));have HZ:=Ah hZ;have hck2:fmE (fr.map (·.ks)) (bk.map (·.ks))=Z:=hZ;rw[hck2]at HCK;unfold wH;rw[hZ,hn];obtain⟨fit,hft⟩:=ey (pV a b (ksL fr));have HFT:=Ah hft;rw[hft];clear hft;obtain⟨F,hF⟩:=ey ((λk=>sgn (pgK a m ids k) (fmL (ksL fr) (ksL bk) (pgK a m ids k))));rw[hF];have HFF:Hid (∀k,F k=sgn (pgK a m ids k) (fmL (ksL fr) (ksL bk) (pgK a m ids k))):=Ah λk=>by rw[←hF]
 clear hF;have H:=((Bx.start w).new #[Ad FA fr.length c1,Ad BA bk.length c2] 39 rfl).new #[Aa Ab a,Aa Ab b,Ad pA cn pc,Aa Ac rt,Aa Ab rx,Aa Ab ry,Ad A sn cc] 33 (N:=w.heap.size+1) Cn;clear hO hok hA hpr hst hQ hT hln hsa hsb hids hcn hsn hroot hil hn hF0 hZ hck2;go_enter Tryz.func9,Tryz.ntmps9;go_upto_region 1 with fail;obtain⟨N,hN⟩:=ez w.heap.size;rw[←hN]at H⊢;have HNN:=Ah hN;clear hN;obtain⟨P1,hP1⟩:=ey (N+1);rw[hP1]at H⊢;clear hP1;obtain⟨W1,hW1⟩:=ez ((w.alloc (.cells #[Ad FA fr.length c1,Ad BA bk.length c2] 39)).alloc (.cells #[Aa Ab a,Aa Ab b,Ad pA cn pc,Aa Ac rt,Aa Ab rx,Aa Ab ry,Ad A sn cc] 33));rw[←hW1]at H⊢;clear hW1;obtain⟨⟨f0,f1⟩,-⟩:=Cy (H.blk 0 _ _ _ rfl);go_wp2_with fail;refine(HCK.out _ H.below).mono ?_;rintro ee w2 ⟨rfl,hb⟩;have H:=H.call hb;clear f0 f1 hb HCK;obtain⟨a0,a1,a2,a3,a4,a5,a6⟩:=Gb (H.blk 1 _ _ _ rfl);by_cases h0:¬Z=0
 ·have q0:(Z != 0)=true:=by simpa using h0
  clear a0 a1 a2 a3 a4 a5 a6 HPG
  as_aux_lemma=>
  go_wp2_with fail;refine Ai (v:= .tuple #[Ad Ae 0 0,Aa Ab Z]) (by simp[results,Tryz.results9,go_sem]) rfl ?_;exact⟨H.below,.inl ⟨h0,rfl⟩⟩
 obtain rfl:Z=0:=Classical.not_not.1 h0;clear h0;go_wp2_with fail;refine(HPG.out _ H.below).mono ?_;rintro ee w3 ⟨hb,pgA0,pgC,rfl,hown⟩;have H:=H.call hb;rw[HN.out]at hown;rw[HN.out];obtain⟨O,hO1⟩:=ey w2.heap.size;rw[hO1]at hown;clear a0 a1 a2 a3 a4 a5 a6 hb HPG hO1;obtain⟨a0,a1,a2,a3,a4,a5,a6⟩:=Gb (H.blk 1 _ _ _ rfl);obtain⟨⟨f0,f1⟩,-⟩:=Cy (H.blk 0 _ _ _ rfl);obtain⟨z1,z2,z3,z4,-⟩:=dE HZ.out;unfold ksL at z1 z2;rw[Bo]at z1 z2;rw[Bo]at z2;obtain⟨hb0,ho0,hFA,hbl0,g0⟩:=(HFM.out.below H.below).f.at' 0 z1;have hk0:(ksL fr).getD 0 []=fr[0].ks:=Sw z1;have hl0:=HFM.out.lk fr[0] (List.mem_append_left _ (Ay _));obtain⟨⟨rA,rc,rks⟩,hr0⟩:=ey (fr[0]);rw[hr0]at g0 hk0 hl0;dsimp only at g0 hk0 hl0;obtain⟨c,hc⟩:=ey rks.length
 have hfit:pV a b (ksL fr)↔fr.length=b∧c=a:=by
  unfold pV;rw[hk0,hc];unfold ksL;rw[Bo]
 have HFIT:=Ah hfit
 have HROW:Hid (∀r∈fr++bk,r.ks.length=c):=Ah λr hr=>by
  have h1:=z4 r.ks (by unfold ksL;rw[Wm];exact List.mem_map_of_mem hr);rw[hk0,hc]at h1;exact h1
 have HLB:=Ah (show bk.length=fr.length by omega);rw[hc]at g0 hl0;have g0:w3.cell? ⟨hb0,ho0,Ae⟩=Af (Ad rA c rc):=by simpa using g0
 subst hFA;clear hfit hk0 hr0 hc z2 z3 z4;obtain⟨nf,hnf⟩:=ey fr.length;have hlf:=HFM.out.lf;rw[hnf]at z1 hlf H f0 HFIT HLB⊢;have HNF:=Ah hnf;rw[HLB.out]at H f1⊢;have q5:(0:Int)<(nf:Int):=Ci;clear hnf;by_cases h1:¬nf=b
 ·have q0:((nf:Int) != (b:Int))=true:=by simp;omega
  have hH:=Ah H.below;clear H;go_wp2
  go_quiet (fail)
  go_wp2_with fail;refine Ai (v:= .tuple #[Ad Ae 0 0,Aa Ab 5]) (by simp[results,Tryz.results9,go_sem]) rfl ?_;exact⟨hH.out.trans (Dg (Ag _ _) nq|>.mono hH.out.size),.inr (.inl ⟨rfl,λh=>h1 (HFIT.out.1 (by rw[HFT.out];exact h)).1,rfl⟩)⟩
 obtain rfl:b=nf:=(Classical.not_not.1 h1).symm;clear h1;by_cases h2:¬c=a
 ·have q0:((c:Int) != (a:Int))=true:=by simp;omega
  have hH:=Ah H.below;clear H;go_wp2
  go_quiet (fail)
  go_wp2_with fail;refine Ai (v:= .tuple #[Ad Ae 0 0,Aa Ab 5]) (by simp[results,Tryz.results9,go_sem]) rfl ?_;exact⟨hH.out.trans (Dg (Ag _ _) nq|>.mono hH.out.size),.inr (.inl ⟨rfl,λh=>h2 (HFIT.out.1 (by rw[HFT.out];exact h)).2,rfl⟩)⟩
 obtain rfl:a=c:=(Classical.not_not.1 h2).symm;clear h2;have m1:=Yg n Ci;go_wp2
 go_quiet (fail)
 have H:=H.drewN nq;have hown:=Kh (w':=w3.drewN nq) hown λ_ _=>rfl;obtain⟨W4,hW4⟩:=ez (w3.drewN nq);rw[←hW4]at H hown⊢;clear hW4;clear a0 a1 a2 a3 a4 a5 a6 f0 f1 g0;obtain⟨OB,hOB⟩:=ey W4.heap.size;have hqO:∀q,Value.ownBlock (Ad pgA0 n pgC)=Af q→q<OB:=λq hq=>hOB▸(hown.lt q hq).2;have hOBl:w.heap.size≤OB:=hOB▸H.below.size;have H:=H.new (Array.replicate n (Aa Ab 0)) 3 hOB;have hown:=hown.alloc (.cells (Array.replicate n (Aa Ab 0)) 3);go_upto_region 10 with fail
 try rw[hOB]
 obtain⟨W5,hW5⟩:=ez (W4.alloc (.cells (Array.replicate n (Aa Ab 0)) 3));rw[←hW5]at H hown⊢;clear hW5;clear m1 hOB;have HAT:=Ah (λ(k:Nat) (hk:k<n)=>Ay7 HFM.out HNF.out HLB.out HROW.out c1 c2 (pgK a m ids k) (HOK.out k hk).1 (HOK.out k hk).2);have HBN:=Ah (λ(k:Nat) (hk:k<n)=>sM HZ.out HNF.out HLB.out HROW.out Ci Ci (HOK.out k hk).1 (HOK.out k hk).2);obtain⟨V,hV⟩:∃V:Nat→Int,V=λk=>fmL (ksL fr) (ksL bk) (pgK a m ids k):=⟨_,rfl⟩;have hVk:∀k,fmL (ksL fr) (ksL bk) (pgK a m ids k)=V k:=λk=>by rw[hV]
 simp only[hVk]at HAT HBN;have HF:Hid (∀k,F k=sgn (pgK a m ids k) (V k)):=Ah λk=>by rw[HFF.out k,hVk]
 clear hVk hV HFF;rw[uW n F]at H;have HI0:Hid (Bx w [(N,#[Ad (Af ⟨hb0,ho0,Ae⟩) b c1,Ad BA b c2],39),(P1,#[Aa Ab a,Aa Ab b,Ad pA cn pc,Aa Ac rt,Aa Ab rx,Aa Ab ry,Ad A sn cc],33),(OB,Yw n (Tl F 0),3)] W5∧W5.ownsRow O 50 4 (Ad pgA0 n pgC) n (pgs a m ids)):=Ah ⟨H,hown⟩;clear H hown;go_wp2
 go_loopw [50] (λs50 wr=>∃k:Nat,k≤n∧s50= Aa Ab k∧Hid (Bx w [(N,#[Ad (Af ⟨hb0,ho0,Ae⟩) b c1,Ad BA b c2],39),(P1,#[Aa Ab a,Aa Ab b,Ad pA cn pc,Aa Ac rt,Aa Ab rx,Aa Ab ry,Ad A sn cc],33),(OB,Yw n (Tl F k),3)] wr∧wr.ownsRow O 50 4 (Ad pgA0 n pgC) n (pgs a m ids))) (λs50 _=>n-(intOf s50).toNat)
 case atStart=>exact⟨0,Ci,rfl,HI0⟩
 case round=>
  obtain⟨k,hk,rfl,HZZ⟩:=hrel;clear HI0;by_cases hlt:k<n
  ·have q0:(k:Int)<(n:Int):=Ci;obtain⟨HB,hown⟩:=HZZ.out;obtain⟨b0,o0,hpA,hbl1,c0,c1,c2,c3⟩:=bI HN.out.symm (Rd.of_own hown) k hlt;obtain⟨ag,ao,hag,hac,hat⟩:=HAT.out k hlt;have hbn:=HBN.out k hlt;have hFk:=HF.out k;obtain⟨⟨px,py,pbk,pdn⟩,hp⟩:=ey (pgK a m ids k);rw[hp]at c0 c1 c2 c3 hat hFk;dsimp only at c0 c1 c2 c3 hat;have HATK:=Ah hat;have HAC:=Ah (λ(w':Aj) (hb:Below w.heap.size w w')=>Cj hb hac);obtain⟨v,hv⟩:=ey (V k);rw[hv]at hbn hFk HAC;have HFK:=Ah hFk;have HBN2:=Ah hbn;obtain⟨B8,hB8⟩:=ey wr.heap.size;have HB:=HB.new #[Aa Ab px,Aa Ab py,.bool pbk,.bool pdn] 50 hB8;have HW:=Ah (hown.alloc (.cells #[Aa Ab px,Aa Ab py,.bool pbk,.bool pdn] 50));have hqB:∀q,Value.ownBlock (Ad pgA0 n pgC)=Af q→q<OB:=hqO;subst hpA;clear hp hat hac hv hFk hbn hown HZZ;go_upto_region 13 with fail
   try rw[hB8]
   obtain⟨W6,hW6⟩:=ez (wr.alloc (.cells #[Aa Ab px,Aa Ab py,.bool pbk,.bool pdn] 50));rw[←hW6]at HB HW⊢;clear hW6;clear c0 c1 c2 c3 hB8;obtain⟨⟨p0,p1,p2,p3⟩,-⟩:=Ez (HB.blk 3 _ _ _ rfl);obtain⟨⟨f0,f1⟩,-⟩:=Cy (HB.blk 0 _ _ _ rfl);have HH6:=Ah HB;have HLT:=Ah hlt;clear HB;go_wp2_with fail;refine(HATK.out _ HH6.out.below).mono ?_;rintro ee w7 ⟨rfl,hb⟩;have HB7:=HH6.out.call hb;have HW7:=Kh HW.out λq hq=>hb.block q (HW.out.lt q hq).2;have d0:=HAC.out _ HB7.below;obtain⟨e0,e1⟩:=bK (HB7.blk 2 _ _ _ rfl) HLT.out;have HB8:=HB7.set 2 k rfl (Aa Ab v);have h8:=HB8.blk 2 _ _ _ rfl;rw[Tg]at h8;obtain⟨e2,e3⟩:=bK h8 HLT.out;rw[if_pos rfl]at e2;obtain⟨⟨p0,p1,p2,p3⟩,-⟩:=Ez (HB7.blk 3 _ _ _ rfl);obtain⟨⟨p4,p5,p6,p7⟩,-⟩:=Ez (HB8.blk 3 _ _ _ rfl);have ek:Ab.wrap ((k:Int)+1)=(k:Int)+1:=(Zf HLT.out hn5).1;have en:Ab.wrap (-v)= -v:=Ac6 HBN2.out
   have HFIN:Hid (∀(X:Aj) (u:Int),F k=u→(∃cs,Bx w [(N,#[Ad (Af ⟨hb0,ho0,Ae⟩) b c1,Ad BA b c2],39),(P1,#[Aa Ab a,Aa Ab b,Ad pA cn pc,Aa Ac rt,Aa Ab rx,Aa Ab ry,Ad A sn cc],33),(OB,Yw n (λj=>if j=k then u else Tl F k j),3),(B8,cs,50)] X)→X.ownsRow O 50 4 (Ad (Af ⟨b0,o0,Ae⟩) n pgC) n (pgs a m ids)→
     Hid (Bx w [(N,#[Ad (Af ⟨hb0,ho0,Ae⟩) b c1,Ad BA b c2],39),(P1,#[Aa Ab a,Aa Ab b,Ad pA cn pc,Aa Ac rt,Aa Ab rx,Aa Ab ry,Ad A sn cc],33),(OB,Yw n (Tl F (k+1)),3)] X∧X.ownsRow O 50 4 (Ad (Af ⟨b0,o0,Ae⟩) n pgC) n (pgs a m ids))):=Ah λX u hu hX ho=>by
    obtain⟨cs,hX⟩:=hX;rw[←hu,vE]at hX;exact Ah ⟨hX.upto 3,ho⟩
   have HW8:=Ah (Kh (w':=w7.setCell ⟨OB,k,Ae⟩ (Aa Ab v)) HW7 λq hq=>Db (by have:=hqB q hq;omega));have HB8:=Ah HB8;clear HB7 HW7 h8 hb HH6 HW HATK HAC f0 f1 hqO
   cases pdn with
   |false=>
    have HREL:=HFIN.out _ v (by rw[HFK.out];rfl) ⟨_,by have:=HB8.out;rw[←Tg];exact this⟩ HW8.out;clear HFIN HB8 HW8
    as_aux_lemma=>
    go_wp2;exact⟨⟨k+1,Nat.succ_le_of_lt HLT.out,Cn,HREL⟩,Tk HLT.out⟩
   |true=>
    have HB9:=HB8.out.set 2 k rfl (Aa Ab (-v));have HW9:=Kh (w':=(w7.setCell ⟨OB,k,Ae⟩ (Aa Ab v)).setCell ⟨OB,k,Ae⟩ (Aa Ab (-v))) HW8.out λq hq=>Db (by have:=hqB q hq;omega)
    have e9:((Yw n (Tl F k)).setIfInBounds k (Aa Ab v)).setIfInBounds k (Aa Ab (-v))=Yw n λj=>if j=k then-v else Tl F k j:=by
     rw[Tg,Tg]
     congr 1
     funext j
     by_cases e:j=k
     ·rw[if_pos e,if_pos e]
     ·rw[if_neg e,if_neg e,if_neg e]
    have HREL:=HFIN.out _ (-v) (by rw[HFK.out];rfl) ⟨_,by rw[←e9];exact HB9⟩ HW9;clear HFIN HB8 HW8 HB9 HW9 e9
    as_aux_lemma=>
    go_wp2;exact⟨⟨k+1,Nat.succ_le_of_lt HLT.out,Cn,HREL⟩,Tk HLT.out⟩
  ·obtain rfl:k=n:=Ci;have q0:¬(k:Int)<(k:Int):=Ci;have HB:=Ah HZZ.out.1
   as_aux_lemma=>
   go_wp2_with fail;refine Ai (v:= .tuple #[Ad (Af ⟨OB,0,Ae⟩) k k,Aa Ab 0]) (by simp[results,Tryz.results9,go_sem]) rfl ?_;refine⟨HB.out.below,.inr (.inr ⟨rfl,by rw[←HFT.out];exact HFIT.out.2 Cn,OB,hOBl,rfl,?_⟩)⟩;have h9:=HB.out.blk 2 _ _ _ rfl;rw[←uX];exact h9
end Go.Proofs.YthpcfeifmdbhnaaGreatDoor
