import Derived.Test.YthpcfeifmdbhnaaGreatDoorQHvg
import Derived.Test.YthpcfeifmdbhnaaGreatDoorQFlt
import Derived.Test.YthpcfeifmdbhnaaGreatDoorQSra
open Array renaming getElem?_eq_some_iff→Au
open Go renaming Calls→Al,Value→Ak,World→Aj,bodyPost_ret→Ai,wpAnyH_done→An,wp_region_held_drew→Ao
open Go.IntKind renaming i64→Ab,u8→Ac
open Go.IntWalk renaming i64_in→Ca,wrap64_in→Cb
open Go.Lib renaming hid→Ah,wpList_append_run→As
open Go.RowKit.Below renaming refl→Ag
open Go.Value renaming int→Aa,slice→Ad
open List renaming getElem?_eq_getElem→Aw,getElem?_eq_some_iff→Ax,getElem_cons_succ→Cd,getElem_cons_zero→Cc,getElem_mem→Ay,getElem_toArray→Ce,length_map→Bo,mem_append→Bl,mem_cons→Bk,setIfInBounds_toArray→Ch,set_cons_succ→Cg,set_cons_zero→Cf
open Nat renaming le_refl→Am,le_trans→Br,lt_of_lt_of_le→Bq,zero_add→Bt
open Option renaming none→Ae,some→Af
set_option maxHeartbeats 16000000
set_option maxRecDepth 100000
namespace Go.Proofs.YthpcfeifmdbhnaaGreatDoor
open Go.RowKit
def eQ (xo i:Nat):Bool:=((xo:Int)/2^i).tmod 2==1
def ovG (xo:Nat):List Bool:=(List.range 8).map (eQ xo)
def Mp (xw xh xo:Nat):List Fd:=hvG (ovG xo) 10 (2^(xw%4)) (2^(xh%3)) 0
def jY (l:List Fd) (t:St) (w:Aj) (e:Ending) (w':Aj):Prop:=∃cs A,e= .returned (.tuple #[.agg cs.toArray,Ad A l.length l.length])∧Rb w.heap.size w' cs t∧Rd w' A 4 l.length (Qo l)∧Below w.heap.size w w'∧∀q,A=Af q→w.heap.size≤q.block
theorem Aq9 (x:Nat):2^(x%4)∈([1,2,4,8]:List Nat):=by
 have:x%4=0∨x%4=1∨x%4=2∨x%4=3:=Ci;rcases this with h|h|h|h<;>rw[h]<;>decide
theorem Aq8 (x:Nat):2^(x%3)∈([1,2,4]:List Nat):=by
 have:x%3=0∨x%3=1∨x%3=2:=Ci;rcases this with h|h|h<;>rw[h]<;>decide
theorem jV {k n:Nat} (h:2^k=n) (hn:n≤8):wrap64 ((2:Int)^k)=(n:Int):=by
 have e:(2:Int)^k=(n:Int):=by rw[←h];simp
 rw[e];exact Cb _ Ci
theorem Au9:(Tryz.prog.info? 4).map (λi=>(i.zero,i.size,i.bytes))=Af (Af (.bool false),1,1):=Cm
theorem rW (xo i:Nat):De ((List.range (i+1)).map (eQ xo))=De ((List.range i).map (eQ xo))++[.bool (eQ xo i)]:=by
 rw[List.range_succ];simp[De]
theorem nK {w:Aj} {A:Option Addr} {l:List Fd} {n:Nat} (h:Rd w A 4 n (Qo l)) (i:Nat) (hi:i<l.length):
  ∃b o,A=Af ⟨b,o,Ae⟩∧b<w.heap.size∧w.cell? ⟨b,o+i*4,Ae⟩=Af (Aa Ac l[i].k)∧w.cell? ⟨b,o+i*4+1,Ae⟩=Af (Aa Ab l[i].c)∧w.cell? ⟨b,o+i*4+2,Ae⟩=Af (Aa Ac l[i].side)∧w.cell? ⟨b,o+i*4+3,Ae⟩=Af (.bool l[i].over):=by
 have hl:=h.1;unfold Qo at hl;rw[Fv fdG 4 (λ_=>rfl)]at hl;obtain⟨b,o,e,hb,hc⟩:=h.2 Ci;have hat:∀f,f<4→(Qo l)[i*4+f]? =(fdG l[i])[f]? :=λf hf=>Dz fdG 4 (λ_=>rfl) _ i f hi hf;exact⟨b,o,e,hb,hc (i*4+0) _ ((hat 0 Ci).trans rfl),hc (i*4+1) _ ((hat 1 Ci).trans rfl),hc (i*4+2) _ ((hat 2 Ci).trans rfl),hc (i*4+3) _ ((hat 3 Ci).trans rfl)⟩
structure Ar7 (w W8:Aj) (N T:Nat) (gc:Array Ak) (l:List Fd) (t:St) (i:Nat) (s:St) (wr:Aj):Prop where
 gs:Gs s
 rep:Ru (l.drop i) s t
 mem:∃cs,Rb (N+2) wr cs s∧Bx w [(N,gc,23),(N+1,stZ.toArray,33),(T,cs.toArray,33)] wr
 bl:Below T W8 wr
theorem Gv {W:Aj} {g b i o:Nat} {v:Ak} (h:b≠g):(W.setCell ⟨g,i,Ae⟩ v).cell? ⟨b,o,Ae⟩=W.cell? ⟨b,o,Ae⟩:=by
 unfold World.cell?;rw[Below.heap_setCell W ⟨g,i,Ae⟩ v b h]
theorem Xm {n k:Nat} (h:k<n):n-(intOf (Aa Ab ((k:Int)+1))).toNat<n-(intOf (Aa Ab (k:Int))).toNat:=by
 show n-((k:Int)+1).toNat<n-((k:Int)).toNat;omega
theorem dG (xw xh xo:Nat) (h1:xw≤255) (h2:xh≤255) (_:xo≤255) (t:St) (hr:Ru (Mp xw xh xo) (Ex ((2^(xw%4):Nat):Int) ((2^(xh%3):Nat):Int)) t) (w:Aj) (hQ:Qf w) (hT:Tn w):
  Al Tryz.prog 6 #[.agg #[Aa Ac xw,Aa Ac xh,Aa Ac xo]] w (jY (Mp xw xh xo) t w):=by
 have hpw:=Aq9 xw;have hph:=Aq8 xh;have hfl:=qA hpw hph (ovG xo);unfold Mp at hr⊢;obtain⟨a,ha⟩:∃z:Nat,2^(xw%4)=z:=⟨_,rfl⟩;obtain⟨b,hb⟩:∃z:Nat,2^(xh%3)=z:=⟨_,rfl⟩;rw[ha,hb]at hr⊢;rw[ha]at hpw;rw[hb]at hph;rw[ha,hb]at hfl;have S:=Zb hpw hph;have hgs:=pU S;have hbo:(Df (a:Int) (b:Int) [] mv0).2=0:=hgs.both;have HQT:=Ah (λ(w':Aj) (hb:Below w.heap.size w w')=>show Qf w'∧Tn w' from⟨hQ.below hb,hT.below hb⟩);have HFL:=Ah (λ(w':Aj) (hb:Below w.heap.size w w')=>xQ (a:Int) (b:Int) w' S.ok hbo (hQ.below hb) (hT.below hb));have HHV:=Ah (λ(A:Option Addr) (cc:Nat) (w':Aj) (h:Rd w' A 1 8 (De (ovG xo)))=>fT a b hpw hph A (ovG xo) cc w' (by simp[ovG]) h);have ha8:a≤8:=by simp only[Bk,List.not_mem_nil,or_false]at hpw;omega
 have hb8:b≤8:=by simp only[Bk,List.not_mem_nil,or_false]at hph;omega
 have eA:=jV ha ha8;have eB:=jV hb hb8;obtain⟨l,hl⟩:=ey (hvG (ovG xo) 10 a b 0);rw[hl]at hr hfl HHV⊢;obtain⟨m,hm⟩:=ey l.length;rw[hm]at hfl
 have hm6:m≤6:=by
  rcases Nat.lt_or_ge 6 m with h|h
  ·exfalso;have h7:2^7≤2^m:=Nat.pow_le_pow_right Ct h;have h8:a*b≤8*8:=Nat.mul_le_mul ha8 hb8;omega
  ·exact h
 have HM:=Ah hm;have HRP:=Ah hr;have HGS:=Ah hgs;have H:=((Bx.start w).new #[Aa Ac xw,Aa Ac xh,Aa Ac xo] 23 rfl).new stZ.toArray 33 (N:=w.heap.size+1) Cn;clear hpw hph hfl hr S hgs hbo hQ hT hl hm ha8 hb8;go_enter Tryz.func6,Tryz.ntmps6;go_upto_region 1 with fail;obtain⟨N,hN⟩:=ez w.heap.size;rw[←hN]at H⊢;have HNN:=Ah hN;clear hN;unfold stZ at H;obtain⟨W1,hW1⟩:=ez ((w.alloc (.cells #[Aa Ac xw,Aa Ac xh,Aa Ac xo] 23)).alloc (.cells #[Aa Ab 0,Aa Ab 0,Ad Ae 0 0,Aa Ac 0,Aa Ab 0,Aa Ab 0,Ad Ae 0 0] 33));rw[←hW1]at H⊢;clear hW1;obtain⟨a0,a1,a2⟩:=Cv (H.blk 0 _ _ _ rfl);have EAB:=Ah (And.intro eA eB);clear eA eB ha hb;go_upto_region 2 with fail;rw[EAB.out.1,EAB.out.2];obtain⟨T4,hT4⟩:=ey W1.heap.size;have H:=H.new #[Aa Ab a,Aa Ab b] 25 hT4
 try rw[hT4]
 obtain⟨W2,hW2⟩:=ez (W1.alloc (.cells #[Aa Ab a,Aa Ab b] 25));rw[←hW2]at H⊢;clear hW2;clear hT4 a0 a1 a2 EAB;have HH2:=Ah H;have HI0:Hid (Below W2.heap.size W2 W2∧W2.ownsRow W2.heap.size 4 1 (Ad Ae 0 0) 0 (De ((List.range 0).map (eQ xo)))):=Ah ⟨Ag _ _,World.ownsRow_nil _ _ _ _⟩;clear H;go_wp2
 go_loopw [5,6] (λs5 s6 wr=>∃(i c:Nat) (A:Option Addr),i≤8∧s6= Aa Ab i∧s5= Ad A i c∧Hid (Below W2.heap.size W2 wr∧wr.ownsRow W2.heap.size 4 1 (Ad A i c) i (De ((List.range i).map (eQ xo))))) (λ_ s6 _=>8-(intOf s6).toNat)
 case atStart=>exact⟨0,0,Ae,Ci,rfl,rfl,HI0⟩
 case round=>
  obtain⟨i,c,A,hi,rfl,rfl,HB⟩:=hrel;clear HI0;have Hr:=HH2.out.call HB.out.1;obtain⟨a0,a1,a2⟩:=Cv (Hr.blk 0 _ _ _ rfl);by_cases hlt:i<8
  ·have q0:(i:Int)<8:=Ci;have HLT:=Ah hlt;obtain⟨A',c',w9,hrun,ho9,hb9,-,-,-,-,-⟩:=Zo (sl:=51) Tryz.underlying51 Au9 rfl Ct Ct wr W2.heap.size i (Ad A i c) _ HB.out.2 HB.out.1.size Ci [.bool (eQ xo i)] rfl (by simp[Value.oneCell']);rw[←rW]at ho9;unfold eQ at hrun;have HRUN:=Ah hrun;have HI2:=Ah (And.intro (HB.out.1.trans hb9) ho9);have ek:Ab.wrap ((i:Int)+1)=(i:Int)+1:=Ca _ Ci;clear hrun hb9 ho9 Hr hlt hi
   as_aux_lemma=>
   go_wp2_with (at_builtin;refine As _ rfl _ _ _ _ rfl _ _ rfl rfl _ _ HRUN.out ?_);go_wp2;exact⟨⟨i+1,c',A',Nat.succ_le_of_lt HLT.out,Cn,rfl,HI2⟩,Xm HLT.out⟩
  ·obtain rfl:i=8:=Ci;have q0:¬(8:Int)<8:=Ci;obtain⟨⟨b0,b1⟩,-⟩:=Cy (Hr.blk 2 _ _ _ rfl);have hrd:=Rd.of_own HB.out.2;clear hlt hi;go_wp2_with fail;refine(HHV.out A c _ hrd).mono ?_;rintro ee w5 ⟨hb5,A5,rfl,hrd5,hA5⟩;rw[HM.out]at hrd5⊢;have H5:=Hr.call hb5;have HA5:Hid (∀q,A5=Af q→N+2≤q.block):=Ah λq hq=>Br (by have:=Hr.lt 1 rfl;omega) (hA5 q hq);clear a0 a1 a2 b0 b1 hrd HB hb5 Hr HHV hA5;obtain⟨⟨b0,b1⟩,-⟩:=Cy (H5.blk 2 _ _ _ rfl);go_wp2_with fail;refine(HFL.out _ H5.below).mono ?_;rintro ee w8 ⟨cs,rfl,hkp,hb8⟩;have H8:=H5.call hb8;have hrd8:=hrd5.below hb8;have hN2:N+2≤w5.heap.size:=by have:=H5.lt 1 rfl;omega
   have hkp8:=hkp.base hN2;clear b0 b1 hrd5 hkp hb8 H5 hN2 HFL;obtain⟨pA3,pc3,A3,cc3,rfl,-,-,-⟩:=hkp8.st.held;obtain⟨s0,hs0⟩:=ey (Ex (a:Int) (b:Int));rw[hs0]at hkp8 HRP HGS⊢;obtain⟨T,hTz⟩:=ey w8.heap.size;have hal:Below w8.heap.size w8 (w8.alloc (.cells #[Aa Ab s0.a,Aa Ab s0.b,Ad pA3 s0.cr.length pc3,Aa Ac s0.root.t,Aa Ab s0.root.x,Aa Ab s0.root.y,Ad A3 s0.l.length cc3] 33)):=(Ag _ _).alloc (Am _) _;have H9:=(H8.upto 2).new #[Aa Ab s0.a,Aa Ab s0.b,Ad pA3 s0.cr.length pc3,Aa Ac s0.root.t,Aa Ab s0.root.x,Aa Ab s0.root.y,Ad A3 s0.l.length cc3] 33 hTz;have hk9:=hkp8.go (Hi.of hal);have HI0:Hid (∃s,Ar7 w w8 N T #[Aa Ac xw,Aa Ac xh,Aa Ac xo] l t 0 s (w8.alloc (.cells #[Aa Ab s0.a,Aa Ab s0.b,Ad pA3 s0.cr.length pc3,Aa Ac s0.root.t,Aa Ab s0.root.x,Aa Ab s0.root.y,Ad A3 s0.l.length cc3] 33))):=Ah ⟨s0,HGS.out,HRP.out,⟨_,hk9,H9⟩,by rw[←hTz];exact hal⟩;have hTl:T≤w8.heap.size:=Nat.le_of_eq hTz.symm;have HRD:=Ah hrd8;have HTE:=Ah hTz;have HNT:=Ah (show N+2≤T by have:=H8.lt 1 rfl;omega);clear hal H9 hk9 hkp8 hrd8 H8 hs0 HGS HRP;go_upto_region 9 with fail
   try rw[hTz]
   obtain⟨W9,hW9⟩:=ez (w8.alloc (.cells #[Aa Ab s0.a,Aa Ab s0.b,Ad pA3 s0.cr.length pc3,Aa Ac s0.root.t,Aa Ab s0.root.x,Aa Ab s0.root.y,Ad A3 s0.l.length cc3] 33));rw[←hW9]at HI0⊢;clear hW9;clear hTz;go_wp2
   go_loopw [11] (λs11 wr=>∃i:Nat,i≤m∧s11= Aa Ab i∧Hid (∃s,Ar7 w w8 N T #[Aa Ac xw,Aa Ac xh,Aa Ac xo] l t i s wr)) (λs11 _=>m-(intOf s11).toNat)
   case atStart=>exact⟨0,Ci,rfl,HI0⟩
   case round=>
    obtain⟨i,him,rfl,HZ⟩:=hrel;clear HI0;obtain⟨s,hI⟩:=HZ.out;have HI:=Ah hI;obtain⟨cs,hkp,hB⟩:=hI.mem;have hgs:=hI.gs;have hrp:=hI.rep;have hbl:=hI.bl;clear HZ hI;obtain⟨pA2,pc2,A2,cc2,rfl,hA2,hp2,hs2⟩:=hkp.st.held;by_cases hlt:i<m
    ·have q0:(i:Int)<(m:Int):=Ci;have HLT:=Ah hlt;have hal:i<l.length:=by have:=HM.out;omega
     have hil:i<l.length:=by have:=HM.out;omega
     rw[List.drop_eq_getElem_cons hil]at hrp;obtain⟨t7,hd7,hg7,-,-,hrp7⟩:=hrp;obtain⟨fb,fo,hA,hfb,g0,g1,g2,g3⟩:=nK HRD.out i (by have:=HM.out;omega);have hfT:fb<T:=by have:=HTE.out;omega
     obtain⟨f,hf⟩:=ey (l[i]);rw[hf]at g0 g1 g2 g3 hd7;obtain⟨S,hSd⟩:∃S:Aj→Prop,S=λW'=>W'.cell? ⟨fb,fo+i*4,Ae⟩=Af (Aa Ac f.k)∧W'.cell? ⟨fb,fo+i*4+1,Ae⟩=Af (Aa Ab f.c)∧W'.cell? ⟨fb,fo+i*4+2,Ae⟩=Af (Aa Ac f.side)∧W'.cell? ⟨fb,fo+i*4+3,Ae⟩=Af (.bool f.over):=⟨_,rfl⟩;have HSO:Hid (∀W',S W'→W'.cell? ⟨fb,fo+i*4,Ae⟩=Af (Aa Ac f.k)∧W'.cell? ⟨fb,fo+i*4+1,Ae⟩=Af (Aa Ab f.c)∧W'.cell? ⟨fb,fo+i*4+2,Ae⟩=Af (Aa Ac f.side)∧W'.cell? ⟨fb,fo+i*4+3,Ae⟩=Af (.bool f.over)):=Ah λW' h=>by subst hSd;exact h
     have HSA:Hid (∀W':Aj,Below T w8 W'→S W'):=Ah λW' h=>by
      subst hSd;exact⟨(h.cell (p:=⟨fb,fo+i*4,Ae⟩) hfT).trans g0,(h.cell (p:=⟨fb,fo+i*4+1,Ae⟩) hfT).trans g1,(h.cell (p:=⟨fb,fo+i*4+2,Ae⟩) hfT).trans g2,(h.cell (p:=⟨fb,fo+i*4+3,Ae⟩) hfT).trans g3⟩
     have HS0:Hid (S wr.drew):=Ah (HSA.out _ hbl.drew);have hq:=HQT.out _ hB.drew.below;have hdo:=Au2 s f pA2 pc2 A2 cc2 wr.drew hgs hA2 (hp2.below (Ag _ _).drew) (hs2.below (Ag _ _).drew) hq.1 hq.2;rw[hd7]at hdo;unfold Ap5 at hdo;dsimp only at hdo;have HDO:=Ah hdo;have HG7:=Ah hg7;have HR7:=Ah hrp7;subst hA;clear hq hdo hg7 hrp7 hf hil hgs hA2 hp2 hs2 hkp hSd g0 g1 g2 g3 hd7 hfb hfT;go_upto_region 6 with fail;refine Ao (S:=S) Cm HS0.out (λhS=>?_);have hb:Below wr.heap.size wr wr.drew:=(Ag _ _).drew;have H2:=hB.drew;obtain⟨X5,hX5⟩:=ez wr.drew;rw[←hX5]at hb hS H2 HDO⊢;clear hX5;clear hB;refine Ck 1 ?_;refine Ck 2 ?_;refine Ck 3 ?_;refine Ck 4 ?_;obtain⟨t0,t1,t2,t3,t4,t5,t6⟩:=Gb (H2.blk 2 _ _ _ rfl);refine rdy 0 (λK hK=>?_);go_simp;refine hK.out _ _ hS (λhS=>?_);clear hK K t0 t1 t2 t3 t4 t5 t6;refine rdy 5 (λK hK=>?_);go_simp;refine HDO.out.mono ?_;rintro ee X6 ⟨hbm,⟨ho,rfl⟩|⟨t8,cs7,ho,rfl,hkp⟩⟩
     ·cases ho
     injection ho with ho;subst ho;obtain⟨pA7,pc7,A7,cc7,rfl,-,-,-⟩:=hkp.st.held;have hTX:T<X5.heap.size:=H2.lt 2 rfl;have hNX:N+2≤X5.heap.size:=H2.lt 1 rfl;have H3:=H2.call hbm;have hb:=hb.trans (hbm.mono hb.size);refine hK.out _ _ (HSA.out _ (hbl.trans (hb.mono (Br hTl hbl.size)))) (λhS=>?_);clear hK K hbm H2 HDO;refine Ck 6 ?_;refine Ck 7 ?_;refine Ck 8 ?_;obtain⟨t0,t1,t2,t3,t4,t5,t6⟩:=Gb (H3.blk 2 _ _ _ rfl);have z0:=Dt (H3.blk 2 _ _ _ rfl) 0;have z1:=Dt (H3.blk 2 _ _ _ rfl) 1;have z2:=Dt (H3.blk 2 _ _ _ rfl) 2;have z3:=Dt (H3.blk 2 _ _ _ rfl) 3;have z4:=Dt (H3.blk 2 _ _ _ rfl) 4;have z5:=Dt (H3.blk 2 _ _ _ rfl) 5;have z6:=Dt (H3.blk 2 _ _ _ rfl) 6;have H9:Bx w [(N,#[Aa Ac xw,Aa Ac xh,Aa Ac xo],23),(N+1,#[Aa Ab 0,Aa Ab 0,Ad Ae 0 0,Aa Ac 0,Aa Ab 0,Aa Ab 0,Ad Ae 0 0],33),(T,#[Aa Ab t7.a,Aa Ab t7.b,Ad pA7 t7.cr.length pc7,Aa Ac t7.root.t,Aa Ab t7.root.x,Aa Ab t7.root.y,Ad A7 t7.l.length cc7],33)] (((((((X6.setCell ⟨T,0,Ae⟩ (Aa Ab t7.a)).setCell ⟨T,1,Ae⟩ (Aa Ab t7.b)).setCell ⟨T,2,Ae⟩ (Ad pA7 t7.cr.length pc7)).setCell ⟨T,3,Ae⟩ (Aa Ac t7.root.t)).setCell ⟨T,4,Ae⟩ (Aa Ab t7.root.x)).setCell ⟨T,5,Ae⟩ (Aa Ab t7.root.y)).setCell ⟨T,6,Ae⟩ (Ad A7 t7.l.length cc7)):=H3.setAll 2 rfl [Aa Ab t7.a,Aa Ab t7.b,Ad pA7 t7.cr.length pc7,Aa Ac t7.root.t,Aa Ab t7.root.x,Aa Ab t7.root.y,Ad A7 t7.l.length cc7] rfl;have hbl9:=(((((((hbl.trans (hb.mono (Br hTl hbl.size))).setCell (p:=⟨T,0,Ae⟩) (Am _) (Aa Ab t7.a)).setCell (p:=⟨T,1,Ae⟩) (Am _) (Aa Ab t7.b)).setCell (p:=⟨T,2,Ae⟩) (Am _) (Ad pA7 t7.cr.length pc7)).setCell (p:=⟨T,3,Ae⟩) (Am _) (Aa Ac t7.root.t)).setCell (p:=⟨T,4,Ae⟩) (Am _) (Aa Ab t7.root.x)).setCell (p:=⟨T,5,Ae⟩) (Am _) (Aa Ab t7.root.y)).setCell (p:=⟨T,6,Ae⟩) (Am _) (Ad A7 t7.l.length cc7)
     have hk9:=(hkp.go ((((((((Hi.refl X5.heap.size X6).trans (Hi.set hTX _ 0 (Aa Ab t7.a))).trans (Hi.set hTX _ 1 (Aa Ab t7.b))).trans (Hi.set hTX _ 2 (Ad pA7 t7.cr.length pc7))).trans (Hi.set hTX _ 3 (Aa Ac t7.root.t))).trans (Hi.set hTX _ 4 (Aa Ab t7.root.x))).trans (Hi.set hTX _ 5 (Aa Ab t7.root.y))).trans (Hi.set hTX _ 6 (Ad A7 t7.l.length cc7)))).base hNX;have HSP:=Ah (HSA.out _ hbl9);have HR:Hid (∃s,Ar7 w w8 N T #[Aa Ac xw,Aa Ac xh,Aa Ac xo] l t (i+1) s (((((((X6.setCell ⟨T,0,Ae⟩ (Aa Ab t7.a)).setCell ⟨T,1,Ae⟩ (Aa Ab t7.b)).setCell ⟨T,2,Ae⟩ (Ad pA7 t7.cr.length pc7)).setCell ⟨T,3,Ae⟩ (Aa Ac t7.root.t)).setCell ⟨T,4,Ae⟩ (Aa Ab t7.root.x)).setCell ⟨T,5,Ae⟩ (Aa Ab t7.root.y)).setCell ⟨T,6,Ae⟩ (Ad A7 t7.l.length cc7))):=Ah ⟨t7,HG7.out,HR7.out,⟨_,hk9,H9⟩,hbl9⟩;clear H3 H9 hbl9 hk9 hkp hTX hNX HI hb;refine rdy 9 (λK hK=>?_);go_simp;refine hK.out _ _ HSP.out (λhS=>?_);clear hK K t0 t1 t2 t3 t4 t5 t6 z0 z1 z2 z3 z4 z5 z6;refine An Cm ?_ _;go_wp2;exact⟨⟨i+1,Nat.succ_le_of_lt HLT.out,Cn,HR⟩,Xm HLT.out⟩
    ·obtain⟨W1',rfl⟩:=ez wr;obtain rfl:i=m:=Ci;have q0:¬(i:Int)<(i:Int):=Ci;rw[List.drop_of_length_le (by have:=HM.out;omega)]at hrp;obtain rfl:s=t:=hrp;obtain⟨t0,t1,t2,t3,t4,t5,t6⟩:=Gb (hB.blk 2 _ _ _ rfl);unfold stZ at hB;obtain⟨u0,u1,u2,u3,u4,u5,u6⟩:=Gb (hB.blk 1 _ _ _ rfl);have z0:=Dt (hB.blk 1 _ _ _ rfl) 0;have z1:=Dt (hB.blk 1 _ _ _ rfl) 1;have z2:=Dt (hB.blk 1 _ _ _ rfl) 2;have z3:=Dt (hB.blk 1 _ _ _ rfl) 3;have z4:=Dt (hB.blk 1 _ _ _ rfl) 4;have z5:=Dt (hB.blk 1 _ _ _ rfl) 5;have z6:=Dt (hB.blk 1 _ _ _ rfl) 6;have hQT:N+1≠T:=hB.ne 1 2 Ct rfl rfl;have hQ2:N+1<N+2:=Ci;have hNw:w.heap.size≤N+2:=by have:=hB.lo 0 _ _ _ rfl;omega
     have HZ0:Bx w [(N,#[Aa Ac xw,Aa Ac xh,Aa Ac xo],23),(N+1,#[Aa Ab s.a,Aa Ab s.b,Ad pA2 s.cr.length pc2,Aa Ac s.root.t,Aa Ab s.root.x,Aa Ab s.root.y,Ad A2 s.l.length cc2],33),(T,#[Aa Ab s.a,Aa Ab s.b,Ad pA2 s.cr.length pc2,Aa Ac s.root.t,Aa Ab s.root.x,Aa Ab s.root.y,Ad A2 s.l.length cc2],33)] (((((((W1'.setCell ⟨(N+1),0,Ae⟩ (Aa Ab s.a)).setCell ⟨(N+1),1,Ae⟩ (Aa Ab s.b)).setCell ⟨(N+1),2,Ae⟩ (Ad pA2 s.cr.length pc2)).setCell ⟨(N+1),3,Ae⟩ (Aa Ac s.root.t)).setCell ⟨(N+1),4,Ae⟩ (Aa Ab s.root.x)).setCell ⟨(N+1),5,Ae⟩ (Aa Ab s.root.y)).setCell ⟨(N+1),6,Ae⟩ (Ad A2 s.l.length cc2)):=hB.setAll 1 rfl [Aa Ab s.a,Aa Ab s.b,Ad pA2 s.cr.length pc2,Aa Ac s.root.t,Aa Ab s.root.x,Aa Ab s.root.y,Ad A2 s.l.length cc2] rfl;have HZ:=Ah HZ0;clear HZ0;have HK9:=Ah ((hkp.go ((((((((Hi.refl (N+2) W1').trans (Hi.set hQ2 _ 0 (Aa Ab s.a))).trans (Hi.set hQ2 _ 1 (Aa Ab s.b))).trans (Hi.set hQ2 _ 2 (Ad pA2 s.cr.length pc2))).trans (Hi.set hQ2 _ 3 (Aa Ac s.root.t))).trans (Hi.set hQ2 _ 4 (Aa Ab s.root.x))).trans (Hi.set hQ2 _ 5 (Aa Ab s.root.y))).trans (Hi.set hQ2 _ 6 (Ad A2 s.l.length cc2)))).base hNw)
     have HRF:Hid (Rd (((((((W1'.setCell ⟨(N+1),0,Ae⟩ (Aa Ab s.a)).setCell ⟨(N+1),1,Ae⟩ (Aa Ab s.b)).setCell ⟨(N+1),2,Ae⟩ (Ad pA2 s.cr.length pc2)).setCell ⟨(N+1),3,Ae⟩ (Aa Ac s.root.t)).setCell ⟨(N+1),4,Ae⟩ (Aa Ab s.root.x)).setCell ⟨(N+1),5,Ae⟩ (Aa Ab s.root.y)).setCell ⟨(N+1),6,Ae⟩ (Ad A2 s.l.length cc2)) A5 4 i (Qo l)):=Ah ⟨HRD.out.1,λh0=>by
      obtain⟨b9,o9,e9,hb9,hc9⟩:=HRD.out.2 h0;have hlo:=HA5.out _ e9
      have hne:b9≠N+1:=by
       dsimp only at hlo;omega
      refine⟨b9,o9,e9,?_,λj u hj=>?_⟩
      ·have:=hbl.size;simp only[World.size_setCell];omega
      ·rw[Gv hne,Gv hne,Gv hne,Gv hne,Gv hne,Gv hne,Gv hne];exact(hbl.cell (p:=⟨b9,o9+j,Ae⟩) (by show b9<T;have:=HTE.out;omega)).trans (hc9 j u hj)⟩
     clear hB hkp hp2 hs2 hgs HI;go_wp2_with fail;have hrf:=HRF.out;exact Ai (Cs (u:=3) rfl rfl (HZ.out.range 1 rfl) Tryz.underlying33 rfl Cm) rfl ⟨_,_,by rw[HM.out];rfl,HK9.out,by rw[HM.out];exact hrf,HZ.out.below,λq hq=>by have h1:=HA5.out q hq;have h2:=HNN.out;omega⟩
theorem Rw {a b:Nat} {t:St} {m:List Mv} (I:Fk a b 1 1 t m) (ha:a≤8) (hb:b≤4):pF a b t m (atF t.l ⟨0,0,0⟩):=by
 have hpos:=I.G.pos;have e4:4*a*b=4*(a*b):=Nat.mul_assoc 4 a b;have ha1:1≤a:=Nat.pos_of_ne_zero λe=>by subst e;simp at hpos
 have hb1:1≤b:=Nat.pos_of_ne_zero λe=>by subst e;simp at hpos
 have hab:a*b≤8*4:=Nat.mul_le_mul ha hb;have hf:=fQ I
 have hln:(atF t.l ⟨0,0,0⟩).length=a*b:=by
  have:=Hs I;unfold Do at this
  rwa [List.length_reverse]at this
 have hml:=I.G.pl.len;refine⟨I.gs,I.G.sa,I.G.sb,⟨ha1,Ci,hb1,Ci⟩,λr hr=>?_,⟨_,I.G.both⟩,?_,?_,λi hi=>?_,Ci,Ci⟩
 ·obtain⟨h1,h2⟩:=I.flat r hr;unfold Cr.odd;rw[h1];rcases h2 with h2|h2<;>rw[h2]<;>rfl
 ·have:=congrArg List.length hf;simpa using this
 ·cases hl:t.l with
  |nil=>rw[hl]at hf;cases hf
  |cons x r=>
   refine⟨x,r,rfl,?_⟩;rw[hl,List.map_cons]at hf;injection hf with h1 h2;unfold atF;rw[List.find?_cons_of_pos (by simpa using h1)]
 ·have h1:i∈Do t:=List.mem_reverse.2 hi;obtain⟨h2,h3⟩:=Ai5 I h1;have:=Px I h1;exact⟨h2,Ci,h3⟩
theorem dY {a b:Nat} {t:St} {m:List Mv} (I:Fk a b 1 1 t m):∀k,k<2*(atF t.l ⟨0,0,0⟩).reverse.length→(pgK a m (atF t.l ⟨0,0,0⟩).reverse k).x<a∧(pgK a m (atF t.l ⟨0,0,0⟩).reverse k).y<b:=λk hk=>by
 have h1:=Hs I;unfold Do at h1;have h2:=(Uv I).lt k Ci;unfold Do at h2;exact h2
def Ut (G a b:Nat) (f:Mt):List Gq:=(List.range b).map λy=>⟨Af ⟨G+y,0,Ae⟩,a,(List.range a).map (f y)⟩
theorem Wo (G a b:Nat) (f:Mt):ksL (Ut G a b f)=Hj a b f:=by
 unfold ksL Ut Hj;rw[List.map_map];rfl
theorem Nl (G a b:Nat) (f:Mt):(Ut G a b f).length=b:=by simp[Ut]
theorem jB {w:Aj} {g M a b:Nat} {f:Mt} (hd:w.heap[g]? =Af (Om b M a b)) (hr:∀i,i<b→w.heap[M+i]? =Af (Ms a (f i))):Ik w (Af ⟨g,0,Ae⟩) (Ut M a b f):=by
 refine⟨⟨by simp[Ut],λh0=>⟨g,0,rfl,(Au.1 hd).1,λj u hj=>?_⟩⟩,(λh=>by cases h),λr hr2=>?_⟩
 ·have hjb:j<b:=by
   have:=(Ax.1 hj).1;simpa[Ut]using this
  have:=Ng hd hjb;rw[Bt,this,←hj];unfold Ut Rt;rw[List.getElem?_map,List.getElem?_map,List.getElem?_range hjb];simp[Gq.head]
 ·unfold Ut at hr2;obtain⟨y,hy,rfl⟩:=List.mem_map.1 hr2;have hyb:=List.mem_range.1 hy;refine⟨⟨by simp[Ni],λh0=>⟨M+y,0,rfl,(Au.1 (hr y hyb)).1,λj u hj=>?_⟩⟩,(λh=>by cases h)⟩
  have hja:j<a:=by
   have:=(Ax.1 hj).1;simpa[Ni]using this
  rw[Bt,(Lr (hr y hyb) hja).1,←hj];simp[Ni,List.getElem?_range hja]
theorem FmA.inn {w:Aj} {G a b:Nat} {s:Mt×Mt} (h:FmA w G a b s) (ha:a≤100) (hb:b≤100):jX w (Af ⟨G,0,Ae⟩) (Af ⟨G+b+1,0,Ae⟩) (Ut (G+1) a b s.1) (Ut (G+b+2) a b s.2):=by
 refine⟨jB h.hF h.rF,jB h.hB h.rB,by rw[Nl];exact hb,by rw[Nl];exact hb,λr hr=>?_⟩;rcases Bl.1 hr with hr|hr
 ·unfold Ut at hr;obtain⟨y,-,rfl⟩:=List.mem_map.1 hr;simpa using ha
 ·unfold Ut at hr;obtain⟨y,-,rfl⟩:=List.mem_map.1 hr;simpa using ha
def pgN (p:Pg):Nat×Nat×Bool×Bool:=(p.x,p.y,p.bk,p.dn)
def Jt (u:St):List (Nat×Nat×Bool×Bool):=(List.range (2*(Do u).length)).map λk=>pgN (pgK u.a.toNat (Df u.a u.b u.cr u.root).1.1 (Do u) k)
def Zl (u:St):List UInt8:=Xk (Hj u.a.toNat u.b.toNat (fmT u.a.toNat (pgK u.a.toNat (Df u.a u.b u.cr u.root).1.1 (Do u)) (2*(Do u).length)).1) (Hj u.a.toNat u.b.toNat (fmT u.a.toNat (pgK u.a.toNat (Df u.a u.b u.cr u.root).1.1 (Do u)) (2*(Do u).length)).2)
def Az6:List (Nat×Nat×Bool×Bool):=[(1,0,true,false),(1,0,false,false),(0,0,false,false),(0,0,true,false)]
def Au3:List UInt8:=[102,114,111,110,116,10,51,32,50,10,98,97,99,107,10,49,32,52,10]
def fJ:Fd:=⟨1,1,1,true⟩
def Az8:Fd:=⟨2,1,1,true⟩
def Au5:List UInt8:=[102,114,111,110,116,10,45,50,32,45,51,10,55,32,54,10,98,97,99,107,10,45,52,32,45,49,10,53,32,56,10]
def Az7:Bool:=((Ex 2 1).do fJ).2.any λu=>decide (Jt u=Az6)&&decide (Zl u=Au3)
def Az9:Bool:=(((Ex 2 2).do fJ).2.bind λv=>(v.do Az8).2).any λu=>decide ((Jt u).length=8)&&decide ((Jt u)[0]? =Af (0,1,true,true))&&decide ((Jt u)[3]? =Af (1,1,true,true))&&decide ((Jt u)[4]? =Af (1,0,true,false))&&decide (Zl u=Au5)
theorem xN:Az7=true:=Cm
theorem xO:Az9=true:=Cm
theorem aL:Mp 1 0 1=[fJ]:=by decide+kernel
theorem aM:Mp 1 1 3=[fJ,Az8]:=by decide+kernel
theorem Aq1 {a b:Nat} {t:St} {m:List Mv} (I:Fk a b 1 1 t m):(Df t.a t.b t.cr t.root).1.1=m∧t.a.toNat=a∧t.b.toNat=b:=by
 rw[I.G.both];exact⟨rfl,by rw[I.G.sa];rfl,by rw[I.G.sb];rfl⟩
theorem Yp {a b:Nat} {t:St} {m:List Mv} (I:Fk a b 1 1 t m) {k:Nat} {x y:Nat} {bk dn:Bool} (h:(Jt t)[k]? =Af (x,y,bk,dn)):k<2*(Do t).length∧pgK a m (Do t) k=⟨x,y,bk,dn⟩:=by
 obtain⟨h1,h2,-⟩:=Aq1 I;unfold Jt at h;rw[h1,h2]at h;have hk:=(Ax.1 h).1;simp only[Bo,List.length_range]at hk;rw[List.getElem?_map,List.getElem?_range hk]at h;refine⟨hk,?_⟩;simp only[Option.map_some]at h;obtain⟨⟨px,py,pb,pd⟩,hp⟩:=ey (pgK a m (Do t) k);rw[hp]at h⊢;simp only[pgN,Option.some.injEq,Prod.mk.injEq]at h;obtain⟨rfl,rfl,rfl,rfl⟩:=h;rfl
theorem Au4 {t:St} (h:Ru (Mp 1 0 1) (Ex 2 1) t):Jt t=Az6∧Zl t=Au3:=by
 rw[aL]at h;obtain⟨u,hu,-,-,-,rfl⟩:=h;have:=xN;unfold Az7 at this;rw[hu]at this;simpa using this
theorem Au6 {t:St} (h:Ru (Mp 1 1 3) (Ex 2 2) t):(Jt t).length=8∧(Jt t)[0]? =Af (0,1,true,true)∧(Jt t)[3]? =Af (1,1,true,true)∧(Jt t)[4]? =Af (1,0,true,false)∧Zl t=Au5:=by
 rw[aM]at h;obtain⟨v,hv,-,-,-,u,hu,-,-,-,rfl⟩:=h;have:=xO;unfold Az9 at this;rw[hv]at this;dsimp only[Option.bind]at this;rw[hu]at this;simp only[Option.any_some,Bool.and_eq_true,decide_eq_true_eq]at this;obtain⟨⟨⟨⟨h1,h2⟩,h3⟩,h4⟩,h5⟩:=this;exact⟨h1,h2,h3,h4,h5⟩
theorem Ad5 {a b:Nat} {t:St} {m:List Mv} (I:Fk a b 1 1 t m):Zl t=Xk (Hj a b (fmT a (pgK a m (Do t)) (2*(Do t).length)).1) (Hj a b (fmT a (pgK a m (Do t)) (2*(Do t).length)).2):=by
 obtain⟨h1,h2,h3⟩:=Aq1 I;unfold Zl;rw[h1,h2,h3]
theorem jO {a b G:Nat} {t:St} {m:List Mv} (I:Fk a b 1 1 t m) (ha:1≤a∧a≤8) (hb:1≤b∧b≤4) (w:Aj) (h:FmA w G a b (fmT a (pgK a m (Do t)) (2*(Do t).length))) (hP:Pw w):
  Al Tryz.prog 15 #[.agg (fmV G a b)] w (Co (.string (bsL (Zl t))) w):=by
 have hin:=h.inn Ci Ci;have hc:=jF (Af ⟨G,0,Ae⟩) (Af ⟨G+b+1,0,Ae⟩) _ _ b b w hin hP;rw[Nl,Nl,Wo,Wo]at hc;unfold bW at hc;have hl:=Hs I;rw[if_pos (by rw[hl];exact xR ha.1 hb.1 (Uv I) rfl),←Ad5 I]at hc;exact hc
theorem Rr {w:Aj} {O g c a n k x y j0 j1 j2 j3:Nat} {m:List Mv} {ids:List Nat} {bk dn:Bool} (hn:n=2*ids.length) (h:w.ownsRow O 50 4 (Ad (Af ⟨g,0,Ae⟩) n c) n (pgs a m ids)) (hp:k<n∧pgK a m ids k=⟨x,y,bk,dn⟩) (e0:j0=k*4) (e1:j1=k*4+1) (e2:j2=k*4+2) (e3:j3=k*4+3):
  w.cell? ⟨g,j0,Ae⟩=Af (Aa Ab x)∧w.cell? ⟨g,j1,Ae⟩=Af (Aa Ab y)∧w.cell? ⟨g,j2,Ae⟩=Af (.bool bk)∧w.cell? ⟨g,j3,Ae⟩=Af (.bool dn):=by
 obtain⟨b,o,e,-,h0,h1,h2,h3⟩:=bI hn (Rd.of_own h) k hp.1;obtain⟨rfl,rfl⟩:g=b∧0=o:=by simpa using e
 rw[hp.2]at h0 h1 h2 h3;subst e0 e1 e2 e3;simp only[Bt]at h0 h1 h2 h3;exact⟨h0,h1,h2,h3⟩
theorem iE {w:Aj} {O n c:Nat} {A:Option Addr} {xs:List Ak} (h:w.ownsRow O 50 4 (Ad A n c) n xs) (hn:0<n):∃g,A=Af ⟨g,0,Ae⟩:=by
 rcases h.2 with⟨-,h0⟩|⟨g,cap,cur,r1,-⟩
 ·omega
 ·injection r1 with r1;exact⟨g,r1⟩
theorem gI (w:Aj) (hQ:Qf w) (hT:Tn w) (hP:Pw w):Al Tryz.prog 11 #[] w (Co (.bool true) w):=by
 obtain⟨t1,m1,hr1,I1⟩:=Rh (a:=2) (b:=1) Ct Ct (ovG 1);obtain⟨t2,m2,hr2,I2⟩:=Rh (a:=2) (b:=2) Ct Ct (ovG 3);have HQ:=Ah (λ(w':Aj) (hb:Below w.heap.size w w')=>show Qf w'∧Tn w'∧Pw w' from⟨hQ.below hb,hT.below hb,hP.below hb⟩);have HG1:=Ah (λ(w':Aj) (hb:Below w.heap.size w w')=>show Al Tryz.prog 6 #[.agg #[Aa Ac 1,Aa Ac 0,Aa Ac 1]] w' (jY (Mp 1 0 1) t1 w')from dG 1 0 1 Ct Ct Ct t1 hr1 w' (hQ.below hb) (hT.below hb));have HG2:=Ah (λ(w':Aj) (hb:Below w.heap.size w w')=>show Al Tryz.prog 6 #[.agg #[Aa Ac 1,Aa Ac 1,Aa Ac 3]] w' (jY (Mp 1 1 3) t2 w')from dG 1 1 3 Ct Ct Ct t2 hr2 w' (hQ.below hb) (hT.below hb));rw[aL]at HG1;rw[aM]at HG2;have E1:=Ah (Au4 hr1);have E2:=Ah (Au6 hr2);have J1:=Ah I1;have J2:=Ah I2;have h0:Bx w [] w:=Bx.start w;clear hr1 hr2 I1 I2 hQ hT hP;go_enter Tryz.func11,Tryz.ntmps11;go_wp2_with fail;refine(HG1.out w (Ag _ _)).mono ?_;rintro ee w1 ⟨cs,A1,rfl,hkp,hrd1,hb1,-⟩;obtain⟨pA,pc,A2,cc,rfl,hA,hp,hst⟩:=hkp.st.held;simp only[List.length_cons,List.length_nil,Bt];obtain⟨T1,hT1⟩:=ey w1.heap.size;have H1:=(h0.call hb1).new #[Aa Ab t1.a,Aa Ab t1.b,Ad pA t1.cr.length pc,Aa Ac t1.root.t,Aa Ab t1.root.x,Aa Ab t1.root.y,Ad A2 t1.l.length cc] 33 hT1;have HST:=Ah (λ(w':Aj) (hb:Below w1.heap.size w1 w')=>show Rd w' pA 3 t1.cr.length (crs t1.cr)∧Dh w' A2 t1.l from⟨hp.below hb,hst.below hb⟩);have hb12:Below w1.heap.size w1 (w1.alloc (.cells #[Aa Ab t1.a,Aa Ab t1.b,Ad pA t1.cr.length pc,Aa Ac t1.root.t,Aa Ab t1.root.x,Aa Ab t1.root.y,Ad A2 t1.l.length cc] 33)):=(Ag _ _).alloc (Am _) _;clear hkp hp hst hrd1 h0 HG1 hb1;go_upto_region 2 with fail
 try rw[hT1]
 obtain⟨W2,hW2⟩:=ez (w1.alloc (.cells #[Aa Ab t1.a,Aa Ab t1.b,Ad pA t1.cr.length pc,Aa Ac t1.root.t,Aa Ab t1.root.x,Aa Ab t1.root.y,Ad A2 t1.l.length cc] 33));rw[←hW2]at H1 hb12⊢;clear hW2;clear hT1;obtain⟨a0,a1,a2,a3,a4,a5,a6⟩:=Gb (H1.blk 0 _ _ _ rfl);go_wp2_with fail;have hq:=HQ.out _ H1.below;have hs:=HST.out _ hb12;refine(Nn 2 1 t1 m1 _ (Rw J1.out Ct Ct) pA pc A2 cc W2 hA hs.1 hs.2 hq.1 hq.2.1).mono ?_;rintro ee w3 ⟨hb,pgA0,pgC,rfl,hown⟩;have hl1:(atF t1.l ⟨0,0,0⟩).reverse.length=2:=Hs J1.out;rw[hl1,show 2*2=4 from rfl]at hown;rw[hl1,show 2*2=4 from rfl];obtain⟨g1,rfl⟩:=iE hown Ct;have H3:=H1.call hb;have hb13:=hb12.trans (hb.mono hb12.size);obtain⟨O1,hO1⟩:=ey W2.heap.size;rw[hO1]at hown;clear a0 a1 a2 a3 a4 a5 a6 hb H1 hb12 hO1;obtain⟨a0,a1,a2,a3,a4,a5,a6⟩:=Gb (H3.blk 0 _ _ _ rfl);have hq:=HQ.out _ H3.below;have hs:=HST.out _ hb13;go_wp2_with fail;refine(Vd 2 1 t1 m1 _ (Rw J1.out Ct Ct) (dY J1.out) pA pc A2 cc w3 hA hs.1 hs.2 hq.1 hq.2.1).mono ?_;rintro ee w4 ⟨hb,G1,hG1,rfl,hfm⟩;have H4:=H3.call hb;have hown4:=Kh hown λq hq=>hb.block q (hown.lt q hq).2;obtain⟨F5,hF5⟩:=ey w4.heap.size;have hal:Below w4.heap.size w4 (w4.alloc (.cells (fmV G1 2 1) 39)):=(Ag _ _).alloc (Am _) _;have H5:=H4.new (fmV G1 2 1) 39 hF5;have hown5:=hown4.alloc (.cells (fmV G1 2 1) 39);have hfl:=hfm.lt Ct;have hfm5:=hfm.same λj _ hj=>hal.block j Ci;clear a0 a1 a2 a3 a4 a5 a6 hb H3 hb13 hown hown4 hfm H4 hs hq hfl hal HST;unfold fmV at H5 hown5 hfm5;unfold fmV;go_upto_region 4 with fail
 try rw[hF5]
 obtain⟨W5,hW5⟩:=ez (w4.alloc (.cells #[Ad (Af ⟨G1,0,Ae⟩) 1 1,Ad (Af ⟨G1+1+1,0,Ae⟩) 1 1] 39));rw[←hW5]at H5 hown5 hfm5⊢;clear hW5;clear hF5;obtain⟨⟨f0,f1⟩,-⟩:=Cy (H5.blk 1 _ _ _ rfl);obtain⟨e1,e2⟩:=E1.out;have hn4:4=2*(atF t1.l ⟨0,0,0⟩).reverse.length:=by rw[hl1]
 have pg:∀{k x y:Nat} {bk dn:Bool},(Jt t1)[k]? =Af (x,y,bk,dn)→k<4∧pgK 2 m1 (atF t1.l ⟨0,0,0⟩).reverse k=⟨x,y,bk,dn⟩:=λ{k x y bk dn} h=>by
  have:=Yp J1.out h;rw[hn4];exact this
 obtain⟨p00,p01,p02,p03⟩:=Rr (j0:=0) (j1:=1) (j2:=2) (j3:=3) hn4 hown5 (pg (k:=0) (by rw[e1];rfl)) rfl rfl rfl rfl;obtain⟨p10,p11,p12,p13⟩:=Rr (j0:=4) (j1:=5) (j2:=6) (j3:=7) hn4 hown5 (pg (k:=1) (by rw[e1];rfl)) rfl rfl rfl rfl;obtain⟨p20,p21,p22,p23⟩:=Rr (j0:=8) (j1:=9) (j2:=10) (j3:=11) hn4 hown5 (pg (k:=2) (by rw[e1];rfl)) rfl rfl rfl rfl;obtain⟨p30,p31,p32,p33⟩:=Rr (j0:=12) (j1:=13) (j2:=14) (j3:=15) hn4 hown5 (pg (k:=3) (by rw[e1];rfl)) rfl rfl rfl rfl;have htx:=jO J1.out ⟨Ct,Ct⟩ ⟨Ct,Ct⟩ W5 hfm5 (HQ.out _ H5.below).2.2;rw[e2]at htx;have HTX:=Ah htx;clear htx e1 e2 pg hown5 hfm5 hn4 hl1;go_wp2_with fail;refine HTX.out.mono ?_;rintro ee w6 ⟨rfl,hb⟩;have H6:=H5.call hb;clear HTX hb H5 p00 p01 p02 p03 p10 p11 p12 p13 p20 p21 p22 p23 p30 p31 p32 p33 f0 f1;rw[show bsL Au3=(⟨#[102,114,111,110,116,10,51,32,50,10,98,97,99,107,10,49,32,52,10]⟩:ByteArray)from rfl];go_wp2_with fail;refine(HG2.out w6 H6.below).mono ?_;rintro ee w7 ⟨cs,A3,rfl,hkp,hrd2,hb,hA3⟩;obtain⟨pB,pd,B2,cd,rfl,hAB,-,-⟩:=hkp.st.held;simp only[List.length_cons,List.length_nil,Bt,Nat.reduceAdd]at hrd2⊢;have hT6:=H6.lt 0 rfl;have H7:=H6.call hb;obtain⟨a0,a1,a2,a3,a4,a5,a6⟩:=Gb (H7.blk 0 _ _ _ rfl);have z0:=Dt (H7.blk 0 _ _ _ rfl) 0;have z1:=Dt (H7.blk 0 _ _ _ rfl) 1;have z2:=Dt (H7.blk 0 _ _ _ rfl) 2;have z3:=Dt (H7.blk 0 _ _ _ rfl) 3;have z4:=Dt (H7.blk 0 _ _ _ rfl) 4;have z5:=Dt (H7.blk 0 _ _ _ rfl) 5;have z6:=Dt (H7.blk 0 _ _ _ rfl) 6
 have H8:Bx w [(T1,#[Aa Ab t2.a,Aa Ab t2.b,Ad pB t2.cr.length pd,Aa Ac t2.root.t,Aa Ab t2.root.x,Aa Ab t2.root.y,Ad B2 t2.l.length cd],33),(F5,#[Ad (Af ⟨G1,0,Ae⟩) 1 1,Ad (Af ⟨G1+1+1,0,Ae⟩) 1 1],39)] (((((((w7.setCell ⟨T1,0,Ae⟩ (Aa Ab t2.a)).setCell ⟨T1,1,Ae⟩ (Aa Ab t2.b)).setCell ⟨T1,2,Ae⟩ (Ad pB t2.cr.length pd)).setCell ⟨T1,3,Ae⟩ (Aa Ac t2.root.t)).setCell ⟨T1,4,Ae⟩ (Aa Ab t2.root.x)).setCell ⟨T1,5,Ae⟩ (Aa Ab t2.root.y)).setCell ⟨T1,6,Ae⟩ (Ad B2 t2.l.length cd)):=H7.setAll 0 rfl [Aa Ab t2.a,Aa Ab t2.b,Ad pB t2.cr.length pd,Aa Ac t2.root.t,Aa Ab t2.root.x,Aa Ab t2.root.y,Ad B2 t2.l.length cd] rfl;have hk8:=hkp.go (((((((Hi.refl w6.heap.size w7).trans (Hi.set hT6 _ 0 (Aa Ab t2.a))).trans (Hi.set hT6 _ 1 (Aa Ab t2.b))).trans (Hi.set hT6 _ 2 (Ad pB t2.cr.length pd))).trans (Hi.set hT6 _ 3 (Aa Ac t2.root.t))).trans (Hi.set hT6 _ 4 (Aa Ab t2.root.x))).trans (Hi.set hT6 _ 5 (Aa Ab t2.root.y))|>.trans (Hi.set hT6 _ 6 (Ad B2 t2.l.length cd)))
 have HFD:Hid (∃fb fo,A3=Af ⟨fb,fo,Ae⟩∧fb≠T1∧fb≠F5∧fb<w7.heap.size∧(w7.cell? ⟨fb,fo,Ae⟩=Af (Aa Ac 1)∧w7.cell? ⟨fb,fo+1,Ae⟩=Af (Aa Ab 1)∧w7.cell? ⟨fb,fo+2,Ae⟩=Af (Aa Ac 1)∧w7.cell? ⟨fb,fo+3,Ae⟩=Af (.bool true))∧
   (w7.cell? ⟨fb,fo+4,Ae⟩=Af (Aa Ac 2)∧w7.cell? ⟨fb,fo+5,Ae⟩=Af (Aa Ab 1)∧w7.cell? ⟨fb,fo+6,Ae⟩=Af (Aa Ac 1)∧w7.cell? ⟨fb,fo+7,Ae⟩=Af (.bool true))):=Ah (by
  obtain⟨fb,fo,e,hfb,h1,h2,h3,h4⟩:=nK hrd2 0 Ct;obtain⟨fb',fo',e',-,h5,h6,h7,h8⟩:=nK hrd2 1 Ct;rw[e]at e';obtain⟨rfl,rfl⟩:fb=fb'∧fo=fo':=by simpa using e'
  have hF6:=H6.lt 1 rfl;refine⟨fb,fo,e,λhh=>?_,λhh=>by have:=hA3 _ e;dsimp only at this;omega,hfb,⟨by simpa[fJ]using h1,by simpa[fJ]using h2,by simpa[fJ]using h3,by simpa[fJ]using h4⟩,⟨h5,h6,h7,h8⟩⟩;have:=hA3 _ e;dsimp only at this;omega)
 have HFX:Hid (∃fb fo,A3=Af ⟨fb,fo,Ae⟩∧fb≠F5∧fb<(((((((w7.setCell ⟨T1,0,Ae⟩ (Aa Ab t2.a)).setCell ⟨T1,1,Ae⟩ (Aa Ab t2.b)).setCell ⟨T1,2,Ae⟩ (Ad pB t2.cr.length pd)).setCell ⟨T1,3,Ae⟩ (Aa Ac t2.root.t)).setCell ⟨T1,4,Ae⟩ (Aa Ab t2.root.x)).setCell ⟨T1,5,Ae⟩ (Aa Ab t2.root.y)).setCell ⟨T1,6,Ae⟩ (Ad B2 t2.l.length cd)).heap.size∧((((((((w7.setCell ⟨T1,0,Ae⟩ (Aa Ab t2.a)).setCell ⟨T1,1,Ae⟩ (Aa Ab t2.b)).setCell ⟨T1,2,Ae⟩ (Ad pB t2.cr.length pd)).setCell ⟨T1,3,Ae⟩ (Aa Ac t2.root.t)).setCell ⟨T1,4,Ae⟩ (Aa Ab t2.root.x)).setCell ⟨T1,5,Ae⟩ (Aa Ab t2.root.y)).setCell ⟨T1,6,Ae⟩ (Ad B2 t2.l.length cd)).cell? ⟨fb,fo,Ae⟩=Af (Aa Ac 1)∧(((((((w7.setCell ⟨T1,0,Ae⟩ (Aa Ab t2.a)).setCell ⟨T1,1,Ae⟩ (Aa Ab t2.b)).setCell ⟨T1,2,Ae⟩ (Ad pB t2.cr.length pd)).setCell ⟨T1,3,Ae⟩ (Aa Ac t2.root.t)).setCell ⟨T1,4,Ae⟩ (Aa Ab t2.root.x)).setCell ⟨T1,5,Ae⟩ (Aa Ab t2.root.y)).setCell ⟨T1,6,Ae⟩ (Ad B2 t2.l.length cd)).cell? ⟨fb,fo+1,Ae⟩=Af (Aa Ab 1)∧(((((((w7.setCell ⟨T1,0,Ae⟩ (Aa Ab t2.a)).setCell ⟨T1,1,Ae⟩ (Aa Ab t2.b)).setCell ⟨T1,2,Ae⟩ (Ad pB t2.cr.length pd)).setCell ⟨T1,3,Ae⟩ (Aa Ac t2.root.t)).setCell ⟨T1,4,Ae⟩ (Aa Ab t2.root.x)).setCell ⟨T1,5,Ae⟩ (Aa Ab t2.root.y)).setCell ⟨T1,6,Ae⟩ (Ad B2 t2.l.length cd)).cell? ⟨fb,fo+2,Ae⟩=Af (Aa Ac 1)∧(((((((w7.setCell ⟨T1,0,Ae⟩ (Aa Ab t2.a)).setCell ⟨T1,1,Ae⟩ (Aa Ab t2.b)).setCell ⟨T1,2,Ae⟩ (Ad pB t2.cr.length pd)).setCell ⟨T1,3,Ae⟩ (Aa Ac t2.root.t)).setCell ⟨T1,4,Ae⟩ (Aa Ab t2.root.x)).setCell ⟨T1,5,Ae⟩ (Aa Ab t2.root.y)).setCell ⟨T1,6,Ae⟩ (Ad B2 t2.l.length cd)).cell? ⟨fb,fo+3,Ae⟩=Af (.bool true))∧
   ((((((((w7.setCell ⟨T1,0,Ae⟩ (Aa Ab t2.a)).setCell ⟨T1,1,Ae⟩ (Aa Ab t2.b)).setCell ⟨T1,2,Ae⟩ (Ad pB t2.cr.length pd)).setCell ⟨T1,3,Ae⟩ (Aa Ac t2.root.t)).setCell ⟨T1,4,Ae⟩ (Aa Ab t2.root.x)).setCell ⟨T1,5,Ae⟩ (Aa Ab t2.root.y)).setCell ⟨T1,6,Ae⟩ (Ad B2 t2.l.length cd)).cell? ⟨fb,fo+4,Ae⟩=Af (Aa Ac 2)∧(((((((w7.setCell ⟨T1,0,Ae⟩ (Aa Ab t2.a)).setCell ⟨T1,1,Ae⟩ (Aa Ab t2.b)).setCell ⟨T1,2,Ae⟩ (Ad pB t2.cr.length pd)).setCell ⟨T1,3,Ae⟩ (Aa Ac t2.root.t)).setCell ⟨T1,4,Ae⟩ (Aa Ab t2.root.x)).setCell ⟨T1,5,Ae⟩ (Aa Ab t2.root.y)).setCell ⟨T1,6,Ae⟩ (Ad B2 t2.l.length cd)).cell? ⟨fb,fo+5,Ae⟩=Af (Aa Ab 1)∧(((((((w7.setCell ⟨T1,0,Ae⟩ (Aa Ab t2.a)).setCell ⟨T1,1,Ae⟩ (Aa Ab t2.b)).setCell ⟨T1,2,Ae⟩ (Ad pB t2.cr.length pd)).setCell ⟨T1,3,Ae⟩ (Aa Ac t2.root.t)).setCell ⟨T1,4,Ae⟩ (Aa Ab t2.root.x)).setCell ⟨T1,5,Ae⟩ (Aa Ab t2.root.y)).setCell ⟨T1,6,Ae⟩ (Ad B2 t2.l.length cd)).cell? ⟨fb,fo+6,Ae⟩=Af (Aa Ac 1)∧(((((((w7.setCell ⟨T1,0,Ae⟩ (Aa Ab t2.a)).setCell ⟨T1,1,Ae⟩ (Aa Ab t2.b)).setCell ⟨T1,2,Ae⟩ (Ad pB t2.cr.length pd)).setCell ⟨T1,3,Ae⟩ (Aa Ac t2.root.t)).setCell ⟨T1,4,Ae⟩ (Aa Ab t2.root.x)).setCell ⟨T1,5,Ae⟩ (Aa Ab t2.root.y)).setCell ⟨T1,6,Ae⟩ (Ad B2 t2.l.length cd)).cell? ⟨fb,fo+7,Ae⟩=Af (.bool true))):=Ah (by
  obtain⟨fb,fo,e,hne,hnf,hlt,⟨h1,h2,h3,h4⟩,h5,h6,h7,h8⟩:=HFD.out
  have far:∀o,(((((((w7.setCell ⟨T1,0,Ae⟩ (Aa Ab t2.a)).setCell ⟨T1,1,Ae⟩ (Aa Ab t2.b)).setCell ⟨T1,2,Ae⟩ (Ad pB t2.cr.length pd)).setCell ⟨T1,3,Ae⟩ (Aa Ac t2.root.t)).setCell ⟨T1,4,Ae⟩ (Aa Ab t2.root.x)).setCell ⟨T1,5,Ae⟩ (Aa Ab t2.root.y)).setCell ⟨T1,6,Ae⟩ (Ad B2 t2.l.length cd)).cell? ⟨fb,o,Ae⟩=w7.cell? ⟨fb,o,Ae⟩:=λo=>by
   rw[Gv hne,Gv hne,Gv hne,Gv hne,Gv hne,Gv hne,Gv hne]
  exact⟨fb,fo,e,hnf,by simpa using hlt,⟨by rw[far];exact h1,by rw[far];exact h2,by rw[far];exact h3,by rw[far];exact h4⟩,by rw[far];exact h5,by rw[far];exact h6,by rw[far];exact h7,by rw[far];exact h8⟩)
 clear hkp hrd2 hb H6 H7 hA3 HFD;go_upto_region 7 with fail;obtain⟨W8,hW8⟩:=ez (((((((w7.setCell ⟨T1,0,Ae⟩ (Aa Ab t2.a)).setCell ⟨T1,1,Ae⟩ (Aa Ab t2.b)).setCell ⟨T1,2,Ae⟩ (Ad pB t2.cr.length pd)).setCell ⟨T1,3,Ae⟩ (Aa Ac t2.root.t)).setCell ⟨T1,4,Ae⟩ (Aa Ab t2.root.x)).setCell ⟨T1,5,Ae⟩ (Aa Ab t2.root.y)).setCell ⟨T1,6,Ae⟩ (Ad B2 t2.l.length cd));rw[←hW8]at H8 hk8 HFX⊢;clear hW8;clear a0 a1 a2 a3 a4 a5 a6 z0 z1 z2 z3 z4 z5 z6;obtain⟨pA',pc',A',cc',he,-,hp8,hs8⟩:=hk8.st.held
 obtain⟨rfl,rfl,rfl,rfl⟩:pB=pA'∧pd=pc'∧B2=A'∧cd=cc':=by
  simp only[List.cons.injEq,Value.slice.injEq,true_and,and_true]at he;exact⟨he.1.1,he.1.2,he.2.1,he.2.2⟩
 have HST:=Ah (λ(w':Aj) (hb:Below W8.heap.size W8 w')=>show Rd w' pB 3 t2.cr.length (crs t2.cr)∧Dh w' B2 t2.l from⟨hp8.below hb,hs8.below hb⟩);clear he hp8 hs8 hk8;obtain⟨a0,a1,a2,a3,a4,a5,a6⟩:=Gb (H8.blk 0 _ _ _ rfl);have hq:=HQ.out _ H8.below;have hs:=HST.out _ (Ag _ _);go_wp2_with fail;refine(Nn 2 2 t2 m2 _ (Rw J2.out Ct Ct) pB pd B2 cd W8 hAB hs.1 hs.2 hq.1 hq.2.1).mono ?_;rintro ee w9 ⟨hb,pgA9,pgC9,rfl,hown⟩;have hl1:(atF t2.l ⟨0,0,0⟩).reverse.length=4:=Hs J2.out;rw[hl1,show 2*4=8 from rfl]at hown;rw[hl1,show 2*4=8 from rfl];obtain⟨g9,rfl⟩:=iE hown Ct;have H9:=H8.call hb;have hb89:=hb;obtain⟨O9,hO9⟩:=ey W8.heap.size;rw[hO9]at hown;have hFO:F5<O9:=hO9▸H8.lt 1 rfl;clear a0 a1 a2 a3 a4 a5 a6 hb H8 hO9;obtain⟨a0,a1,a2,a3,a4,a5,a6⟩:=Gb (H9.blk 0 _ _ _ rfl);have hq:=HQ.out _ H9.below;have hs:=HST.out _ hb89;go_wp2_with fail;refine(Vd 2 2 t2 m2 _ (Rw J2.out Ct Ct) (dY J2.out) pB pd B2 cd w9 hAB hs.1 hs.2 hq.1 hq.2.1).mono ?_;rintro ee w10 ⟨hb,G2,hG2,rfl,hfm⟩;have H10:=H9.call hb;have hF9:=H9.lt 1 rfl;have hown10:=Kh hown λq hq=>hb.block q (hown.lt q hq).2;have hb810:=hb89.trans (hb.mono hb89.size);obtain⟨⟨f0,f1⟩,z0,z1⟩:=Cy (H10.blk 1 _ _ _ rfl);have H11:=(H10.set 1 0 rfl (Ad (Af ⟨G2,0,Ae⟩) 2 2)).set 1 1 rfl (Ad (Af ⟨G2+2+1,0,Ae⟩) 2 2);have hfm11:=hfm.same (w':=(w10.setCell ⟨F5,0,Ae⟩ (Ad (Af ⟨G2,0,Ae⟩) 2 2)).setCell ⟨F5,1,Ae⟩ (Ad (Af ⟨G2+2+1,0,Ae⟩) 2 2)) λj hj _=>by rw[Db Ci,Db Ci]
 have hown11:=Ec (Ec hown10 hFO 0 (Ad (Af ⟨G2,0,Ae⟩) 2 2)) hFO 1 (Ad (Af ⟨G2+2+1,0,Ae⟩) 2 2)
 have HF11:Hid (∃fb fo,A3=Af ⟨fb,fo,Ae⟩∧((((w10.setCell ⟨F5,0,Ae⟩ (Ad (Af ⟨G2,0,Ae⟩) 2 2)).setCell ⟨F5,1,Ae⟩ (Ad (Af ⟨G2+2+1,0,Ae⟩) 2 2)).cell? ⟨fb,fo,Ae⟩=Af (Aa Ac 1)∧((w10.setCell ⟨F5,0,Ae⟩ (Ad (Af ⟨G2,0,Ae⟩) 2 2)).setCell ⟨F5,1,Ae⟩ (Ad (Af ⟨G2+2+1,0,Ae⟩) 2 2)).cell? ⟨fb,fo+1,Ae⟩=Af (Aa Ab 1)∧((w10.setCell ⟨F5,0,Ae⟩ (Ad (Af ⟨G2,0,Ae⟩) 2 2)).setCell ⟨F5,1,Ae⟩ (Ad (Af ⟨G2+2+1,0,Ae⟩) 2 2)).cell? ⟨fb,fo+2,Ae⟩=Af (Aa Ac 1)∧((w10.setCell ⟨F5,0,Ae⟩ (Ad (Af ⟨G2,0,Ae⟩) 2 2)).setCell ⟨F5,1,Ae⟩ (Ad (Af ⟨G2+2+1,0,Ae⟩) 2 2)).cell? ⟨fb,fo+3,Ae⟩=Af (.bool true))∧
   (((w10.setCell ⟨F5,0,Ae⟩ (Ad (Af ⟨G2,0,Ae⟩) 2 2)).setCell ⟨F5,1,Ae⟩ (Ad (Af ⟨G2+2+1,0,Ae⟩) 2 2)).cell? ⟨fb,fo+4,Ae⟩=Af (Aa Ac 2)∧((w10.setCell ⟨F5,0,Ae⟩ (Ad (Af ⟨G2,0,Ae⟩) 2 2)).setCell ⟨F5,1,Ae⟩ (Ad (Af ⟨G2+2+1,0,Ae⟩) 2 2)).cell? ⟨fb,fo+5,Ae⟩=Af (Aa Ab 1)∧((w10.setCell ⟨F5,0,Ae⟩ (Ad (Af ⟨G2,0,Ae⟩) 2 2)).setCell ⟨F5,1,Ae⟩ (Ad (Af ⟨G2+2+1,0,Ae⟩) 2 2)).cell? ⟨fb,fo+6,Ae⟩=Af (Aa Ac 1)∧((w10.setCell ⟨F5,0,Ae⟩ (Ad (Af ⟨G2,0,Ae⟩) 2 2)).setCell ⟨F5,1,Ae⟩ (Ad (Af ⟨G2+2+1,0,Ae⟩) 2 2)).cell? ⟨fb,fo+7,Ae⟩=Af (.bool true)))):=Ah (by
  obtain⟨fb,fo,e,hne,hlt,⟨h1,h2,h3,h4⟩,h5,h6,h7,h8⟩:=HFX.out;have up:∀o u,W8.cell? ⟨fb,o,Ae⟩=Af u→((w10.setCell ⟨F5,0,Ae⟩ (Ad (Af ⟨G2,0,Ae⟩) 2 2)).setCell ⟨F5,1,Ae⟩ (Ad (Af ⟨G2+2+1,0,Ae⟩) 2 2)).cell? ⟨fb,o,Ae⟩=Af u:=λo u h=>by rw[Gv hne,Gv hne];exact Cj hb810 h
  exact⟨fb,fo,e,⟨up _ _ h1,up _ _ h2,up _ _ h3,up _ _ h4⟩,up _ _ h5,up _ _ h6,up _ _ h7,up _ _ h8⟩)
 clear a0 a1 a2 a3 a4 a5 a6 hb H9 hown hown10 hfm H10 hs hq hb89 hb810 HST;unfold fmV;go_upto_region 9 with fail;obtain⟨W11,hW11⟩:=ez ((w10.setCell ⟨F5,0,Ae⟩ (Ad (Af ⟨G2,0,Ae⟩) 2 2)).setCell ⟨F5,1,Ae⟩ (Ad (Af ⟨G2+2+1,0,Ae⟩) 2 2));rw[←hW11]at H11 hfm11 hown11 HF11⊢;clear hW11;clear f0 f1 z0 z1 HFX;obtain⟨fb,fo,rfl,⟨k0,k1,k2,k3⟩,l0,l1,l2,l3⟩:=HF11.out;obtain⟨⟨f0,f1⟩,-⟩:=Cy (H11.blk 1 _ _ _ rfl);obtain⟨e0,e1,e2,e3,e4⟩:=E2.out;have hn8:8=2*(atF t2.l ⟨0,0,0⟩).reverse.length:=by rw[hl1]
 have pg:∀{k x y:Nat} {bk dn:Bool},(Jt t2)[k]? =Af (x,y,bk,dn)→k<8∧pgK 2 m2 (atF t2.l ⟨0,0,0⟩).reverse k=⟨x,y,bk,dn⟩:=λ{k x y bk dn} h=>by
  have:=Yp J2.out h;rw[hn8];exact this
 obtain⟨p00,p01,p02,p03⟩:=Rr (j0:=0) (j1:=1) (j2:=2) (j3:=3) hn8 hown11 (pg (k:=0) e1) rfl rfl rfl rfl;obtain⟨p10,p11,p12,p13⟩:=Rr (j0:=12) (j1:=13) (j2:=14) (j3:=15) hn8 hown11 (pg (k:=3) e2) rfl rfl rfl rfl;obtain⟨p20,p21,p22,p23⟩:=Rr (j0:=16) (j1:=17) (j2:=18) (j3:=19) hn8 hown11 (pg (k:=4) e3) rfl rfl rfl rfl;have htx:=jO J2.out ⟨Ct,Ct⟩ ⟨Ct,Ct⟩ W11 hfm11 (HQ.out _ H11.below).2.2;rw[e4]at htx;have HTX:=Ah htx;have HB:=Ah H11.below;clear htx e0 e1 e2 e3 e4 pg hown11 hfm11 hn8 hl1 H11 HF11;go_wp2_with fail;refine HTX.out.mono ?_;rintro ee w12 ⟨rfl,hb⟩;have HB2:=Ah (HB.out.trans (hb.mono HB.out.size));rw[show bsL Au5=(⟨#[102,114,111,110,116,10,45,50,32,45,51,10,55,32,54,10,98,97,99,107,10,45,52,32,45,49,10,53,32,56,10]⟩:ByteArray)from rfl];clear hb HTX p00 p01 p02 p03 p10 p11 p12 p13 p20 p21 p22 p23 f0 f1 k0 k1 k2 k3 l0 l1 l2 l3;go_wp2;go_ret;exact⟨rfl,HB2.out⟩
theorem An9 (p:Pg) (n:Int):sgn p (sgn p n)=n:=by
 unfold sgn
 split
 ·exact Int.neg_neg n
 ·rfl
theorem Aa6 {a b G:Nat} {t:St} {m:List Mv} (I:Fk a b 1 1 t m) (ha:1≤a∧a≤8) (hb:1≤b∧b≤4) (w:Aj) (h:FmA w G a b (fmT a (pgK a m (Do t)) (2*(Do t).length))) (pA:Option Addr) (pc:Nat) (A:Option Addr) (cc:Nat) (hA:AOk pA t.cr.length pc) (hpr:Rd w pA 3 t.cr.length (crs t.cr)) (hst:Dh w A t.l) (hQ:Qf w) (hT:Tn w):
  Al Tryz.prog 9 #[.agg (fmV G a b),.agg #[Aa Ab t.a,Aa Ab t.b,Ad pA t.cr.length pc,Aa Ac t.root.t,Aa Ab t.root.x,Aa Ab t.root.y,Ad A t.l.length cc]] w λe w'=>Below w.heap.size w w'∧∃g,w.heap.size≤g∧e= .returned (.tuple #[Ad (Af ⟨g,0,Ae⟩) (2*(a*b)) (2*(a*b)),Aa Ab 0])∧w'.heap[g]? =Af (Ms (2*(a*b)) λk=>(k:Int)+1):=by
 have hin:=h.inn Ci Ci;have hc:=jE a b t m _ (Rw I ha.2 hb.2) (dY I) (Af ⟨G,0,Ae⟩) (Af ⟨G+b+1,0,Ae⟩) _ _ b b pA pc A cc w hin hA hpr hst hQ hT;rw[Nl,Nl,Wo,Wo]at hc;have hl:(atF t.l ⟨0,0,0⟩).reverse.length=a*b:=Hs I
 have hE:fmE (Hj a b (fmT a (pgK a m (Do t)) (2*(Do t).length)).1) (Hj a b (fmT a (pgK a m (Do t)) (2*(Do t).length)).2)=0:=by
  rw[Hs I];exact xR ha.1 hb.1 (Uv I) rfl
 refine hc.mono ?_;rintro e w' ⟨h1,h2⟩;rw[hE,hl]at h2;rcases h2 with⟨h0,-⟩|⟨-,h0,-⟩|⟨-,-,g,hg,rfl,hh⟩
 ·exact absurd rfl h0
 ·refine absurd ⟨Va a b _,?_⟩ h0;rw[Qk hb.1,Bo,List.length_range]
 ·refine⟨h1,g,hg,rfl,hh.trans (congrArg Af ?_)⟩;unfold Ms
  congr 2
  apply List.map_congr_left;intro k hk;have hk:=List.mem_range.1 hk;have hP:=Uv I;obtain⟨hx,hy⟩:=hP.lt k hk
  have e1:fmL (Hj a b (fmT a (pgK a m (Do t)) (2*(Do t).length)).1) (Hj a b (fmT a (pgK a m (Do t)) (2*(Do t).length)).2) (pgK a m (Do t) k)=sgn (pgK a m (Do t) k) ((k:Int)+1):=by
   rw[xS hx hy,Hs I];exact Xj hP _ (Am _) k hk
  show Value.int .i64 (sgn (pgK a m (Do t) k) (fmL _ _ (pgK a m (Do t) k)))=_;rw[e1,An9]
theorem Ay2 {a b:Nat} {t:St} {m:List Mv} (I:Fk a b 1 1 t m):upF t.a t.b t.cr t.root=(m.map λx=> !Hy x,0):=by
 unfold upF;rw[I.G.both];rfl
theorem Ap3 {a b:Nat} {t:St} {m:List Mv} (I:Fk a b 1 1 t m) {k:Nat} (hk:k<2*(a*b)) (h2:k%2=0):4*((pgK a m (Do t) k).y*a+(pgK a m (Do t) k).x)<m.length∧(m.map λx=> !Hy x)[4*((pgK a m (Do t) k).y*a+(pgK a m (Do t) k).x)]? =Af (!(pgK a m (Do t) k).bk):=by
 have e4:4*a*b=4*(a*b):=Nat.mul_assoc 4 a b;have hl:=Hs I;have hki:k/2<(Do t).length:=Ci;have hg:(Do t).getD (k/2) 0=(Do t)[k/2]:=by rw[List.getD_eq_getElem?_getD,Aw hki];rfl
 have hlt:=Px I (Ay hki);unfold pgK;rw[if_pos h2,hg];unfold pgA;dsimp only
 have hsq:(Do t)[k/2]/4/a*a+(Do t)[k/2]/4%a=(Do t)[k/2]/4:=by
  rw[Nat.mul_comm];exact Nat.div_add_mod _ _
 rw[hsq];obtain⟨q,r,hq,hr⟩:∃q r,(Do t)[k/2]=4*q+r∧r<4:=⟨(Do t)[k/2]/4,(Do t)[k/2]%4,Ci,Ci⟩;rw[hq]at hlt⊢;rw[show(4*q+r)/4=q by omega];have hqa:q<a*b:=Ci;have hs:=Yz I hqa hr;have hml:=I.G.pl.len;refine⟨Ci,?_⟩;rw[List.getElem?_map,Aw Ci];have h0:m[4*q]'(by omega)=m.getD (4*q) mv0:=by rw[List.getD_eq_getElem?_getD,Aw Ci];rfl
 rw[h0,hs];have hok:=I.G.pl.ok (4*q) Ci;unfold Hy;simp only[Option.map_some];rw[hok,Bool.true_and]
theorem An3 (a:Nat) (m:List Mv) (ids:List Nat) (k:Nat) (h:k%2=0):pgK a m ids (k+1)=(pgK a m ids k).flip:=by
 unfold pgK;rw[if_neg Ci,if_pos h,show(k+1)/2=k/2 by omega]
theorem Ak6 {a px:Nat} (ha:1≤a∧a≤8) (hx:px<a):Ab.wrap ((a:Int)-1)=(a:Int)-1∧Ab.wrap ((a:Int)-1-(px:Int))=(a:Int)-1-(px:Int)∧¬((a:Int)-1-(px:Int)<0)∧(a:Int)-1-(px:Int)<(a:Int):=
 ⟨Ca _ Ci,Ca _ Ci,Ci,Ci⟩
structure LrC (a b G g k:Nat) (pb po:Nat) (p q:Pg) (X:Aj):Prop where
 n:X.cell? ⟨g,k,Ae⟩=Af (Aa Ab ((k:Int)+1))
 cp:X.cell? ⟨pb,po+k*4,Ae⟩=Af (Aa Ab (p.x:Nat))∧X.cell? ⟨pb,po+k*4+1,Ae⟩=Af (Aa Ab (p.y:Nat))∧X.cell? ⟨pb,po+k*4+2,Ae⟩=Af (.bool p.bk)∧X.cell? ⟨pb,po+k*4+3,Ae⟩=Af (.bool p.dn)
 cq:k%2=0→X.cell? ⟨pb,po+(k+1)*4,Ae⟩=Af (Aa Ab (q.x:Nat))∧X.cell? ⟨pb,po+(k+1)*4+1,Ae⟩=Af (Aa Ab (q.y:Nat))∧X.cell? ⟨pb,po+(k+1)*4+2,Ae⟩=Af (.bool q.bk)∧X.cell? ⟨pb,po+(k+1)*4+3,Ae⟩=Af (.bool q.dn)
 hf:X.cell? ⟨G,p.y,Ae⟩=Af (Ad (Af ⟨G+1+p.y,0,Ae⟩) a a)
 hb:X.cell? ⟨G+b+1,p.y,Ae⟩=Af (Ad (Af ⟨G+b+2+p.y,0,Ae⟩) a a)
 fr:∃u,X.cell? ⟨G+1+p.y,p.x,Ae⟩=Af (Aa Ab u)∧(p.bk=false→u=sgn p ((k:Int)+1))
 v:X.cell? ⟨(fmP G a b p).1,(fmP G a b p).2,Ae⟩=Af (Aa Ab (sgn p ((k:Int)+1)))
theorem gL {a b G g n O c:Nat} {t:St} {m:List Mv} {ids:List Nat} {A:Option Addr} {W:Aj} (I:Fk a b 1 1 t m) (hids:Do t=ids) (hn:n=2*ids.length) (hnn:n=2*(a*b)) (hb1:1≤b) (hfm:FmA W G a b (fmT a (pgK a m ids) (2*ids.length))) (hown:W.ownsRow O 50 4 (Ad A n c) n (pgs a m ids)) (hg:W.heap[g]? =Af (Ms n λk=>(k:Int)+1)):
  ∀k,k<n→∃pb po,A=Af ⟨pb,po,Ae⟩∧(pgK a m ids k).x<a∧(pgK a m ids k).y<b∧∀X,Below W.heap.size W X→LrC a b G g k pb po (pgK a m ids k) (pgK a m ids (k+1)) X:=by
 subst hids;intro k hk;have hP:=Uv I;obtain⟨hx,hy⟩:=hP.lt k Ci;have hrd:=Rd.of_own hown;obtain⟨pb,po,e,-⟩:=bI hn hrd k hk;refine⟨pb,po,e,hx,hy,λX hX=>?_⟩;have hrd:=hrd.below hX;have hfm:=hfm.same λj _ hj=>hX.block j (Bq hj (hfm.lt hb1));have hg:=(hX.block g (Au.1 hg).1).trans hg;obtain⟨b1,o1,e1,-,p0,p1,p2,p3⟩:=bI hn hrd k hk;rw[e]at e1;obtain⟨rfl,rfl⟩:pb=b1∧po=o1:=by simpa using e1
 have hv:=(hfm.cell hx hy).1;rw[←hn,Xj hP n Ci k hk]at hv;refine⟨(Lr hg hk).1,⟨p0,p1,p2,p3⟩,λh2=>?_,Ng hfm.hF hy,Ng hfm.hB hy,⟨_,(Lr (hfm.rF _ hy) hx).1,λh0=>?_⟩,hv⟩
 ·obtain⟨b2,o2,e2,-,q0,q1,q2,q3⟩:=bI hn hrd (k+1) Ci;rw[e]at e2;obtain⟨rfl,rfl⟩:pb=b2∧po=o2:=by simpa using e2
  exact⟨q0,q1,q2,q3⟩
 ·have h9:=Xj hP n Ci k hk;unfold fmG at h9;rw[h0,if_neg Ct]at h9;rw[←hn];exact h9
theorem yX {a b n g0:Nat} {t:St} {m:List Mv} {ids:List Nat} {W:Aj} (I:Fk a b 1 1 t m) (hids:Do t=ids) (ha:1≤a∧a≤8) (hb:1≤b∧b≤4) (hnn:n=2*(a*b)) (hg:W.heap[g0]? =Af (Obj.cells (De (m.map λx=> !Hy x)).toArray 4 (0,0))):
  ∀k,k<n→k%2=0→∃i1 i2 iu:Nat,(iu:Int)<((m.map λx=> !Hy x).length:Int)∧Ab.wrap (((pgK a m ids k).y:Int)*(a:Int))=(i1:Int)∧Ab.wrap ((i1:Int)+((pgK a m ids k).x:Int))=(i2:Int)∧Ab.wrap (4*(i2:Int))=(iu:Int)∧∀X,Below W.heap.size W X→X.cell? ⟨g0,iu,Ae⟩=Af (.bool (!(pgK a m ids k).bk)):=by
 subst hids;intro k hk h2;have hP:=Uv I;have hl:(Do t).length=a*b:=Hs I;obtain⟨hx,hy⟩:=hP.lt k Ci;obtain⟨hlt,hc⟩:=Ap3 I (by omega:k<2*(a*b)) h2
 generalize pgK a m (Do t) k=p at hx hy hlt hc
 have hm:p.y*a≤4*8:=Nat.mul_le_mul Ci Ci;have hmi:(p.y:Int)*(a:Int)=((p.y*a:Nat):Int):=Cn
 generalize p.y*a=i1 at hlt hc hm hmi
 refine⟨i1,i1+p.x,4*(i1+p.x),?_,?_,?_,?_,λX hX=>?_⟩
 ·rw[Bo];omega
 ·rw[hmi];exact Ca _ Ci
 ·rw[Ca _ Ci];omega
 ·rw[Ca _ Ci];omega
 ·have hl0:=(Au.1 hg).1;have e:=(hX.block g0 hl0).trans hg;unfold World.cell?;simp[e,De,List.getElem?_map]at hc⊢;simpa using hc
theorem Ak5 {a b ul:Nat} {t:St} {m:List Mv} (I:Fk a b 1 1 t m) (ha:1≤a∧a≤8) (hb:1≤b∧b≤4) (hul:(m.map λx=> !Hy x).length=ul):Ab.wrap (4*(a:Int))=4*(a:Int)∧Ab.wrap (4*(a:Int)*(b:Int))=(ul:Int):=by
 have hml:=I.G.pl.len;have h1:a*b≤8*4:=Nat.mul_le_mul ha.2 hb.2;have h2:(a:Int)*(b:Int)=((a*b:Nat):Int):=Cn;have e4:4*a*b=4*(a*b):=Nat.mul_assoc 4 a b;rw[Bo]at hul;refine⟨Ca _ Ci,?_⟩;rw[Int.mul_assoc,h2,Ca _ Ci];omega
end Go.Proofs.YthpcfeifmdbhnaaGreatDoor
